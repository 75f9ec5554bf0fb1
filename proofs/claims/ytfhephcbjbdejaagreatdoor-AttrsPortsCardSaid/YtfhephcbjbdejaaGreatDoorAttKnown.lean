/- What the document's Known returns. -/
import Derived.Test.YtfhephcbjbdejaaGreatDoorAttRule
namespace Go.Proofs.YtfhephcbjbdejaaGreatDoor.At
open Go.RowKit Go.Sort Go.Lib Go.Shelf Fx Lx

def nodeK (l : List UInt8) : Rul := if l = [108, 97, 98, 101, 108] then (1, 0, 0, 0) else if l = [119, 105, 100, 116, 104] then (2, 1, 1048576, 20000) else if l = [104, 101, 105, 103, 104, 116] then (2, 1, 1048576, 10000) else if l = [112, 111, 114, 116, 115] then (4, 0, 0, 0) else (0, 0, 0, 0)
def edgeK (l : List UInt8) : Rul := if l = [108, 97, 98, 101, 108] then (1, 0, 0, 0) else if l = [119, 101, 105, 103, 104, 116] then (3, 1, 1000, 1) else if l = [108, 101, 110] then (3, 1, 64, 1) else (0, 0, 0, 0)
def setK (l : List UInt8) : Rul := if l = [109, 111, 100, 101] then (5, 0, 0, 0) else if l = [110, 111, 100, 101, 115, 101, 112] then (2, 0, 1048576, 10000) else if l = [114, 97, 110, 107, 115, 101, 112] then (2, 0, 1048576, 20000) else if l = [109, 97, 114, 103, 105, 110] then (2, 0, 1048576, 5000) else if l = [114, 111, 117, 110, 100, 115] then (3, 0, 100, 8) else (0, 0, 0, 0)
def knownT (kind : Int) (l : List UInt8) : Rul := if kind = 1 then nodeK l else if kind = 2 then edgeK l else if kind = 4 then setK l else (0, 0, 0, 0)
def knownV (r : Rul) : Value := .agg #[.int .i64 r.1, .int .i64 r.2.1, .int .i64 r.2.2.1, .int .i64 r.2.2.2]
theorem key_eq (key : ByteArray) (l : List UInt8) (h : key.data.toList = l) : key = ⟨l.toArray⟩ := by
  apply ByteArray.ext
  apply Array.toList_inj.1
  rw [h]
theorem key_ne (key : ByteArray) (l : List UInt8) (h : key.data.toList ≠ l) : (key.toList == l) = false := by
  rw [ByteArray.toList_eq]; simpa using h
set_option maxHeartbeats 2000000 in
set_option maxRecDepth 100000 in
theorem known_node (key : ByteArray) (w : World) :
    Calls Tryz.prog 21 #[.int .i64 1, .string key] w fun e w' => e = .returned (knownV (nodeK key.data.toList)) ∧ Ext w w' := by
  by_cases n0 : key.data.toList = [108, 97, 98, 101, 108]
  · have e : nodeK key.data.toList = (1, 0, 0, 0) := by rw [n0]; rfl
    rw [e]
    obtain rfl := key_eq _ _ n0
    clear e n0
    go_enter Tryz.func21, Tryz.ntmps21
    go_wp2
    go_returns
    exact ⟨rfl, ((Ext.refl _).alloc _)⟩
  by_cases n1 : key.data.toList = [119, 105, 100, 116, 104]
  · have e : nodeK key.data.toList = (2, 1, 1048576, 20000) := by rw [n1]; rfl
    rw [e]
    obtain rfl := key_eq _ _ n1
    clear e n0 n1
    go_enter Tryz.func21, Tryz.ntmps21
    go_wp2
    go_returns
    exact ⟨rfl, ((Ext.refl _).alloc _)⟩
  by_cases n2 : key.data.toList = [104, 101, 105, 103, 104, 116]
  · have e : nodeK key.data.toList = (2, 1, 1048576, 10000) := by rw [n2]; rfl
    rw [e]
    obtain rfl := key_eq _ _ n2
    clear e n0 n1 n2
    go_enter Tryz.func21, Tryz.ntmps21
    go_wp2
    go_returns
    exact ⟨rfl, ((Ext.refl _).alloc _)⟩
  by_cases n3 : key.data.toList = [112, 111, 114, 116, 115]
  · have e : nodeK key.data.toList = (4, 0, 0, 0) := by rw [n3]; rfl
    rw [e]
    obtain rfl := key_eq _ _ n3
    clear e n0 n1 n2 n3
    go_enter Tryz.func21, Tryz.ntmps21
    go_wp2
    go_returns
    exact ⟨rfl, ((Ext.refl _).alloc _)⟩
  have e : nodeK key.data.toList = (0, 0, 0, 0) := by unfold nodeK; rw [if_neg n0, if_neg n1, if_neg n2, if_neg n3]
  rw [e]
  have f0 := key_ne _ _ n0
  have f1 := key_ne _ _ n1
  have f2 := key_ne _ _ n2
  have f3 := key_ne _ _ n3
  clear e n0 n1 n2 n3
  go_enter Tryz.func21, Tryz.ntmps21
  go_wp2
  go_returns
  exact ⟨rfl, ((Ext.refl _).alloc _)⟩
set_option maxHeartbeats 2000000 in
set_option maxRecDepth 100000 in
theorem known_edge (key : ByteArray) (w : World) :
    Calls Tryz.prog 21 #[.int .i64 2, .string key] w fun e w' => e = .returned (knownV (edgeK key.data.toList)) ∧ Ext w w' := by
  by_cases n0 : key.data.toList = [108, 97, 98, 101, 108]
  · have e : edgeK key.data.toList = (1, 0, 0, 0) := by rw [n0]; rfl
    rw [e]
    obtain rfl := key_eq _ _ n0
    clear e n0
    go_enter Tryz.func21, Tryz.ntmps21
    go_wp2
    go_returns
    exact ⟨rfl, ((Ext.refl _).alloc _)⟩
  by_cases n1 : key.data.toList = [119, 101, 105, 103, 104, 116]
  · have e : edgeK key.data.toList = (3, 1, 1000, 1) := by rw [n1]; rfl
    rw [e]
    obtain rfl := key_eq _ _ n1
    clear e n0 n1
    go_enter Tryz.func21, Tryz.ntmps21
    go_wp2
    go_returns
    exact ⟨rfl, ((Ext.refl _).alloc _)⟩
  by_cases n2 : key.data.toList = [108, 101, 110]
  · have e : edgeK key.data.toList = (3, 1, 64, 1) := by rw [n2]; rfl
    rw [e]
    obtain rfl := key_eq _ _ n2
    clear e n0 n1 n2
    go_enter Tryz.func21, Tryz.ntmps21
    go_wp2
    go_returns
    exact ⟨rfl, ((Ext.refl _).alloc _)⟩
  have e : edgeK key.data.toList = (0, 0, 0, 0) := by unfold edgeK; rw [if_neg n0, if_neg n1, if_neg n2]
  rw [e]
  have f0 := key_ne _ _ n0
  have f1 := key_ne _ _ n1
  have f2 := key_ne _ _ n2
  clear e n0 n1 n2
  go_enter Tryz.func21, Tryz.ntmps21
  go_wp2
  go_returns
  exact ⟨rfl, ((Ext.refl _).alloc _)⟩
set_option maxHeartbeats 2000000 in
set_option maxRecDepth 100000 in
theorem known_set (key : ByteArray) (w : World) :
    Calls Tryz.prog 21 #[.int .i64 4, .string key] w fun e w' => e = .returned (knownV (setK key.data.toList)) ∧ Ext w w' := by
  by_cases n0 : key.data.toList = [109, 111, 100, 101]
  · have e : setK key.data.toList = (5, 0, 0, 0) := by rw [n0]; rfl
    rw [e]
    obtain rfl := key_eq _ _ n0
    clear e n0
    go_enter Tryz.func21, Tryz.ntmps21
    go_wp2
    go_returns
    exact ⟨rfl, ((Ext.refl _).alloc _)⟩
  by_cases n1 : key.data.toList = [110, 111, 100, 101, 115, 101, 112]
  · have e : setK key.data.toList = (2, 0, 1048576, 10000) := by rw [n1]; rfl
    rw [e]
    obtain rfl := key_eq _ _ n1
    clear e n0 n1
    go_enter Tryz.func21, Tryz.ntmps21
    go_wp2
    go_returns
    exact ⟨rfl, ((Ext.refl _).alloc _)⟩
  by_cases n2 : key.data.toList = [114, 97, 110, 107, 115, 101, 112]
  · have e : setK key.data.toList = (2, 0, 1048576, 20000) := by rw [n2]; rfl
    rw [e]
    obtain rfl := key_eq _ _ n2
    clear e n0 n1 n2
    go_enter Tryz.func21, Tryz.ntmps21
    go_wp2
    go_returns
    exact ⟨rfl, ((Ext.refl _).alloc _)⟩
  by_cases n3 : key.data.toList = [109, 97, 114, 103, 105, 110]
  · have e : setK key.data.toList = (2, 0, 1048576, 5000) := by rw [n3]; rfl
    rw [e]
    obtain rfl := key_eq _ _ n3
    clear e n0 n1 n2 n3
    go_enter Tryz.func21, Tryz.ntmps21
    go_wp2
    go_returns
    exact ⟨rfl, ((Ext.refl _).alloc _)⟩
  by_cases n4 : key.data.toList = [114, 111, 117, 110, 100, 115]
  · have e : setK key.data.toList = (3, 0, 100, 8) := by rw [n4]; rfl
    rw [e]
    obtain rfl := key_eq _ _ n4
    clear e n0 n1 n2 n3 n4
    go_enter Tryz.func21, Tryz.ntmps21
    go_wp2
    go_returns
    exact ⟨rfl, ((Ext.refl _).alloc _)⟩
  have e : setK key.data.toList = (0, 0, 0, 0) := by unfold setK; rw [if_neg n0, if_neg n1, if_neg n2, if_neg n3, if_neg n4]
  rw [e]
  have f0 := key_ne _ _ n0
  have f1 := key_ne _ _ n1
  have f2 := key_ne _ _ n2
  have f3 := key_ne _ _ n3
  have f4 := key_ne _ _ n4
  clear e n0 n1 n2 n3 n4
  go_enter Tryz.func21, Tryz.ntmps21
  go_wp2
  go_returns
  exact ⟨rfl, ((Ext.refl _).alloc _)⟩
set_option maxHeartbeats 2000000 in
set_option maxRecDepth 100000 in
theorem known_other (kind : Int) (key : ByteArray) (w : World) (h1 : kind ≠ 1) (h2 : kind ≠ 2) (h4 : kind ≠ 4) :
    Calls Tryz.prog 21 #[.int .i64 kind, .string key] w fun e w' => e = .returned (knownV (0, 0, 0, 0)) ∧ Ext w w' := by
  obtain ⟨f1, _⟩ := ne_facts h1
  obtain ⟨f2, _⟩ := ne_facts h2
  obtain ⟨f4, _⟩ := ne_facts h4
  go_enter Tryz.func21, Tryz.ntmps21
  go_wp2
  go_returns
  exact ⟨rfl, ((Ext.refl _).alloc _)⟩
theorem known_any (kind : Int) (key : ByteArray) (w : World) :
    Calls Tryz.prog 21 #[.int .i64 kind, .string key] w fun e w' => e = .returned (knownV (knownT kind key.data.toList)) ∧ Ext w w' := by
  by_cases h1 : kind = 1
  · subst h1; exact known_node key w
  by_cases h2 : kind = 2
  · subst h2; exact known_edge key w
  by_cases h4 : kind = 4
  · subst h4; exact known_set key w
  have e : knownT kind key.data.toList = (0, 0, 0, 0) := by unfold knownT; rw [if_neg h1, if_neg h2, if_neg h4]
  rw [e]
  exact known_other kind key w h1 h2 h4
end Go.Proofs.YtfhephcbjbdejaaGreatDoor.At
