/- The rules of the attributes: look-ups in the program's map. -/
import Derived.Test.YtfhephcbjbdejaaGreatDoorAttRules
namespace Go.Proofs.YtfhephcbjbdejaaGreatDoor.At
open Go.RowKit Go.Sort Go.Lib Go.Shelf Fx Lx

abbrev Rul := Int × Int × Int × Int
def nodeR (l : List UInt8) : Rul := if l = [108, 97, 98, 101, 108] then (1, 0, 0, 0) else if l = [119, 105, 100, 116, 104] then (3, 1, 1048576, 20000) else if l = [104, 101, 105, 103, 104, 116] then (3, 1, 1048576, 10000) else if l = [112, 111, 114, 116, 115] then (2, 0, 0, 0) else (0, 0, 0, 0)
def edgeR (l : List UInt8) : Rul := if l = [108, 97, 98, 101, 108] then (1, 0, 0, 0) else if l = [119, 101, 105, 103, 104, 116] then (4, 1000, 1000000, 1000) else if l = [108, 101, 110] then (4, 1000, 64000, 1000) else (0, 0, 0, 0)
def setR (l : List UInt8) : Rul := if l = [109, 111, 100, 101] then (5, 0, 0, 0) else if l = [110, 111, 100, 101, 115, 101, 112] then (3, 0, 1048576, 10000) else if l = [114, 97, 110, 107, 115, 101, 112] then (3, 0, 1048576, 20000) else if l = [109, 97, 114, 103, 105, 110] then (3, 0, 1048576, 5000) else if l = [114, 111, 117, 110, 100, 115] then (4, 0, 100000, 8000) else (0, 0, 0, 0)
def ruleT (kind : Int) (l : List UInt8) : Rul := if kind = 1 then nodeR l else if kind = 2 then edgeR l else if kind = 4 then setR l else (0, 0, 0, 0)
def ruleVal (r : Rul) (ws : Value) : Value := mkRule r.1 r.2.1 r.2.2.1 r.2.2.2 (if r.1 = 5 then ws else .slice none 0 0)
def zeroR : Value := mkRule 0 0 0 0 (.slice none 0 0)
theorem zero_rule (w : World) : (zeroValue 61).run Tryz.prog w = .ok zeroR w := by
  kernel_rfl
def WordsAt (w : World) (ws : Value) : Prop := ∃ g, ws = .slice (some ⟨g, 0, none⟩) 5 5 ∧ ∀ j, j < 5 → w.cell? ⟨g, 0 + j, none⟩ = some (.string (modesL.getD j ByteArray.empty))
/-- The words lie in a block from n on. -/
def WordsN (n : Nat) (w : World) (ws : Value) : Prop := ∃ g, n ≤ g ∧ ws = .slice (some ⟨g, 0, none⟩) 5 5 ∧ ∀ j, j < 5 → w.cell? ⟨g, 0 + j, none⟩ = some (.string (modesL.getD j ByteArray.empty))
theorem WordsN.at {n : Nat} {w : World} {ws : Value} (h : WordsN n w ws) : WordsAt w ws := by
  obtain ⟨g, _, h1, h2⟩ := h
  exact ⟨g, h1, h2⟩
theorem WordsN.set {n : Nat} {w : World} {ws : Value} (h : WordsN n w ws) {B : Nat} (hB : B < n) (i : Nat) (v : Value) : WordsN n (w.setCell ⟨B, i, none⟩ v) ws := by
  obtain ⟨g, h0, h1, h2⟩ := h
  exact ⟨g, h0, h1, fun j hj => by rw [World.cell?_setCell_other (h := fun e => by injection e with e; omega)]; exact h2 j hj⟩
theorem WordsN.alloc {n : Nat} {w : World} {ws : Value} (h : WordsN n w ws) (o : Obj) : WordsN n (w.alloc o) ws := by
  obtain ⟨g, h0, h1, h2⟩ := h
  exact ⟨g, h0, h1, fun j hj => ((Ext.refl _).alloc o).cell (h2 j hj)⟩
def LookAt (w : World) (m : Value) (kind : Int) (ws : Value) : Prop := ∀ key : ByteArray, key.size ≤ maxLen →
  (Instr.lookup 62 m (.string key) true).run Tryz.prog w = .ok (.tuple #[ruleVal (ruleT kind key.data.toList) ws, .bool (decide ((ruleT kind key.data.toList).1 ≠ 0))]) w ∧
  (Instr.lookup 62 m (.string key) false).run Tryz.prog w = .ok (ruleVal (ruleT kind key.data.toList) ws) w
theorem key_lit (l : List UInt8) : WideAt.IsKeyLit (.string l) := by
  unfold WideAt.IsKeyLit; trivial
theorem look_at {w : World} {b n : Nat} {D : DataW Value} {kind : Int} {ws : Value} (h : w.ownsMap Tryz.prog 9 RH b n D)
    (h1 : ∀ l, D.atKey (.string l) (.held zeroR) = .held (ruleVal (ruleT kind l) ws)) (h2 : ∀ l, Go.Maps.has D (.string l) = decide ((ruleT kind l).1 ≠ 0)) : LookAt w (.map (some b)) kind ws := fun key hk => by
  have hkey := Go.WideMaps.keyOf_string_mk (P := Tryz.prog) Tryz.underlying9 hk
  obtain ⟨v, ps, hr, hv⟩ := h.look_ok key9 Tryz.underlying62 (zero_rule w) (zd := .held zeroR) (zp := []) rfl hkey
  obtain ⟨v2, ps2, hr2, hv2⟩ := h.lookup key9 Tryz.underlying62 (zero_rule w) (zd := .held zeroR) (zp := []) rfl hkey
  rw [h1] at hv hv2
  unfold RH at hv hv2
  simp only [Option.some.injEq, Prod.mk.injEq, DataW.held.injEq] at hv hv2
  rw [hv.1, h2] at hr
  rw [hv2.1] at hr2
  exact ⟨hr, hr2⟩
theorem lit_ne {a b : List UInt8} (h : a ≠ b) : (Lit.string a) ≠ .string b := fun e => h (by injection e)
theorem node_at (l : List UInt8) (ws : Value) : (nodeD).atKey (.string l) (.held zeroR) = .held (ruleVal (ruleT 1 l) ws) ∧ Go.Maps.has (nodeD) (.string l) = decide ((ruleT 1 l).1 ≠ 0) := by
  have e : ruleT 1 l = nodeR l := rfl
  rw [e]
  unfold nodeD nodeR
  have m0 : Go.Maps.IsMap (.map [] : DataW Value) := Go.Maps.isMap_empty
  have m1 := m0.put (.string [108, 97, 98, 101, 108]) (.held (mkRule 1 0 0 0 (.slice none 0 0)))
  have m2 := m1.put (.string [119, 105, 100, 116, 104]) (.held (mkRule 3 1 1048576 20000 (.slice none 0 0)))
  have m3 := m2.put (.string [104, 101, 105, 103, 104, 116]) (.held (mkRule 3 1 1048576 10000 (.slice none 0 0)))
  have m4 := m3.put (.string [112, 111, 114, 116, 115]) (.held (mkRule 2 0 0 0 (.slice none 0 0)))
  by_cases n0 : l = [108, 97, 98, 101, 108]
  · subst n0
    exact ⟨by rw [Go.Maps.atKey_put_other (lit_ne (a := [108, 97, 98, 101, 108]) (b := [112, 111, 114, 116, 115]) (by decide)), Go.Maps.atKey_put_other (lit_ne (a := [108, 97, 98, 101, 108]) (b := [104, 101, 105, 103, 104, 116]) (by decide)), Go.Maps.atKey_put_other (lit_ne (a := [108, 97, 98, 101, 108]) (b := [119, 105, 100, 116, 104]) (by decide)), Go.Maps.atKey_put_same m0 (key_lit _)]; rfl, by rw [Go.Maps.has_put_other (lit_ne (a := [108, 97, 98, 101, 108]) (b := [112, 111, 114, 116, 115]) (by decide)), Go.Maps.has_put_other (lit_ne (a := [108, 97, 98, 101, 108]) (b := [104, 101, 105, 103, 104, 116]) (by decide)), Go.Maps.has_put_other (lit_ne (a := [108, 97, 98, 101, 108]) (b := [119, 105, 100, 116, 104]) (by decide)), Go.Maps.has_put_same m0 (key_lit _)]; rfl⟩
  by_cases n1 : l = [119, 105, 100, 116, 104]
  · subst n1
    exact ⟨by rw [Go.Maps.atKey_put_other (lit_ne (a := [119, 105, 100, 116, 104]) (b := [112, 111, 114, 116, 115]) (by decide)), Go.Maps.atKey_put_other (lit_ne (a := [119, 105, 100, 116, 104]) (b := [104, 101, 105, 103, 104, 116]) (by decide)), Go.Maps.atKey_put_same m1 (key_lit _)]; rfl, by rw [Go.Maps.has_put_other (lit_ne (a := [119, 105, 100, 116, 104]) (b := [112, 111, 114, 116, 115]) (by decide)), Go.Maps.has_put_other (lit_ne (a := [119, 105, 100, 116, 104]) (b := [104, 101, 105, 103, 104, 116]) (by decide)), Go.Maps.has_put_same m1 (key_lit _)]; rfl⟩
  by_cases n2 : l = [104, 101, 105, 103, 104, 116]
  · subst n2
    exact ⟨by rw [Go.Maps.atKey_put_other (lit_ne (a := [104, 101, 105, 103, 104, 116]) (b := [112, 111, 114, 116, 115]) (by decide)), Go.Maps.atKey_put_same m2 (key_lit _)]; rfl, by rw [Go.Maps.has_put_other (lit_ne (a := [104, 101, 105, 103, 104, 116]) (b := [112, 111, 114, 116, 115]) (by decide)), Go.Maps.has_put_same m2 (key_lit _)]; rfl⟩
  by_cases n3 : l = [112, 111, 114, 116, 115]
  · subst n3
    exact ⟨by rw [Go.Maps.atKey_put_same m3 (key_lit _)]; rfl, by rw [Go.Maps.has_put_same m3 (key_lit _)]; rfl⟩
  exact ⟨by rw [Go.Maps.atKey_put_other (lit_ne n3), Go.Maps.atKey_put_other (lit_ne n2), Go.Maps.atKey_put_other (lit_ne n1), Go.Maps.atKey_put_other (lit_ne n0), if_neg n0, if_neg n1, if_neg n2, if_neg n3]; rfl, by rw [Go.Maps.has_put_other (lit_ne n3), Go.Maps.has_put_other (lit_ne n2), Go.Maps.has_put_other (lit_ne n1), Go.Maps.has_put_other (lit_ne n0), if_neg n0, if_neg n1, if_neg n2, if_neg n3]; rfl⟩
theorem edge_at (l : List UInt8) (ws : Value) : (edgeD).atKey (.string l) (.held zeroR) = .held (ruleVal (ruleT 2 l) ws) ∧ Go.Maps.has (edgeD) (.string l) = decide ((ruleT 2 l).1 ≠ 0) := by
  have e : ruleT 2 l = edgeR l := rfl
  rw [e]
  unfold edgeD edgeR
  have m0 : Go.Maps.IsMap (.map [] : DataW Value) := Go.Maps.isMap_empty
  have m1 := m0.put (.string [108, 97, 98, 101, 108]) (.held (mkRule 1 0 0 0 (.slice none 0 0)))
  have m2 := m1.put (.string [119, 101, 105, 103, 104, 116]) (.held (mkRule 4 1000 1000000 1000 (.slice none 0 0)))
  have m3 := m2.put (.string [108, 101, 110]) (.held (mkRule 4 1000 64000 1000 (.slice none 0 0)))
  by_cases n0 : l = [108, 97, 98, 101, 108]
  · subst n0
    exact ⟨by rw [Go.Maps.atKey_put_other (lit_ne (a := [108, 97, 98, 101, 108]) (b := [108, 101, 110]) (by decide)), Go.Maps.atKey_put_other (lit_ne (a := [108, 97, 98, 101, 108]) (b := [119, 101, 105, 103, 104, 116]) (by decide)), Go.Maps.atKey_put_same m0 (key_lit _)]; rfl, by rw [Go.Maps.has_put_other (lit_ne (a := [108, 97, 98, 101, 108]) (b := [108, 101, 110]) (by decide)), Go.Maps.has_put_other (lit_ne (a := [108, 97, 98, 101, 108]) (b := [119, 101, 105, 103, 104, 116]) (by decide)), Go.Maps.has_put_same m0 (key_lit _)]; rfl⟩
  by_cases n1 : l = [119, 101, 105, 103, 104, 116]
  · subst n1
    exact ⟨by rw [Go.Maps.atKey_put_other (lit_ne (a := [119, 101, 105, 103, 104, 116]) (b := [108, 101, 110]) (by decide)), Go.Maps.atKey_put_same m1 (key_lit _)]; rfl, by rw [Go.Maps.has_put_other (lit_ne (a := [119, 101, 105, 103, 104, 116]) (b := [108, 101, 110]) (by decide)), Go.Maps.has_put_same m1 (key_lit _)]; rfl⟩
  by_cases n2 : l = [108, 101, 110]
  · subst n2
    exact ⟨by rw [Go.Maps.atKey_put_same m2 (key_lit _)]; rfl, by rw [Go.Maps.has_put_same m2 (key_lit _)]; rfl⟩
  exact ⟨by rw [Go.Maps.atKey_put_other (lit_ne n2), Go.Maps.atKey_put_other (lit_ne n1), Go.Maps.atKey_put_other (lit_ne n0), if_neg n0, if_neg n1, if_neg n2]; rfl, by rw [Go.Maps.has_put_other (lit_ne n2), Go.Maps.has_put_other (lit_ne n1), Go.Maps.has_put_other (lit_ne n0), if_neg n0, if_neg n1, if_neg n2]; rfl⟩
theorem set_at (l : List UInt8) (ws : Value) : ((setD ws)).atKey (.string l) (.held zeroR) = .held (ruleVal (ruleT 4 l) ws) ∧ Go.Maps.has ((setD ws)) (.string l) = decide ((ruleT 4 l).1 ≠ 0) := by
  have e : ruleT 4 l = setR l := rfl
  rw [e]
  unfold setD setR
  have m0 : Go.Maps.IsMap (.map [] : DataW Value) := Go.Maps.isMap_empty
  have m1 := m0.put (.string [109, 111, 100, 101]) (.held (mkRule 5 0 0 0 ws))
  have m2 := m1.put (.string [110, 111, 100, 101, 115, 101, 112]) (.held (mkRule 3 0 1048576 10000 (.slice none 0 0)))
  have m3 := m2.put (.string [114, 97, 110, 107, 115, 101, 112]) (.held (mkRule 3 0 1048576 20000 (.slice none 0 0)))
  have m4 := m3.put (.string [109, 97, 114, 103, 105, 110]) (.held (mkRule 3 0 1048576 5000 (.slice none 0 0)))
  have m5 := m4.put (.string [114, 111, 117, 110, 100, 115]) (.held (mkRule 4 0 100000 8000 (.slice none 0 0)))
  by_cases n0 : l = [109, 111, 100, 101]
  · subst n0
    exact ⟨by rw [Go.Maps.atKey_put_other (lit_ne (a := [109, 111, 100, 101]) (b := [114, 111, 117, 110, 100, 115]) (by decide)), Go.Maps.atKey_put_other (lit_ne (a := [109, 111, 100, 101]) (b := [109, 97, 114, 103, 105, 110]) (by decide)), Go.Maps.atKey_put_other (lit_ne (a := [109, 111, 100, 101]) (b := [114, 97, 110, 107, 115, 101, 112]) (by decide)), Go.Maps.atKey_put_other (lit_ne (a := [109, 111, 100, 101]) (b := [110, 111, 100, 101, 115, 101, 112]) (by decide)), Go.Maps.atKey_put_same m0 (key_lit _)]; rfl, by rw [Go.Maps.has_put_other (lit_ne (a := [109, 111, 100, 101]) (b := [114, 111, 117, 110, 100, 115]) (by decide)), Go.Maps.has_put_other (lit_ne (a := [109, 111, 100, 101]) (b := [109, 97, 114, 103, 105, 110]) (by decide)), Go.Maps.has_put_other (lit_ne (a := [109, 111, 100, 101]) (b := [114, 97, 110, 107, 115, 101, 112]) (by decide)), Go.Maps.has_put_other (lit_ne (a := [109, 111, 100, 101]) (b := [110, 111, 100, 101, 115, 101, 112]) (by decide)), Go.Maps.has_put_same m0 (key_lit _)]; rfl⟩
  by_cases n1 : l = [110, 111, 100, 101, 115, 101, 112]
  · subst n1
    exact ⟨by rw [Go.Maps.atKey_put_other (lit_ne (a := [110, 111, 100, 101, 115, 101, 112]) (b := [114, 111, 117, 110, 100, 115]) (by decide)), Go.Maps.atKey_put_other (lit_ne (a := [110, 111, 100, 101, 115, 101, 112]) (b := [109, 97, 114, 103, 105, 110]) (by decide)), Go.Maps.atKey_put_other (lit_ne (a := [110, 111, 100, 101, 115, 101, 112]) (b := [114, 97, 110, 107, 115, 101, 112]) (by decide)), Go.Maps.atKey_put_same m1 (key_lit _)]; rfl, by rw [Go.Maps.has_put_other (lit_ne (a := [110, 111, 100, 101, 115, 101, 112]) (b := [114, 111, 117, 110, 100, 115]) (by decide)), Go.Maps.has_put_other (lit_ne (a := [110, 111, 100, 101, 115, 101, 112]) (b := [109, 97, 114, 103, 105, 110]) (by decide)), Go.Maps.has_put_other (lit_ne (a := [110, 111, 100, 101, 115, 101, 112]) (b := [114, 97, 110, 107, 115, 101, 112]) (by decide)), Go.Maps.has_put_same m1 (key_lit _)]; rfl⟩
  by_cases n2 : l = [114, 97, 110, 107, 115, 101, 112]
  · subst n2
    exact ⟨by rw [Go.Maps.atKey_put_other (lit_ne (a := [114, 97, 110, 107, 115, 101, 112]) (b := [114, 111, 117, 110, 100, 115]) (by decide)), Go.Maps.atKey_put_other (lit_ne (a := [114, 97, 110, 107, 115, 101, 112]) (b := [109, 97, 114, 103, 105, 110]) (by decide)), Go.Maps.atKey_put_same m2 (key_lit _)]; rfl, by rw [Go.Maps.has_put_other (lit_ne (a := [114, 97, 110, 107, 115, 101, 112]) (b := [114, 111, 117, 110, 100, 115]) (by decide)), Go.Maps.has_put_other (lit_ne (a := [114, 97, 110, 107, 115, 101, 112]) (b := [109, 97, 114, 103, 105, 110]) (by decide)), Go.Maps.has_put_same m2 (key_lit _)]; rfl⟩
  by_cases n3 : l = [109, 97, 114, 103, 105, 110]
  · subst n3
    exact ⟨by rw [Go.Maps.atKey_put_other (lit_ne (a := [109, 97, 114, 103, 105, 110]) (b := [114, 111, 117, 110, 100, 115]) (by decide)), Go.Maps.atKey_put_same m3 (key_lit _)]; rfl, by rw [Go.Maps.has_put_other (lit_ne (a := [109, 97, 114, 103, 105, 110]) (b := [114, 111, 117, 110, 100, 115]) (by decide)), Go.Maps.has_put_same m3 (key_lit _)]; rfl⟩
  by_cases n4 : l = [114, 111, 117, 110, 100, 115]
  · subst n4
    exact ⟨by rw [Go.Maps.atKey_put_same m4 (key_lit _)]; rfl, by rw [Go.Maps.has_put_same m4 (key_lit _)]; rfl⟩
  exact ⟨by rw [Go.Maps.atKey_put_other (lit_ne n4), Go.Maps.atKey_put_other (lit_ne n3), Go.Maps.atKey_put_other (lit_ne n2), Go.Maps.atKey_put_other (lit_ne n1), Go.Maps.atKey_put_other (lit_ne n0), if_neg n0, if_neg n1, if_neg n2, if_neg n3, if_neg n4]; rfl, by rw [Go.Maps.has_put_other (lit_ne n4), Go.Maps.has_put_other (lit_ne n3), Go.Maps.has_put_other (lit_ne n2), Go.Maps.has_put_other (lit_ne n1), Go.Maps.has_put_other (lit_ne n0), if_neg n0, if_neg n1, if_neg n2, if_neg n3, if_neg n4]; rfl⟩
theorem look_nil (w : World) (kind : Int) (h1 : kind ≠ 1) (h2 : kind ≠ 2) (h4 : kind ≠ 4) (ws : Value) : LookAt w (.map none) kind ws := fun key hk => by
  have hkey := Go.WideMaps.keyOf_string_mk (P := Tryz.prog) Tryz.underlying9 hk
  have e : ruleT kind key.data.toList = (0, 0, 0, 0) := by unfold ruleT; rw [if_neg h1, if_neg h2, if_neg h4]
  rw [e]
  exact ⟨Go.Maps.look_nil true key9 Tryz.underlying62 (zero_rule w) hkey, Go.Maps.look_nil false key9 Tryz.underlying62 (zero_rule w) hkey⟩
set_option maxHeartbeats 1000000 in
theorem rules_none (kind : Int) (w : World) (h1 : kind ≠ 1) (h2 : kind ≠ 2) (h4 : kind ≠ 4) :
    Calls Tryz.prog 33 #[.int .i64 kind] w fun e w' => e = .returned (.map none) ∧ w = w' := by
  obtain ⟨f1, _⟩ := ne_facts h1
  obtain ⟨f2, _⟩ := ne_facts h2
  obtain ⟨f4, _⟩ := ne_facts h4
  go_enter Tryz.func33, Tryz.ntmps33
  go_wp2
  go_returns
  exact ⟨rfl, rfl⟩
/-- What rules returns: a map that looks up the rules. -/
theorem rules_any (kind : Int) (w : World) :
    Calls Tryz.prog 33 #[.int .i64 kind] w fun e w' => ∃ m ws, e = .returned m ∧ LookAt w' m kind ws ∧ (∀ o, LookAt (w'.alloc o) m kind ws) ∧ (kind = 4 → WordsN w.heap.size w' ws) ∧ Ext w w' := by
  by_cases h1 : kind = 1
  · subst h1
    refine (rules_node w).mono ?_
    rintro e w' ⟨rfl, h, x⟩
    exact ⟨_, .slice none 0 0, rfl, look_at h (fun l => (node_at l _).1) (fun l => (node_at l (.slice none 0 0)).2), fun o => look_at (h.alloc o) (fun l => (node_at l _).1) (fun l => (node_at l (.slice none 0 0)).2), fun e => absurd e (by decide), x⟩
  by_cases h2 : kind = 2
  · subst h2
    refine (rules_edge w).mono ?_
    rintro e w' ⟨rfl, h, x⟩
    exact ⟨_, .slice none 0 0, rfl, look_at h (fun l => (edge_at l _).1) (fun l => (edge_at l (.slice none 0 0)).2), fun o => look_at (h.alloc o) (fun l => (edge_at l _).1) (fun l => (edge_at l (.slice none 0 0)).2), fun e => absurd e (by decide), x⟩
  by_cases h4 : kind = 4
  · subst h4
    refine (rules_set w).mono ?_
    rintro e w' ⟨rfl, h, x, hc⟩
    exact ⟨_, _, rfl, look_at h (fun l => (set_at l _).1) (fun l => (set_at l _).2), fun o => look_at (h.alloc o) (fun l => (set_at l _).1) (fun l => (set_at l _).2), fun _ => ⟨_, Nat.le_succ _, rfl, hc⟩, x⟩
  · refine (rules_none kind w h1 h2 h4).mono ?_
    rintro e w' ⟨rfl, rfl⟩
    exact ⟨_, .slice none 0 0, rfl, look_nil _ _ h1 h2 h4 _, fun o => look_nil _ _ h1 h2 h4 _, fun e => absurd e h4, Ext.refl _⟩
end Go.Proofs.YtfhephcbjbdejaaGreatDoor.At
