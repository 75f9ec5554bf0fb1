/- What the document's Check returns. -/
import Derived.Test.YtfhephcbjbdejaaGreatDoorAttVal
import Derived.Test.YtfhephcbjbdejaaGreatDoorAttPortsR
namespace Go.Proofs.YtfhephcbjbdejaaGreatDoor.At
open Go.RowKit Go.Sort Go.Lib Go.Shelf Fx Lx

/-- What the document accepts under a rule. -/
def okR (r : Rul) (v : ByteArray) : Bool :=
  if r.1 = 1 then v.data.toList.all okT else if r.1 = 2 ∨ r.1 = 3 then (valT r (parse v.data.toList)).2 else if r.1 = 4 then decide ((portsV v).2 = 0) && decide (v.size ≤ 32) else if r.1 = 5 then decide (0 ≤ modeN v) else true
def checkRV (kind : Int) (k v : ByteArray) : Int :=
  if knownB kind = false then 1 else if (knownT kind k.data.toList).1 = 0 then 5 else if (knownT kind k.data.toList).1 = 1 ∧ 32 < v.size then 2 else if okR (knownT kind k.data.toList) v then 0 else 7
set_option maxHeartbeats 4000000 in
set_option maxRecDepth 100000 in
theorem chkR_none (kind lo hi d : Int) (k v : ByteArray) (w : World) (hkd : kind = 1 ∨ kind = 2 ∨ kind = 4) (hr : knownT kind k.data.toList = (0, lo, hi, d)) :
    Calls Tryz.prog 24 #[.int .i64 kind, .agg #[.string k, .string v]] w fun e w' => e = .returned (.int .i64 (5)) ∧ Ext w w' := by
  have hkn := fun w => known_any kind k w
  rw [hr] at hkn
  unfold knownV at hkn
  dsimp only at hkn
  have hx0 : Ext w (w.alloc (.cells #[.string k, .string v] 39)) := (Ext.refl _).alloc _
  have hcl := atr_cells w k v
  have HCL := Lib.hid hcl
  have HKN := Lib.hid hkn
  clear hkn hr hcl
  rcases hkd with rfl | rfl | rfl
  all_goals
    go_enter Tryz.func24, Tryz.ntmps24
    go_wp2_with (first | (go_at_call 21; refine (HKN.out _).mono ?_; rintro e w1 ⟨rfl, x1⟩; have q1 := (HCL.out _ (x1.alloc (.cells #[.int .i64 0, .int .i64 lo, .int .i64 hi, .int .i64 d] 42))).1; have q2 := (HCL.out _ (x1.alloc (.cells #[.int .i64 0, .int .i64 lo, .int .i64 hi, .int .i64 d] 42))).2))
    go_returns
    exact ⟨rfl, (hx0.trans x1).alloc _⟩
set_option maxHeartbeats 4000000 in
set_option maxRecDepth 100000 in
theorem chkR_num2 (kind lo hi d : Int) (k v : ByteArray) (w : World) (hkd : kind = 1 ∨ kind = 2 ∨ kind = 4) (hr : knownT kind k.data.toList = (2, lo, hi, d)) (hv : v.size ≤ 4294967280) :
    Calls Tryz.prog 24 #[.int .i64 kind, .agg #[.string k, .string v]] w fun e w' => e = .returned (.int .i64 (if okR (2, lo, hi, d) v then 0 else 7)) ∧ Ext w w' := by
  have hkn := fun w => known_any kind k w
  rw [hr] at hkn
  unfold knownV at hkn
  dsimp only at hkn
  have hx0 : Ext w (w.alloc (.cells #[.string k, .string v] 39)) := (Ext.refl _).alloc _
  have hcl := atr_cells w k v
  have HCL := Lib.hid hcl
  have HKN := Lib.hid hkn
  clear hkn hr hcl
  have hva := fun w => value_any 2 lo hi d v w hv
  unfold knownV at hva
  dsimp only at hva
  have e : okR (2, lo, hi, d) v = (valT (2, lo, hi, d) (parse v.data.toList)).2 := rfl
  rw [e]
  generalize (valT (2, lo, hi, d) (parse v.data.toList)).1 = n at hva
  generalize (valT (2, lo, hi, d) (parse v.data.toList)).2 = t at hva ⊢
  have HC42 := Lib.hid (fun (w1 : World) => heap_alloc_new w1 (.cells #[.int .i64 2, .int .i64 lo, .int .i64 hi, .int .i64 d] 42))
  cases t
  all_goals
    have HVA := Lib.hid hva
    clear hva
    rcases hkd with rfl | rfl | rfl
    all_goals
      go_enter Tryz.func24, Tryz.ntmps24
      go_wp2_with (first | (go_at_call 21; refine (HKN.out _).mono ?_; rintro e w1 ⟨rfl, x1⟩; have q1 := (HCL.out _ (x1.alloc (.cells #[.int .i64 2, .int .i64 lo, .int .i64 hi, .int .i64 d] 42))).1; have q2 := (HCL.out _ (x1.alloc (.cells #[.int .i64 2, .int .i64 lo, .int .i64 hi, .int .i64 d] 42))).2) | (go_at_call 36; refine (HVA.out _).mono ?_; rintro e w2 ⟨rfl, x2⟩; have q3 : w2.cell? ⟨w1.heap.size, 0, none⟩ = some (.int .i64 2) := x2.cell (by rw [Lib.cell_of_heap (HC42.out w1)]; rfl)))
      go_returns
      exact ⟨rfl, ((hx0.trans x1).alloc _).trans x2⟩
set_option maxHeartbeats 4000000 in
set_option maxRecDepth 100000 in
theorem chkR_num3 (kind lo hi d : Int) (k v : ByteArray) (w : World) (hkd : kind = 1 ∨ kind = 2 ∨ kind = 4) (hr : knownT kind k.data.toList = (3, lo, hi, d)) (hv : v.size ≤ 4294967280) :
    Calls Tryz.prog 24 #[.int .i64 kind, .agg #[.string k, .string v]] w fun e w' => e = .returned (.int .i64 (if okR (3, lo, hi, d) v then 0 else 7)) ∧ Ext w w' := by
  have hkn := fun w => known_any kind k w
  rw [hr] at hkn
  unfold knownV at hkn
  dsimp only at hkn
  have hx0 : Ext w (w.alloc (.cells #[.string k, .string v] 39)) := (Ext.refl _).alloc _
  have hcl := atr_cells w k v
  have HCL := Lib.hid hcl
  have HKN := Lib.hid hkn
  clear hkn hr hcl
  have hva := fun w => value_any 3 lo hi d v w hv
  unfold knownV at hva
  dsimp only at hva
  have e : okR (3, lo, hi, d) v = (valT (3, lo, hi, d) (parse v.data.toList)).2 := rfl
  rw [e]
  generalize (valT (3, lo, hi, d) (parse v.data.toList)).1 = n at hva
  generalize (valT (3, lo, hi, d) (parse v.data.toList)).2 = t at hva ⊢
  have HC42 := Lib.hid (fun (w1 : World) => heap_alloc_new w1 (.cells #[.int .i64 3, .int .i64 lo, .int .i64 hi, .int .i64 d] 42))
  cases t
  all_goals
    have HVA := Lib.hid hva
    clear hva
    rcases hkd with rfl | rfl | rfl
    all_goals
      go_enter Tryz.func24, Tryz.ntmps24
      go_wp2_with (first | (go_at_call 21; refine (HKN.out _).mono ?_; rintro e w1 ⟨rfl, x1⟩; have q1 := (HCL.out _ (x1.alloc (.cells #[.int .i64 3, .int .i64 lo, .int .i64 hi, .int .i64 d] 42))).1; have q2 := (HCL.out _ (x1.alloc (.cells #[.int .i64 3, .int .i64 lo, .int .i64 hi, .int .i64 d] 42))).2) | (go_at_call 36; refine (HVA.out _).mono ?_; rintro e w2 ⟨rfl, x2⟩; have q3 : w2.cell? ⟨w1.heap.size, 0, none⟩ = some (.int .i64 3) := x2.cell (by rw [Lib.cell_of_heap (HC42.out w1)]; rfl)))
      go_returns
      exact ⟨rfl, ((hx0.trans x1).alloc _).trans x2⟩
set_option maxHeartbeats 4000000 in
set_option maxRecDepth 100000 in
theorem chkR_mode (kind lo hi d : Int) (k v : ByteArray) (w : World) (hkd : kind = 1 ∨ kind = 2 ∨ kind = 4) (hr : knownT kind k.data.toList = (5, lo, hi, d)) :
    Calls Tryz.prog 24 #[.int .i64 kind, .agg #[.string k, .string v]] w fun e w' => e = .returned (.int .i64 (if okR (5, lo, hi, d) v then 0 else 7)) ∧ Ext w w' := by
  have hkn := fun w => known_any kind k w
  rw [hr] at hkn
  unfold knownV at hkn
  dsimp only at hkn
  have hx0 : Ext w (w.alloc (.cells #[.string k, .string v] 39)) := (Ext.refl _).alloc _
  have hcl := atr_cells w k v
  have HCL := Lib.hid hcl
  have HKN := Lib.hid hkn
  clear hkn hr hcl
  have HC42 := Lib.hid (fun (w1 : World) => heap_alloc_new w1 (.cells #[.int .i64 5, .int .i64 lo, .int .i64 hi, .int .i64 d] 42))
  have hmo := fun w => modeR_any v w
  have e : okR (5, lo, hi, d) v = decide (0 ≤ modeN v) := rfl
  rw [e]
  generalize modeN v = m at hmo ⊢
  have HMO := Lib.hid hmo
  clear hmo e
  by_cases hm : 0 ≤ m
  · have g1 : decide (0 ≤ m) = true := decide_eq_true hm
    rw [g1]
    clear hm
    rcases hkd with rfl | rfl | rfl
    all_goals
      go_enter Tryz.func24, Tryz.ntmps24
      go_wp2_with (first | (go_at_call 21; refine (HKN.out _).mono ?_; rintro e w1 ⟨rfl, x1⟩; have q1 := (HCL.out _ (x1.alloc (.cells #[.int .i64 5, .int .i64 lo, .int .i64 hi, .int .i64 d] 42))).1; have q2 := (HCL.out _ (x1.alloc (.cells #[.int .i64 5, .int .i64 lo, .int .i64 hi, .int .i64 d] 42))).2) | (go_at_call 49; refine (HMO.out _).mono ?_; rintro e w2 ⟨rfl, x2⟩; have q3 : w2.cell? ⟨w1.heap.size, 0, none⟩ = some (.int .i64 5) := x2.cell (by rw [Lib.cell_of_heap (HC42.out w1)]; rfl)))
      go_returns
      exact ⟨rfl, ((hx0.trans x1).alloc _).trans x2⟩
  · have g1 : decide (0 ≤ m) = false := decide_eq_false hm
    rw [g1]
    clear hm
    rcases hkd with rfl | rfl | rfl
    all_goals
      go_enter Tryz.func24, Tryz.ntmps24
      go_wp2_with (first | (go_at_call 21; refine (HKN.out _).mono ?_; rintro e w1 ⟨rfl, x1⟩; have q1 := (HCL.out _ (x1.alloc (.cells #[.int .i64 5, .int .i64 lo, .int .i64 hi, .int .i64 d] 42))).1; have q2 := (HCL.out _ (x1.alloc (.cells #[.int .i64 5, .int .i64 lo, .int .i64 hi, .int .i64 d] 42))).2) | (go_at_call 49; refine (HMO.out _).mono ?_; rintro e w2 ⟨rfl, x2⟩; have q3 : w2.cell? ⟨w1.heap.size, 0, none⟩ = some (.int .i64 5) := x2.cell (by rw [Lib.cell_of_heap (HC42.out w1)]; rfl)))
      go_returns
      exact ⟨rfl, ((hx0.trans x1).alloc _).trans x2⟩
set_option maxHeartbeats 4000000 in
set_option maxRecDepth 100000 in
theorem chkR_ports (kind lo hi d : Int) (k v : ByteArray) (w : World) (hkd : kind = 1 ∨ kind = 2 ∨ kind = 4) (hr : knownT kind k.data.toList = (4, lo, hi, d)) (hv : v.size < 4294967281) :
    Calls Tryz.prog 24 #[.int .i64 kind, .agg #[.string k, .string v]] w fun e w' => e = .returned (.int .i64 (if okR (4, lo, hi, d) v then 0 else 7)) ∧ Ext w w' := by
  have hkn := fun w => known_any kind k w
  rw [hr] at hkn
  unfold knownV at hkn
  dsimp only at hkn
  have hx0 : Ext w (w.alloc (.cells #[.string k, .string v] 39)) := (Ext.refl _).alloc _
  have hcl := atr_cells w k v
  have HCL := Lib.hid hcl
  have HKN := Lib.hid hkn
  clear hkn hr hcl
  have HC42 := Lib.hid (fun (w1 : World) => heap_alloc_new w1 (.cells #[.int .i64 4, .int .i64 lo, .int .i64 hi, .int .i64 d] 42))
  have hpo := fun w => portsR_any v w hv
  have e : okR (4, lo, hi, d) v = (decide ((portsV v).2 = 0) && decide (v.size ≤ 32)) := rfl
  rw [e]
  obtain ⟨PL, c, hp⟩ : ∃ PL c, portsV v = (PL, c) := ⟨_, _, rfl⟩
  rw [hp] at hpo ⊢
  dsimp only
  have HPO := Lib.hid hpo
  clear hpo e hp
  by_cases k0 : c = 0
  · obtain ⟨fc, _⟩ := eq_facts k0
    rw [decide_eq_true k0, Bool.true_and]
    clear k0
    by_cases hm : v.size ≤ 32
    · rw [decide_eq_true hm]
      have g2 : decide ((v.size : Int) ≤ 32) = true := decide_eq_true (by omega)
      rcases hkd with rfl | rfl | rfl
      all_goals
        go_enter Tryz.func24, Tryz.ntmps24
        go_wp2_with (first | (go_at_call 21; refine (HKN.out _).mono ?_; rintro e w1 ⟨rfl, x1⟩; have q1 := (HCL.out _ (x1.alloc (.cells #[.int .i64 4, .int .i64 lo, .int .i64 hi, .int .i64 d] 42))).1; have q2 := (HCL.out _ (x1.alloc (.cells #[.int .i64 4, .int .i64 lo, .int .i64 hi, .int .i64 d] 42))).2) | (go_at_call 19; refine (HPO.out _).mono ?_; rintro e w2 ⟨⟨pv, rfl, _⟩, x2⟩; have q3 : w2.cell? ⟨w1.heap.size, 0, none⟩ = some (.int .i64 4) := x2.cell (by rw [Lib.cell_of_heap (HC42.out w1)]; rfl); have q4 := x2.cell q2))
        go_returns
        exact ⟨rfl, ((hx0.trans x1).alloc _).trans x2⟩
    · rw [decide_eq_false hm]
      have g2 : decide ((v.size : Int) ≤ 32) = false := decide_eq_false (by omega)
      rcases hkd with rfl | rfl | rfl
      all_goals
        go_enter Tryz.func24, Tryz.ntmps24
        go_wp2_with (first | (go_at_call 21; refine (HKN.out _).mono ?_; rintro e w1 ⟨rfl, x1⟩; have q1 := (HCL.out _ (x1.alloc (.cells #[.int .i64 4, .int .i64 lo, .int .i64 hi, .int .i64 d] 42))).1; have q2 := (HCL.out _ (x1.alloc (.cells #[.int .i64 4, .int .i64 lo, .int .i64 hi, .int .i64 d] 42))).2) | (go_at_call 19; refine (HPO.out _).mono ?_; rintro e w2 ⟨⟨pv, rfl, _⟩, x2⟩; have q3 : w2.cell? ⟨w1.heap.size, 0, none⟩ = some (.int .i64 4) := x2.cell (by rw [Lib.cell_of_heap (HC42.out w1)]; rfl); have q4 := x2.cell q2))
        go_returns
        exact ⟨rfl, ((hx0.trans x1).alloc _).trans x2⟩
  · obtain ⟨fc, _⟩ := ne_facts k0
    rw [decide_eq_false k0, Bool.false_and]
    clear k0
    rcases hkd with rfl | rfl | rfl
    all_goals
      go_enter Tryz.func24, Tryz.ntmps24
      go_wp2_with (first | (go_at_call 21; refine (HKN.out _).mono ?_; rintro e w1 ⟨rfl, x1⟩; have q1 := (HCL.out _ (x1.alloc (.cells #[.int .i64 4, .int .i64 lo, .int .i64 hi, .int .i64 d] 42))).1; have q2 := (HCL.out _ (x1.alloc (.cells #[.int .i64 4, .int .i64 lo, .int .i64 hi, .int .i64 d] 42))).2) | (go_at_call 19; refine (HPO.out _).mono ?_; rintro e w2 ⟨⟨pv, rfl, _⟩, x2⟩; have q3 : w2.cell? ⟨w1.heap.size, 0, none⟩ = some (.int .i64 4) := x2.cell (by rw [Lib.cell_of_heap (HC42.out w1)]; rfl); have q4 := x2.cell q2))
      go_returns
      exact ⟨rfl, ((hx0.trans x1).alloc _).trans x2⟩
set_option maxHeartbeats 4000000 in
theorem chkR_other (kind : Int) (k v : ByteArray) (w : World) (h1 : kind ≠ 1) (h2 : kind ≠ 2) (h4 : kind ≠ 4) :
    Calls Tryz.prog 24 #[.int .i64 kind, .agg #[.string k, .string v]] w fun e w' => e = .returned (.int .i64 1) ∧ Ext w w' := by
  obtain ⟨f1, f1'⟩ := ne_facts h1
  obtain ⟨f2, f2'⟩ := ne_facts h2
  obtain ⟨f4, f4'⟩ := ne_facts h4
  go_enter Tryz.func24, Tryz.ntmps24
  go_wp2
  go_returns
  exact ⟨rfl, (Ext.refl _).alloc _⟩
end Go.Proofs.YtfhephcbjbdejaaGreatDoor.At
