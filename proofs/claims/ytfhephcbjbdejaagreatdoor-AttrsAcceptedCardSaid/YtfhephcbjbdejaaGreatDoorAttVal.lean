/- What the document's value returns. -/
import Derived.Test.YtfhephcbjbdejaaGreatDoorAttChk
import Derived.Test.YtfhephcbjbdejaaGreatDoorFixParseR
import Derived.BigQuiet
namespace Go.Proofs.YtfhephcbjbdejaaGreatDoor.At
open Go.RowKit Go.Sort Go.Lib Go.Shelf Fx Lx

def valN (r : Rul) (n : Int) : Int × Bool := (n, decide (r.2.1 ≤ n) && decide (n ≤ r.2.2.1))
def valT (r : Rul) (T : Int × Int) : Int × Bool :=
  if T.2 ≠ 0 then (0, false) else if r.1 = 3 then (if T.1.tmod 1000 ≠ 0 then (0, false) else valN r (T.1.tdiv 1000)) else valN r T.1
theorem known_cells (w : World) (a lo hi d : Int) : ∀ w1, Ext (w.alloc (.cells #[.int .i64 a, .int .i64 lo, .int .i64 hi, .int .i64 d] 42)) w1 →
    w1.cell? ⟨w.heap.size, 0, none⟩ = some (.int .i64 a) ∧ w1.cell? ⟨w.heap.size, 1, none⟩ = some (.int .i64 lo) ∧ w1.cell? ⟨w.heap.size, 2, none⟩ = some (.int .i64 hi) := fun w1 x => by
  have hb := heap_alloc_new w (.cells #[.int .i64 a, .int .i64 lo, .int .i64 hi, .int .i64 d] 42)
  refine ⟨x.cell ?_, x.cell ?_, x.cell ?_⟩ <;> rw [Lib.cell_of_heap hb] <;> rfl
set_option maxHeartbeats 2000000 in
set_option maxRecDepth 100000 in
theorem value_any (a lo hi d : Int) (s : ByteArray) (w : World) (hs : s.size ≤ 4294967280) :
    Calls Tryz.prog 36 #[knownV (a, lo, hi, d), .string s] w fun e w' => e = .returned (.tuple #[.int .i64 (valT (a, lo, hi, d) (parse s.data.toList)).1, .bool (valT (a, lo, hi, d) (parse s.data.toList)).2]) ∧ Ext w w' := by
  unfold knownV
  dsimp only
  obtain ⟨v, c, hp⟩ : ∃ v c, parse s.data.toList = (v, c) := ⟨_, _, rfl⟩
  have hpa := fun w => parseR_any s w hs
  have hb : c = 0 → v ≤ 268435456 ∧ -268435456 ≤ v := fun h => by rw [h] at hp; exact (exact_ok _ _ hp).2
  have hx0 : Ext w (w.alloc (.cells #[.int .i64 a, .int .i64 lo, .int .i64 hi, .int .i64 d] 42)) := (Ext.refl _).alloc _
  rw [hp] at hpa ⊢
  have HPA := Lib.hid hpa
  clear hp hpa hs
  unfold valT
  dsimp only
  by_cases k0 : c = 0
  · obtain ⟨fc, fc2⟩ := eq_facts k0
    obtain ⟨b1, b2⟩ := hb k0
    rw [if_neg (fun h => h k0)]
    clear hb
    by_cases k3 : a = 3
    · obtain ⟨f3, _⟩ := eq_facts k3
      rw [if_pos k3]
      by_cases k4 : v.tmod 1000 = 0
      · obtain ⟨f4, f4b⟩ := eq_facts k4
        rw [if_neg (fun h => h k4)]
        have hd : Int.tdiv v 1000 ≤ 268435456 ∧ -268435456 ≤ Int.tdiv v 1000 := by
          have h := Int.natAbs_tdiv_le_natAbs v 1000
          omega
        unfold valN
        dsimp only
        by_cases k1 : lo ≤ Int.tdiv v 1000
        · have g1 : decide (lo ≤ Int.tdiv v 1000) = true := decide_eq_true k1
          rw [g1, Bool.true_and]
          by_cases k2 : Int.tdiv v 1000 ≤ hi
          · have g2 : decide (Int.tdiv v 1000 ≤ hi) = true := decide_eq_true k2
            rw [g2]
            clear k1 k2 k0 k3 k4
            go_enter Tryz.func36, Tryz.ntmps36
            go_wp2_with (go_at_call 62; refine (HPA.out _).mono ?_; rintro e w1 ⟨rfl, rfl⟩)
            go_quiet (fail)
            go_wp2
            go_returns
            exact ⟨rfl, hx0.drewN _⟩
          · have g2 : decide (Int.tdiv v 1000 ≤ hi) = false := decide_eq_false k2
            rw [g2]
            clear k1 k2 k0 k3 k4
            go_enter Tryz.func36, Tryz.ntmps36
            go_wp2_with (go_at_call 62; refine (HPA.out _).mono ?_; rintro e w1 ⟨rfl, rfl⟩)
            go_quiet (fail)
            go_wp2
            go_returns
            exact ⟨rfl, hx0.drewN _⟩
        · have g1 : decide (lo ≤ Int.tdiv v 1000) = false := decide_eq_false k1
          rw [g1, Bool.false_and]
          clear k1 k0 k3 k4
          go_enter Tryz.func36, Tryz.ntmps36
          go_wp2_with (go_at_call 62; refine (HPA.out _).mono ?_; rintro e w1 ⟨rfl, rfl⟩)
          go_quiet (fail)
          go_wp2
          go_returns
          exact ⟨rfl, hx0.drewN _⟩
      · obtain ⟨f4, f4b⟩ := ne_facts k4
        rw [if_pos k4]
        clear k0 k3 k4
        go_enter Tryz.func36, Tryz.ntmps36
        go_wp2_with (go_at_call 62; refine (HPA.out _).mono ?_; rintro e w1 ⟨rfl, rfl⟩)
        go_returns
        exact ⟨rfl, hx0⟩
    · obtain ⟨f3, _⟩ := ne_facts k3
      rw [if_neg k3]
      unfold valN
      dsimp only
      by_cases k1 : lo ≤ v
      · have g1 : decide (lo ≤ v) = true := decide_eq_true k1
        rw [g1, Bool.true_and]
        by_cases k2 : v ≤ hi
        · have g2 : decide (v ≤ hi) = true := decide_eq_true k2
          rw [g2]
          clear k1 k2 k0 k3
          go_enter Tryz.func36, Tryz.ntmps36
          go_wp2_with (go_at_call 62; refine (HPA.out _).mono ?_; rintro e w1 ⟨rfl, rfl⟩)
          go_quiet (fail)
          go_wp2
          go_returns
          exact ⟨rfl, hx0.drewN _⟩
        · have g2 : decide (v ≤ hi) = false := decide_eq_false k2
          rw [g2]
          clear k1 k2 k0 k3
          go_enter Tryz.func36, Tryz.ntmps36
          go_wp2_with (go_at_call 62; refine (HPA.out _).mono ?_; rintro e w1 ⟨rfl, rfl⟩)
          go_quiet (fail)
          go_wp2
          go_returns
          exact ⟨rfl, hx0.drewN _⟩
      · have g1 : decide (lo ≤ v) = false := decide_eq_false k1
        rw [g1, Bool.false_and]
        clear k1 k0 k3
        go_enter Tryz.func36, Tryz.ntmps36
        go_wp2_with (go_at_call 62; refine (HPA.out _).mono ?_; rintro e w1 ⟨rfl, rfl⟩)
        go_quiet (fail)
        go_wp2
        go_returns
        exact ⟨rfl, hx0.drewN _⟩
  · obtain ⟨fc, fc2⟩ := ne_facts k0
    rw [if_pos k0]
    clear k0 hb
    go_enter Tryz.func36, Tryz.ntmps36
    go_wp2_with (go_at_call 62; refine (HPA.out _).mono ?_; rintro e w1 ⟨rfl, rfl⟩)
    go_returns
    exact ⟨rfl, hx0⟩
end Go.Proofs.YtfhephcbjbdejaaGreatDoor.At
