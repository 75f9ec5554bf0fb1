/- What Div returns, and the document's Mul and Div: the rounded product and quotient, for all ints. -/
import Derived.Test.YthhjemojblaoeaaDoorRows
import Derived.Test.YthhjemojblaoeaaDoorFixMulDiv
import Derived.WalkKit
import Derived.Lib.Hide
import Derived.BigQuiet
import Derived.Handy
import Derived.Deep.QuietTactic
namespace Go.Proofs.YthhjemojblaoeaaDoor.Fx
open Go.RowKit

theorem ret_sg {q : Int} {m m' : Bool} (h : m = m') : Ending.returned (.tuple #[.int .i64 (sg q m).1, .int .i64 (sg q m).2]) = .returned (.tuple #[.int .i64 (sg q m').1, .int .i64 (sg q m').2]) := by rw [h]
theorem most_over (x y : Int) (hx : 0 < x) (h : 268435456499 / x < y) : 268435456 < (x * y + 500) / 1000 := by
  have := (Int.ediv_lt_iff_lt_mul hx).1 h
  rw [Int.mul_comm] at this
  omega
theorem most_in (x y : Int) (hx : 0 < x) (h : ¬ 268435456499 / x < y) : x * y ≤ 268435456499 := by
  have := (Int.le_ediv_iff_mul_le hx).1 (show y ≤ 268435456499 / x by omega)
  rw [Int.mul_comm] at this
  omega

set_option maxHeartbeats 800000 in
theorem mulR_any (a b : Int) (w : World) (a0 : -9223372036854775808 ≤ a) (a1 : a ≤ 9223372036854775807) (b0 : -9223372036854775808 ≤ b) (b1 : b ≤ 9223372036854775807) :
    Calls Tryd.prog 15 #[.int .i64 a, .int .i64 b] w fun e w' => e = .returned (.tuple #[.int .i64 (mulR a b).1, .int .i64 (mulR a b).2]) ∧ w = w' := by
  have x0 := ab_nonneg a; have x1 := ab_le a a0 a1; have y0 := ab_nonneg b; have y1 := ab_le b b0 b1
  have pp := Int.mul_nonneg x0 y0
  unfold mulR
  by_cases hz : 0 < ab a
  · have d0 : 0 ≤ 268435456499 / ab a := Int.ediv_nonneg (by omega) (by omega)
    have d1 : 268435456499 / ab a ≤ 268435456499 := Int.ediv_le_self _ (by omega)
    by_cases hb : 268435456499 / ab a < ab b
    · rw [sg_over (most_over _ _ hz hb)]
      go_enter Tryd.func15, Tryd.ntmps15
      go_wp2_with (first
        | (go_at_call_of 28 (Value.int .i64 a); refine (abs_any a _ a0 a1).mono ?_; rintro e w' ⟨rfl, rfl⟩)
        | (go_at_call_of 28 (Value.int .i64 b); refine (abs_any b _ b0 b1).mono ?_; rintro e w' ⟨rfl, rfl⟩))
      go_ret2
      exact ⟨rfl, rfl⟩
    · have hin := most_in _ _ hz hb
      have q0 : 0 ≤ (ab a * ab b + 500) / 1000 := Int.ediv_nonneg (by omega) (by omega)
      have q1 : (ab a * ab b + 500) / 1000 ≤ 18446744073709551615 := by omega
      obtain ⟨P, hP⟩ : ∃ P, ab a * ab b = P := ⟨_, rfl⟩
      rw [hP] at q0 q1 hin pp ⊢
      by_cases ha : a < 0
      all_goals by_cases hb : b < 0
      all_goals
        first | rw [opp_tt ha hb] | rw [opp_tf ha hb] | rw [opp_ft ha hb] | rw [opp_ff ha hb]
        go_enter Tryd.func15, Tryd.ntmps15
        go_wp2_with (first
          | (go_at_call_of 28 (Value.int .i64 a); refine (abs_any a _ a0 a1).mono ?_; rintro e w' ⟨rfl, rfl⟩)
          | (go_at_call_of 28 (Value.int .i64 b); refine (abs_any b _ b0 b1).mono ?_; rintro e w' ⟨rfl, rfl⟩)
          | (go_at_call 34; refine (signedR_any _ _ _ q0 q1).mono ?_; rintro e w1 ⟨rfl, rfl⟩))
        go_ret2
        exact ⟨ret_sg (by first | rfl | (simp; omega)), rfl⟩
  · obtain ⟨x, hx⟩ : ∃ x, ab a = x := ⟨_, rfl⟩
    rw [hx] at hz x0 x1 pp ⊢
    have hx0 : x = 0 := by omega
    subst hx0
    have HX := Lib.hid hx; clear hx
    have e0 : (0 : Int) * ab b = 0 := Int.zero_mul _
    rw [e0]
    by_cases ha : a < 0
    all_goals by_cases hb : b < 0
    all_goals
      first | rw [opp_tt ha hb] | rw [opp_tf ha hb] | rw [opp_ft ha hb] | rw [opp_ff ha hb]
      go_enter Tryd.func15, Tryd.ntmps15
      go_wp2_with (first
        | (go_at_call_of 28 (Value.int .i64 a); refine (abs_any a _ a0 a1).mono ?_; rintro e w' ⟨rfl, rfl⟩; rw [HX.out])
        | (go_at_call_of 28 (Value.int .i64 b); refine (abs_any b _ b0 b1).mono ?_; rintro e w' ⟨rfl, rfl⟩)
        | (go_at_call 34; refine (signedR_any _ _ _ (by omega) (by omega)).mono ?_; rintro e w1 ⟨rfl, rfl⟩))
      go_ret2
      exact ⟨ret_sg (by first | rfl | (simp; omega)), rfl⟩

/-! ### Div -/
theorem div_words (x : Int) (h0 : 0 ≤ x) (h1 : x ≤ 9223372036854775808) : ∃ hi lo : Int, Word2 (x * 1000) hi lo ∧ 0 ≤ hi ∧ hi ≤ 500 ∧ 0 ≤ lo ∧ lo ≤ 18446744073709551615 := by
  refine ⟨x * 1000 / 18446744073709551616, x * 1000 % 18446744073709551616, ?_, ?_, ?_, ?_, ?_⟩
  · unfold Word2; omega
  all_goals omega
theorem quo_over {x y hi lo : Int} (hy : 0 < y) (h : Word2 (x * 1000) hi lo) (hh : y ≤ hi) : 268435456 < quoR x y := by
  obtain ⟨e, l0, l1⟩ := h
  have : 18446744073709551616 ≤ x * 1000 / y := by
    rw [Int.le_ediv_iff_mul_le hy]
    omega
  unfold quoR; split <;> omega
theorem quo_parts (x y : Int) (hx : 0 ≤ x) (hy : 0 < y) : ∃ q r : Int, Quot (x * 1000) y q r ∧ 0 ≤ q ∧ 0 ≤ r ∧ r < y ∧ quoR x y = q + (if y ≤ 2 * r then 1 else 0) :=
  ⟨_, _, ⟨rfl, rfl⟩, Int.ediv_nonneg (by omega) (by omega), Int.emod_nonneg _ (by omega), Int.emod_lt_of_pos _ hy, rfl⟩
theorem quo_q_lt {x y q r hi lo : Int} (hy : 0 < y) (h : Word2 (x * 1000) hi lo) (hq : Quot (x * 1000) y q r) (hh : hi < y) : q ≤ 18446744073709551615 := by
  obtain ⟨e, l0, l1⟩ := h
  obtain ⟨h1, h2⟩ := hq
  have : x * 1000 / y < 18446744073709551616 := by
    apply Int.ediv_lt_of_lt_mul hy
    omega
  omega

set_option maxHeartbeats 1600000 in
theorem div_any (a b : Int) (w : World) (a0 : -9223372036854775808 ≤ a) (a1 : a ≤ 9223372036854775807) (b0 : -9223372036854775808 ≤ b) (b1 : b ≤ 9223372036854775807) :
    Calls Tryd.prog 16 #[.int .i64 a, .int .i64 b] w fun e w' => e = .returned (.tuple #[.int .i64 (divR a b).1, .int .i64 (divR a b).2]) ∧ Ext w w' := by
  unfold divR
  by_cases hb0 : b = 0
  · subst hb0
    rw [if_pos rfl]
    go_enter Tryd.func16, Tryd.ntmps16
    go_wp2
    go_ret2
    exact ⟨rfl, Ext.refl _⟩
  rw [if_neg hb0]
  have x0 := ab_nonneg a; have x1 := ab_le a a0 a1; have y1 := ab_le b b0 b1
  have y0 : 0 < ab b := by unfold ab; split <;> omega
  obtain ⟨hi, lo, hW, i0, i1, l0, l1⟩ := div_words _ x0 x1
  have HW := Lib.hid hW
  have hbn : (b == 0) = false := by simpa using hb0
  by_cases hbg : ab b ≤ hi
  · rw [sg_over (quo_over y0 hW hbg)]
    clear hW hb0
    go_enter Tryd.func16, Tryd.ntmps16
    go_wp2_with (first
      | (go_at_call_of 20 (Value.int .i64 a); refine (size_any a _ a0 a1).mono ?_; rintro e w' ⟨rfl, rfl⟩)
      | (go_at_call_of 20 (Value.int .i64 b); refine (size_any b _ b0 b1).mono ?_; rintro e w' ⟨rfl, rfl⟩)
      | (go_at_call 30; refine (mul64_n _ _ hi lo _ x0 (by omega) (by omega) (by omega) HW.out).mono ?_; rintro e w' ⟨rfl, rfl⟩))
    go_ret2
    exact ⟨rfl, Ext.refl _⟩
  · obtain ⟨q, r, hQ, q0, r0, r1, hqr⟩ := quo_parts (ab a) (ab b) x0 y0
    have q1 := quo_q_lt y0 hW hQ (by omega)
    have HQ := Lib.hid hQ
    clear hW hQ hb0
    rw [hqr]
    clear hqr
    by_cases hov : 268435456 < q
    · rw [sg_over (by split <;> omega)]
      go_enter Tryd.func16, Tryd.ntmps16
      go_wp2_with (first
        | (go_at_call_of 20 (Value.int .i64 a); refine (size_any a _ a0 a1).mono ?_; rintro e w' ⟨rfl, rfl⟩)
        | (go_at_call_of 20 (Value.int .i64 b); refine (size_any b _ b0 b1).mono ?_; rintro e w' ⟨rfl, rfl⟩)
        | (go_at_call 30; refine (mul64_n _ _ hi lo _ x0 (by omega) (by omega) (by omega) HW.out).mono ?_; rintro e w' ⟨rfl, rfl⟩)
        | (go_at_call 32; refine (div64_n _ _ lo _ q r _ i0 (by omega) (by omega) HW.out HQ.out).mono ?_; rintro e w1 ⟨rfl, hg⟩))
      go_ret2
      exact ⟨rfl, hg⟩
    · by_cases hup : ab b ≤ 2 * r
      · rw [if_pos hup]
        have q2 : 0 ≤ q + 1 := by omega
        by_cases ha : a < 0
        all_goals by_cases hb : b < 0
        all_goals
          first | rw [opp_tt ha hb] | rw [opp_tf ha hb] | rw [opp_ft ha hb] | rw [opp_ff ha hb]
          go_enter Tryd.func16, Tryd.ntmps16
          go_wp2_with (first
            | (go_at_call_of 20 (Value.int .i64 a); refine (size_any a _ a0 a1).mono ?_; rintro e w' ⟨rfl, rfl⟩)
            | (go_at_call_of 20 (Value.int .i64 b); refine (size_any b _ b0 b1).mono ?_; rintro e w' ⟨rfl, rfl⟩)
            | (go_at_call 30; refine (mul64_n _ _ hi lo _ x0 (by omega) (by omega) (by omega) HW.out).mono ?_; rintro e w' ⟨rfl, rfl⟩)
            | (go_at_call 32; refine (div64_n _ _ lo _ q r _ i0 (by omega) (by omega) HW.out HQ.out).mono ?_; rintro e w1 ⟨rfl, hg⟩)
            | (go_at_call 33; refine (signed_any _ _ _ q2 (by omega)).mono ?_; rintro e w1 ⟨rfl, rfl⟩))
          go_ret2
          exact ⟨ret_sg (by first | rfl | (simp; omega)), hg⟩
      · rw [if_neg hup, Int.add_zero]
        by_cases ha : a < 0
        all_goals by_cases hb : b < 0
        all_goals
          first | rw [opp_tt ha hb] | rw [opp_tf ha hb] | rw [opp_ft ha hb] | rw [opp_ff ha hb]
          go_enter Tryd.func16, Tryd.ntmps16
          go_wp2_with (first
            | (go_at_call_of 20 (Value.int .i64 a); refine (size_any a _ a0 a1).mono ?_; rintro e w' ⟨rfl, rfl⟩)
            | (go_at_call_of 20 (Value.int .i64 b); refine (size_any b _ b0 b1).mono ?_; rintro e w' ⟨rfl, rfl⟩)
            | (go_at_call 30; refine (mul64_n _ _ hi lo _ x0 (by omega) (by omega) (by omega) HW.out).mono ?_; rintro e w' ⟨rfl, rfl⟩)
            | (go_at_call 32; refine (div64_n _ _ lo _ q r _ i0 (by omega) (by omega) HW.out HQ.out).mono ?_; rintro e w1 ⟨rfl, hg⟩)
            | (go_at_call 33; refine (signed_any _ _ _ q0 (by omega)).mono ?_; rintro e w1 ⟨rfl, rfl⟩))
          go_ret2
          exact ⟨ret_sg (by first | rfl | (simp; omega)), hg⟩
end Go.Proofs.YthhjemojblaoeaaDoor.Fx
