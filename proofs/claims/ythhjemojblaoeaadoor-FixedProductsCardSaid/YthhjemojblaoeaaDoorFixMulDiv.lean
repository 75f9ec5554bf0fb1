/- What Mul and Div return, of the program and of the document: the rounded product and quotient, for all ints. -/
import Derived.Test.YthhjemojblaoeaaDoorRows
import Derived.Test.YthhjemojblaoeaaDoorFixWalkA
import Derived.Test.YthhjemojblaoeaaDoorFixDivWalk
import Derived.WalkKit
import Derived.Lib.Hide
import Derived.BigQuiet
import Derived.Handy
import Derived.Deep.QuietTactic
namespace Go.Proofs.YthhjemojblaoeaaDoor.Fx
open Go.RowKit

/-- Two words. -/
def Word2 (P hi lo : Int) : Prop := P = hi * 18446744073709551616 + lo ∧ 0 ≤ lo ∧ lo ≤ 18446744073709551615
theorem mul64_n (x y hi lo : Int) (w : World) (hx : 0 ≤ x) (hx1 : x ≤ 18446744073709551615) (hy : 0 ≤ y) (hy1 : y ≤ 18446744073709551615) (h : Word2 (x * y) hi lo) :
    Calls Tryd.prog 30 #[.int .u64 x, .int .u64 y] w fun e w' => e = .returned (.tuple #[.int .u64 hi, .int .u64 lo]) ∧ w = w' := by
  obtain ⟨h1, h2, h3⟩ := h
  refine (mul64_any x y w hx hx1 hy hy1).mono ?_
  rintro e w' ⟨rfl, rfl⟩
  exact ⟨ret_pair (by omega) (by omega), rfl⟩
theorem add64_n (x y c s : Int) (hx : 0 ≤ x) (hy : 0 ≤ y) (h : Word2 (x + y) c s) (w : World) : (callFunc 31 #[.int .u64 x, .int .u64 y, .int .u64 0]).run Tryd.prog w =
    .ok (.value (.tuple #[.int .u64 s, .int .u64 c])) w := by
  obtain ⟨h1, h2, h3⟩ := h
  rw [add64_any x y hx hy, show (x + y) % 18446744073709551616 = s by omega, show (x + y) / 18446744073709551616 = c by omega]
/-- Quotient and rest. -/
def Quot (N y q r : Int) : Prop := N / y = q ∧ N % y = r
theorem div64_n (N hi lo y q r : Int) (w : World) (h0 : 0 ≤ hi) (h1 : hi < y) (hy : y ≤ 18446744073709551615) (h : Word2 N hi lo) (hq : Quot N y q r) :
    Calls Tryd.prog 32 #[.int .u64 hi, .int .u64 lo, .int .u64 y] w fun e w' => e = .returned (.tuple #[.int .u64 q, .int .u64 r]) ∧ Ext w w' := by
  obtain ⟨h1', h2, h3⟩ := h
  obtain ⟨q1, q2⟩ := hq
  refine (div64_any hi lo y w h0 h1 hy h2 h3).mono ?_
  rintro e w' ⟨rfl, hg⟩
  rw [← h1']
  exact ⟨ret_pair q1 q2, hg⟩

theorem opp_tt {a b : Int} (ha : a < 0) (hb : b < 0) : opp a b = false := by simp [opp, ha, hb]
theorem opp_tf {a b : Int} (ha : a < 0) (hb : ¬ b < 0) : opp a b = true := by simp [opp, ha, hb]
theorem opp_ft {a b : Int} (ha : ¬ a < 0) (hb : b < 0) : opp a b = true := by simp [opp, ha, hb]
theorem opp_ff {a b : Int} (ha : ¬ a < 0) (hb : ¬ b < 0) : opp a b = false := by simp [opp, ha, hb]
/-- The words of a product of sizes, and of it plus 500. -/
theorem mul_words (P : Int) (h0 : 0 ≤ P) (h1 : P ≤ 85070591730234615865843651857942052864) : ∃ hi lo c s : Int, Word2 P hi lo ∧ Word2 (lo + 500) c s ∧ Word2 (P + 500) (hi + c) s ∧ 0 ≤ hi ∧ hi ≤ 4611686018427387904 ∧ 0 ≤ c ∧ c ≤ 1 ∧ 0 ≤ lo ∧ lo ≤ 18446744073709551615 ∧
    (1000 ≤ hi + c → 268435456 < (P + 500) / 1000) ∧ (hi + c < 1000 → (P + 500) / 1000 ≤ 18446744073709551615) := by
  refine ⟨P / 18446744073709551616, P % 18446744073709551616, (P % 18446744073709551616 + 500) / 18446744073709551616, (P % 18446744073709551616 + 500) % 18446744073709551616, ?_, ?_, ?_, ?_, ?_, ?_, ?_, ?_, ?_, ?_, ?_⟩
  · unfold Word2; omega
  · unfold Word2; omega
  · unfold Word2; omega
  all_goals omega
theorem ab_mul_le (a b : Int) (a0 : -9223372036854775808 ≤ a) (a1 : a ≤ 9223372036854775807) (b0 : -9223372036854775808 ≤ b) (b1 : b ≤ 9223372036854775807) :
    0 ≤ ab a * ab b ∧ ab a * ab b ≤ 85070591730234615865843651857942052864 := by
  have x0 := ab_nonneg a; have x1 := ab_le a a0 a1; have y0 := ab_nonneg b; have y1 := ab_le b b0 b1
  refine ⟨Int.mul_nonneg x0 y0, ?_⟩
  have h1 : ab a * ab b ≤ 9223372036854775808 * ab b := Int.mul_le_mul_of_nonneg_right x1 y0
  omega

set_option maxHeartbeats 800000 in
theorem mul_any (a b : Int) (w : World) (a0 : -9223372036854775808 ≤ a) (a1 : a ≤ 9223372036854775807) (b0 : -9223372036854775808 ≤ b) (b1 : b ≤ 9223372036854775807) :
    Calls Tryd.prog 14 #[.int .i64 a, .int .i64 b] w fun e w' => e = .returned (.tuple #[.int .i64 (mulR a b).1, .int .i64 (mulR a b).2]) ∧ Ext w w' := by
  obtain ⟨p0, p1⟩ := ab_mul_le a b a0 a1 b0 b1
  obtain ⟨hi, lo, c, s, hW, hA, hS, i0, i1, c0, c1, l0, l1, hbig, hsmall⟩ := mul_words _ p0 p1
  have x0 := ab_nonneg a; have x1 := ab_le a a0 a1; have y0 := ab_nonneg b; have y1 := ab_le b b0 b1
  have HW := Lib.hid hW; have HS := Lib.hid hS; have HA := Lib.hid hA
  have q0 : 0 ≤ (ab a * ab b + 500) / 1000 := Int.ediv_nonneg (by omega) (by omega)
  unfold mulR
  obtain ⟨q, hq⟩ : ∃ q, (ab a * ab b + 500) / 1000 = q := ⟨_, rfl⟩
  have HQ : Hid (Quot (ab a * ab b + 500) 1000 q ((ab a * ab b + 500) % 1000)) := Lib.hid ⟨hq, rfl⟩
  rw [hq] at hbig hsmall q0 ⊢
  obtain ⟨r, hr⟩ : ∃ r, (ab a * ab b + 500) % 1000 = r := ⟨_, rfl⟩
  rw [hr] at HQ
  clear hW hS hA hq hr p0 p1
  by_cases hbg : 1000 ≤ hi + c
  · have := hbig hbg
    rw [sg_over this]
    clear hbig hsmall
    go_enter Tryd.func14, Tryd.ntmps14
    go_wp2_with (first
      | (go_at_call_of 20 (Value.int .i64 a); refine (size_any a _ a0 a1).mono ?_; rintro e w' ⟨rfl, rfl⟩)
      | (go_at_call_of 20 (Value.int .i64 b); refine (size_any b _ b0 b1).mono ?_; rintro e w' ⟨rfl, rfl⟩)
      | (go_at_call 30; refine (mul64_n _ _ hi lo _ x0 (by omega) y0 (by omega) HW.out).mono ?_; rintro e w' ⟨rfl, rfl⟩)
      | simp only [add64_n lo 500 c s l0 (by omega) HA.out])
    go_ret2
    exact ⟨rfl, Ext.refl _⟩
  · have hsm := hsmall (by omega)
    clear hbig hsmall
    by_cases ha : a < 0
    all_goals by_cases hb : b < 0
    all_goals
      first | rw [opp_tt ha hb] | rw [opp_tf ha hb] | rw [opp_ft ha hb] | rw [opp_ff ha hb]
      go_enter Tryd.func14, Tryd.ntmps14
      go_wp2_with (first
        | (go_at_call_of 20 (Value.int .i64 a); refine (size_any a _ a0 a1).mono ?_; rintro e w' ⟨rfl, rfl⟩)
        | (go_at_call_of 20 (Value.int .i64 b); refine (size_any b _ b0 b1).mono ?_; rintro e w' ⟨rfl, rfl⟩)
        | (go_at_call 30; refine (mul64_n _ _ hi lo _ x0 (by omega) y0 (by omega) HW.out).mono ?_; rintro e w' ⟨rfl, rfl⟩)
        | simp only [add64_n lo 500 c s l0 (by omega) HA.out]
        | (go_at_call 32; refine (div64_n _ _ s 1000 q r _ (by omega) (by omega) (by omega) HS.out HQ.out).mono ?_; rintro e w1 ⟨rfl, hg⟩)
        | (go_at_call 33; refine (signed_any q _ _ q0 hsm).mono ?_; rintro e w1 ⟨rfl, rfl⟩))
      go_ret2
      exact ⟨rfl, hg⟩
end Go.Proofs.YthhjemojblaoeaaDoor.Fx
