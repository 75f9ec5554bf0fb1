/- What the document's Div returns: the rounded quotient, for all ints. -/
import Derived.Test.YthhjemojblaoeaaDoorRows
import Derived.Test.YthhjemojblaoeaaDoorFixMulDivR
import Derived.WalkKit
import Derived.Lib.Hide
import Derived.BigQuiet
import Derived.Handy
import Derived.Deep.QuietTactic
namespace Go.Proofs.YthhjemojblaoeaaDoor.Fx
open Go.RowKit

theorem ret_sg2 {q q' : Int} {m m' : Bool} (hq : q = q') (h : m = m') : Ending.returned (.tuple #[.int .i64 (sg q m).1, .int .i64 (sg q m).2]) = .returned (.tuple #[.int .i64 (sg q' m').1, .int .i64 (sg q' m').2]) := by rw [h, hq]
/-- A digit of the long division, k tenths done. -/
def DgI (y r : Int) (k : Nat) (d s : Int) : Prop := 0 ≤ d ∧ d ≤ k ∧ 0 ≤ s ∧ s < y ∧ d * y + s = k * r
theorem DgI.start {y r : Int} (hy : 0 < y) : DgI y r 0 0 0 := ⟨by omega, by omega, by omega, hy, by omega⟩
theorem DgI.up {y r d s : Int} {k : Nat} (h : DgI y r k d s) (hs : y ≤ s + r) (hr1 : r < y) : DgI y r (k + 1) (d + 1) (s + r - y) := by
  obtain ⟨a, b, c, e, f⟩ := h
  refine ⟨by omega, by omega, by omega, by omega, ?_⟩
  rw [Int.add_mul, Int.natCast_succ, Int.add_mul]; omega
theorem DgI.on {y r d s : Int} {k : Nat} (h : DgI y r k d s) (hs : s + r < y) (hr : 0 ≤ r) : DgI y r (k + 1) d (s + r) := by
  obtain ⟨a, b, c, e, f⟩ := h
  refine ⟨by omega, by omega, by omega, by omega, ?_⟩
  rw [Int.natCast_succ, Int.add_mul]; omega
/-- The long division, i digits done. -/
def LgI (x y : Int) (i : Nat) (q r : Int) : Prop := 0 ≤ q ∧ q < 268435457 * 10 ^ i ∧ 0 ≤ r ∧ r < y ∧ q * y + r = x * 10 ^ i
theorem LgI.start {x y : Int} (hx : 0 ≤ x) (hy : 0 < y) (hq : x / y ≤ 268435456) : LgI x y 0 (x / y) (x % y) := by
  refine ⟨Int.ediv_nonneg hx (by omega), by omega, Int.emod_nonneg _ (by omega), Int.emod_lt_of_pos _ hy, ?_⟩
  have := Int.mul_ediv_add_emod x y
  rw [Int.mul_comm] at this
  omega
theorem LgI.next {x y q r d s : Int} {i : Nat} (_ : i < 3) (h : LgI x y i q r) (hd : DgI y r 10 d s) : LgI x y (i + 1) (10 * q + d) s := by
  obtain ⟨a, b, c, e, f⟩ := h
  obtain ⟨a', b', c', e', f'⟩ := hd
  have hp : (10 : Int) ^ (i + 1) = 10 * 10 ^ i := by rw [Int.pow_succ]; omega
  have k1 : (10 * q + d) * y + s = 10 * (q * y + r) := by rw [Int.add_mul, Int.mul_assoc]; omega
  have h10 : d ≤ 9 := by
    rcases (show d ≤ 9 ∨ 10 ≤ d by omega) with h | h
    · exact h
    · have : 10 * y ≤ d * y := Int.mul_le_mul_of_nonneg_right h (by omega)
      omega
  refine ⟨by omega, ?_, c', e', ?_⟩
  · rw [hp]; omega
  · rw [hp, k1, f]
    rw [Int.mul_left_comm]
/-- Three digits done: the quotient of a thousandfold. -/
theorem LgI.fin {x y q r : Int} (h : LgI x y 3 q r) : q = x * 1000 / y ∧ r = x * 1000 % y ∧ q ≤ 268435457000 := by
  obtain ⟨a, b, c, e, f⟩ := h
  have h3 : (10 : Int) ^ 3 = 1000 := rfl
  rw [h3] at b f
  rw [← f, Int.add_comm, Int.mul_comm, Int.add_mul_ediv_left _ _ (by omega), Int.ediv_eq_zero_of_lt c e, Int.add_mul_emod_self_left, Int.emod_eq_of_lt c e]
  omega
theorem LgI.bound {x y q r : Int} {i : Nat} (h : LgI x y i q r) (hi : i ≤ 3) : 0 ≤ q ∧ q ≤ 268435457000 ∧ 0 ≤ r ∧ r < y := by
  obtain ⟨a, b, c, e, f⟩ := h
  refine ⟨a, ?_, c, e⟩
  have : i = 0 ∨ i = 1 ∨ i = 2 ∨ i = 3 := by omega
  rcases this with rfl | rfl | rfl | rfl <;> omega
theorem quo_of_fin {x y q r : Int} (h : LgI x y 3 q r) : quoR x y = q + (if y ≤ 2 * r then 1 else 0) := by
  obtain ⟨h1, h2, _⟩ := h.fin
  unfold quoR; rw [← h1, ← h2]
theorem quo_over2 {x y : Int} (_ : 0 ≤ x) (hy : 0 < y) (h : 268435456 < x / y) : 268435456 < quoR x y := by
  have h1 : 268435457 * y ≤ x := (Int.le_ediv_iff_mul_le hy).1 (by omega)
  have h2 : 268435457 ≤ x * 1000 / y := (Int.le_ediv_iff_mul_le hy).2 (by omega)
  unfold quoR; split <;> omega

set_option maxHeartbeats 1600000 in
theorem divR_any (a b : Int) (w : World) (a0 : -9223372036854775808 ≤ a) (a1 : a ≤ 9223372036854775807) (b0 : -9223372036854775808 ≤ b) (b1 : b ≤ 9223372036854775807) :
    Calls Tryd.prog 17 #[.int .i64 a, .int .i64 b] w fun e w' => e = .returned (.tuple #[.int .i64 (divR a b).1, .int .i64 (divR a b).2]) ∧ Ext w w' := by
  unfold divR
  by_cases hb0 : b = 0
  · subst hb0
    rw [if_pos rfl]
    go_enter Tryd.func17, Tryd.ntmps17
    go_wp2
    go_ret2
    exact ⟨rfl, Ext.refl _⟩
  rw [if_neg hb0]
  have x0 := ab_nonneg a; have x1 := ab_le a a0 a1; have y1 := ab_le b b0 b1
  have y0 : 0 < ab b := by unfold ab; split <;> omega
  have q0 : 0 ≤ ab a / ab b := Int.ediv_nonneg x0 (by omega)
  have q1 : ab a / ab b ≤ ab a := Int.ediv_le_self _ x0
  have r0 : 0 ≤ ab a % ab b := Int.emod_nonneg _ (by omega)
  have r1 : ab a % ab b < ab b := Int.emod_lt_of_pos _ y0
  have hbn : (b == 0) = false := by simpa using hb0
  by_cases hov : 268435456 < ab a / ab b
  · rw [sg_over (quo_over2 x0 y0 hov)]
    clear hb0
    go_enter Tryd.func17, Tryd.ntmps17
    go_wp2_with (first
      | (go_at_call_of 28 (Value.int .i64 a); refine (abs_any a _ a0 a1).mono ?_; rintro e w' ⟨rfl, rfl⟩)
      | (go_at_call_of 28 (Value.int .i64 b); refine (abs_any b _ b0 b1).mono ?_; rintro e w' ⟨rfl, rfl⟩))
    go_quiet (fail)
    go_wp2
    go_ret2
    exact ⟨rfl, (Ext.refl _).drewN _⟩
  · have hst := LgI.start x0 y0 (by omega)
    have HST := Lib.hid hst
    clear hst hb0
    obtain ⟨x, hx⟩ : ∃ x, ab a = x := ⟨_, rfl⟩
    obtain ⟨y, hy⟩ : ∃ y, ab b = y := ⟨_, rfl⟩
    rw [hx] at x0 x1 q0 q1 r0 r1 hov HST ⊢
    rw [hy] at y0 y1 q0 q1 r0 r1 hov HST ⊢
    have HX := Lib.hid hx; have HY := Lib.hid hy
    clear hx hy
    go_enter Tryd.func17, Tryd.ntmps17
    go_wp2_with (first
      | (go_at_call_of 28 (Value.int .i64 a); refine (abs_any a _ a0 a1).mono ?_; rintro e w' ⟨rfl, rfl⟩; rw [HX.out])
      | (go_at_call_of 28 (Value.int .i64 b); refine (abs_any b _ b0 b1).mono ?_; rintro e w' ⟨rfl, rfl⟩; rw [HY.out]))
    go_quiet (fail)
    go_wp2_with fail
    go_loop [8, 9, 10] (fun q' r' i' => ∃ (i : Nat) (q r : Int), i ≤ 3 ∧ LgI x y i q r ∧ q' = .int .u64 q ∧ r' = .int .u64 r ∧ i' = .int .i64 i) (fun _ _ i' => 3 - (intOf i').toNat)
    case atStart => exact ⟨0, _, _, by omega, HST.out, rfl, rfl, rfl⟩
    case round =>
      obtain ⟨i, q, r, hi, hI, rfl, rfl, rfl⟩ := hrel
      obtain ⟨bq0, bq1, br0, br1⟩ := hI.bound hi
      clear q0 q1 r0 r1 hov
      by_cases hi3 : i < 3
      · have HI := Lib.hid hI; clear hI
        go_wp2_with fail
        go_loop [11, 12, 13] (fun d' s' k' => ∃ (k : Nat) (d s : Int), k ≤ 10 ∧ DgI y r k d s ∧ d' = .int .u64 d ∧ s' = .int .u64 s ∧ k' = .int .i64 k) (fun _ _ k' => 10 - (intOf k').toNat)
        case atStart => exact ⟨0, _, _, by omega, DgI.start y0, rfl, rfl, rfl⟩
        case round =>
          obtain ⟨k, d, s, hk, hD, rfl, rfl, rfl⟩ := hrel
          have ⟨d0, d1, s0, s1, _⟩ := hD
          by_cases hk10 : k < 10
          · by_cases hc : y ≤ s + r
            · have HD := Lib.hid (hD.up hc br1); clear hD
              go_wp2
              go_round
              case rel => exact ⟨k + 1, d + 1, s + r - y, by omega, HD.out, rfl, rfl, by go_num⟩
              case measure => simp [intOf]; omega
            · have HD := Lib.hid (hD.on (by omega) br0); clear hD
              go_wp2
              go_round
              case rel => exact ⟨k + 1, d, s + r, by omega, HD.out, rfl, rfl, by go_num⟩
              case measure => simp [intOf]; omega
          · obtain rfl : k = 10 := by omega
            have HN := Lib.hid (HI.out.next hi3 hD); clear hD
            go_wp2
            go_round
            case rel => exact ⟨i + 1, 10 * q + d, s, by omega, HN.out, rfl, rfl, by go_num⟩
            case measure => simp [intOf]; omega
      · obtain rfl : i = 3 := by omega
        have HQ := Lib.hid (quo_of_fin hI)
        clear hI
        by_cases ha : a < 0
        all_goals by_cases hb : b < 0
        all_goals
          first | have HO := Lib.hid (opp_tt ha hb) | have HO := Lib.hid (opp_tf ha hb) | have HO := Lib.hid (opp_ft ha hb) | have HO := Lib.hid (opp_ff ha hb)
          by_cases hup : y ≤ 2 * r
          · rw [if_pos hup] at HQ
            go_wp2_with (go_at_call 34; refine (signedR_any _ _ _ (by omega) (by omega)).mono ?_; rintro e w1 ⟨rfl, rfl⟩)
            go_ret2
            exact ⟨ret_sg2 HQ.out.symm (by rw [HO.out]), (Ext.refl _).drewN _⟩
          · rw [if_neg hup, Int.add_zero] at HQ
            go_wp2_with (go_at_call 34; refine (signedR_any _ _ _ (by omega) (by omega)).mono ?_; rintro e w1 ⟨rfl, rfl⟩)
            go_ret2
            exact ⟨ret_sg2 HQ.out.symm (by rw [HO.out]), (Ext.refl _).drewN _⟩
end Go.Proofs.YthhjemojblaoeaaDoor.Fx
