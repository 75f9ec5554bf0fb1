/- What math/bits.Div64 returns: the quotient and the rest of a number of two words by a greater divisor; and what math/bits.Add64 returns. -/
import Derived.Test.YthhjemojblaoeaaDoorRows
import Derived.Test.YthhjemojblaoeaaDoorFixWalkA
import Derived.Test.YthhjemojblaoeaaDoorFixDiv
import Derived.Test.YthhjemojblaoeaaDoorShelf
import Derived.WalkKit
import Derived.Lib.Hide
import Derived.BigQuiet
import Derived.Handy
import Derived.Deep.QuietTactic
import Derived.Deep.DeepCutAuto
import Derived.Deep.CutBlock
namespace Go.Proofs.YthhjemojblaoeaaDoor.Fx
open Go.RowKit

theorem div64_low (lo y : Int) (w : World) (h1 : 0 < y) (hy : y ≤ 18446744073709551615) (hl : 0 ≤ lo) (hl1 : lo ≤ 18446744073709551615) :
    Calls Tryd.prog 32 #[.int .u64 0, .int .u64 lo, .int .u64 y] w fun e w' => e = .returned (.tuple #[.int .u64 (lo / y), .int .u64 (lo % y)]) ∧ Ext w w' := by
  have a0 : 0 ≤ lo / y := Int.ediv_nonneg hl (by omega)
  have a1 : lo / y ≤ lo := Int.ediv_le_self _ hl
  have b0 : 0 ≤ lo % y := Int.emod_nonneg _ (by omega)
  have b1 : lo % y < y := Int.emod_lt_of_pos _ h1
  have e1 : (y == 0) = false := by simp; omega
  go_enter Tryd.func32, Tryd.ntmps32
  go_wp2
  go_quiet (fail)
  go_wp2
  go_ret2
  exact ⟨rfl, (Ext.refl _).drewN _⟩

set_option maxHeartbeats 1000000 in
set_option maxRecDepth 100000 in
theorem div64_high (hi lo y : Int) (w : World) (h0 : 1 ≤ hi) (h1 : hi < y) (hy : y ≤ 18446744073709551615) (hl : 0 ≤ lo) (hl1 : lo ≤ 18446744073709551615) :
    Calls Tryd.prog 32 #[.int .u64 hi, .int .u64 lo, .int .u64 y] w fun e w' => e = .returned (.tuple #[.int .u64 ((hi * 18446744073709551616 + lo) / y), .int .u64 ((hi * 18446744073709551616 + lo) % y)]) ∧ Ext w w' := by
  obtain ⟨s, hs, hs2, hY0, hY1⟩ := shift_of y (by omega) hy
  have HS := Lib.hid hs2; clear hs2
  obtain ⟨u, L, hA0, hA1, hor, hL, hu0, hu1, hL0, hL1, hN⟩ := div64_head hi lo y s (by omega) h1 hl hl1 hs hY1
  obtain ⟨Y, hY⟩ : ∃ Y, y * 2 ^ s = Y := ⟨_, rfl⟩
  obtain ⟨A, hA⟩ : ∃ A, hi * 2 ^ s = A := ⟨_, rfl⟩
  rw [hY] at hY0 hY1 hu1
  rw [hA] at hA0 hA1 hor
  have hand := and_low Y (by omega) hY1
  have hand2 := and_low L (by omega) hL1
  obtain ⟨y1, hy1⟩ : ∃ y1, Y / 4294967296 = y1 := ⟨_, rfl⟩
  obtain ⟨y0, hy0⟩ : ∃ y0, Y % 4294967296 = y0 := ⟨_, rfl⟩
  obtain ⟨u1, hu1e⟩ : ∃ u1, L / 4294967296 = u1 := ⟨_, rfl⟩
  obtain ⟨u0, hu0e⟩ : ∃ u0, L % 4294967296 = u0 := ⟨_, rfl⟩
  rw [hy0] at hand
  rw [hu0e] at hand2
  have y1a : 2147483648 ≤ y1 := by omega
  have y1b : y1 ≤ 4294967295 := by omega
  have y0a : 0 ≤ y0 := by omega
  have y0b : y0 ≤ 4294967295 := by omega
  have v1a : 0 ≤ u1 := by omega
  have v1b : u1 ≤ 4294967295 := by omega
  have v0a : 0 ≤ u0 := by omega
  have v0b : u0 ≤ 4294967295 := by omega
  have hYe : y1 * 4294967296 + y0 = Y := by omega
  have hst := DI.start y1a y1b y0a y0b hu0 (by omega) v1a v1b
  obtain ⟨q, hq⟩ : ∃ q, u / y1 = q := ⟨_, rfl⟩
  obtain ⟨r, hr⟩ : ∃ r, u - q * y1 = r := ⟨_, rfl⟩
  rw [hq, hr] at hst
  obtain ⟨qa, qb, ra, rb, hqr, hlt⟩ := hst
  have HE := Lib.hid hYe; have HQ := Lib.hid hqr; have HLT := Lib.hid hlt; have HN := Lib.hid hN; have HY := Lib.hid hY; have HU0 := Lib.hid hu0e; have HU1 := Lib.hid hu1e
  clear hYe hqr hlt hN hu0e
  have qm0 : 0 ≤ q * y1 := Int.mul_nonneg qa (by omega)
  have qm1 : q * y1 ≤ 18446744073709551615 := by omega
  go_enter Tryd.func32, Tryd.ntmps32
  go_upto_block 0 with (go_at_call 44; refine (Tryd.bits_LeadingZeros64 y _ (by omega) (by omega)).mono ?_; rintro e w ⟨rfl, rfl⟩; rw [HS.out])
  simp only [hq]
  go_cut [15, 16] (fun q' r' wx => ∃ a R b : Int, DE u u1 Y a R ∧ q' = .int .u64 a ∧ r' = .int .u64 b ∧ wx = w)
  case first =>
    go_wp2_with fail
    go_loop [15, 16] (fun q' r' => ∃ a b : Int, DI u u1 y1 y0 a b ∧ q' = .int .u64 a ∧ r' = .int .u64 b) (fun q' _ => (intOf q').toNat)
    case atStart => exact ⟨q, r, ⟨qa, qb, ra, rb, HQ.out, HLT.out⟩, rfl, rfl⟩
    case round =>
      obtain ⟨a, b, hI, rfl, rfl⟩ := hrel
      have ⟨a0, a1, b0, b1, _, _⟩ := hI
      have m0 : 0 ≤ a * y0 := Int.mul_nonneg a0 y0a
      have m1 : a * y0 ≤ 18446744073709551615 := by
        have h1 : a * y0 ≤ 4294967297 * y0 := Int.mul_le_mul_of_nonneg_right a1 y0a
        omega
      by_cases hc : 4294967296 ≤ a ∨ 4294967296 * b + u1 < a * y0
      · have hd := hI.down y1a y0a y0b v1a v1b (by have := HE.out; omega) hc
        have hag := hI.again y1a y0a y0b v1a v1b (by have := HE.out; omega) hc
        have hlv := hI.leave y1a y0a y0b v1a v1b (by have := HE.out; omega) hc
        obtain ⟨d1, -, -⟩ := hd
        have HAG := Lib.hid hag; have HLV := Lib.hid hlv
        clear hag hlv hI
        by_cases c1 : 4294967296 ≤ a
        · clear hc
          by_cases c3 : 4294967296 ≤ b + y1
          · go_wp2
            go_meet
            exact ⟨a - 1, _, _, by have := HLV.out c3; rw [HE.out] at this; exact this, rfl, rfl, rfl⟩
          · go_wp2
            go_round
            case rel => exact ⟨a - 1, b + y1, HAG.out (by omega), rfl, rfl⟩
            case measure => simp [intOf]; omega
        · have c2 := hc.resolve_left c1
          clear hc
          by_cases c3 : 4294967296 ≤ b + y1
          · go_wp2
            go_meet
            exact ⟨a - 1, _, _, by have := HLV.out c3; rw [HE.out] at this; exact this, rfl, rfl, rfl⟩
          · go_wp2
            go_round
            case rel => exact ⟨a - 1, b + y1, HAG.out (by omega), rfl, rfl⟩
            case measure => simp [intOf]; omega
      · have c1 : ¬ 4294967296 ≤ a := fun h => hc (Or.inl h)
        have c2 : ¬ 4294967296 * b + u1 < a * y0 := fun h => hc (Or.inr h)
        have hst := hI.stop (by omega) (by omega)
        have HST := Lib.hid hst
        clear hst hI hc
        go_wp2
        go_meet
        exact ⟨a, _, _, by have := HST.out; rw [HE.out] at this; exact this, rfl, rfl, rfl⟩
  case rest =>
    obtain ⟨a, R, b, hD, rfl, rfl, rfl⟩ := hcut
    have hR := rest_wrap hD hY1
    obtain ⟨a0, a1, R0, R1, hDe⟩ := hD
    have HDE := Lib.hid hDe; clear hDe
    have hst := DI.start y1a y1b y0a y0b R0 (by have := HE.out; omega) v0a v0b
    obtain ⟨q2, hq2⟩ : ∃ q2, R / y1 = q2 := ⟨_, rfl⟩
    obtain ⟨r2, hr2⟩ : ∃ r2, R - q2 * y1 = r2 := ⟨_, rfl⟩
    rw [hq2, hr2] at hst
    obtain ⟨q2a, q2b, r2a, r2b, hqr2, hlt2⟩ := hst
    have qm20 : 0 ≤ q2 * y1 := Int.mul_nonneg q2a (by omega)
    have qm21 : q2 * y1 ≤ 18446744073709551615 := by omega
    have HQ2 := Lib.hid hqr2; have HLT2 := Lib.hid hlt2
    clear hqr2 hlt2
    go_upto_block 2 with fail
    simp only [hq2]
    go_cut [18, 16] (fun q' r' wx => ∃ a2 R2 b2 : Int, DE R u0 Y a2 R2 ∧ q' = .int .u64 a2 ∧ r' = .int .u64 b2 ∧ wx = wc)
    case first =>
      go_wp2_with fail
      go_loop [18, 16] (fun q' r' => ∃ a b : Int, DI R u0 y1 y0 a b ∧ q' = .int .u64 a ∧ r' = .int .u64 b) (fun q' _ => (intOf q').toNat)
      case atStart => exact ⟨q2, r2, ⟨q2a, q2b, r2a, r2b, HQ2.out, HLT2.out⟩, rfl, rfl⟩
      case round =>
        obtain ⟨a, b, hI, rfl, rfl⟩ := hrel
        have ⟨a0, a1, b0, b1, _, _⟩ := hI
        have m0 : 0 ≤ a * y0 := Int.mul_nonneg a0 y0a
        have m1 : a * y0 ≤ 18446744073709551615 := by
          have h1 : a * y0 ≤ 4294967297 * y0 := Int.mul_le_mul_of_nonneg_right a1 y0a
          omega
        by_cases hc : 4294967296 ≤ a ∨ 4294967296 * b + u0 < a * y0
        · have hd := hI.down y1a y0a y0b v0a v0b (by have := HE.out; omega) hc
          have hag := hI.again y1a y0a y0b v0a v0b (by have := HE.out; omega) hc
          have hlv := hI.leave y1a y0a y0b v0a v0b (by have := HE.out; omega) hc
          obtain ⟨d1, -, -⟩ := hd
          have HAG := Lib.hid hag; have HLV := Lib.hid hlv
          clear hag hlv hI
          by_cases c1 : 4294967296 ≤ a
          · clear hc
            by_cases c3 : 4294967296 ≤ b + y1
            · go_wp2
              go_meet
              exact ⟨a - 1, _, _, by have := HLV.out c3; rw [HE.out] at this; exact this, rfl, rfl, rfl⟩
            · go_wp2
              go_round
              case rel => exact ⟨a - 1, b + y1, HAG.out (by omega), rfl, rfl⟩
              case measure => simp [intOf]; omega
          · have c2 := hc.resolve_left c1
            clear hc
            by_cases c3 : 4294967296 ≤ b + y1
            · go_wp2
              go_meet
              exact ⟨a - 1, _, _, by have := HLV.out c3; rw [HE.out] at this; exact this, rfl, rfl, rfl⟩
            · go_wp2
              go_round
              case rel => exact ⟨a - 1, b + y1, HAG.out (by omega), rfl, rfl⟩
              case measure => simp [intOf]; omega
        · have c1 : ¬ 4294967296 ≤ a := fun h => hc (Or.inl h)
          have c2 : ¬ 4294967296 * b + u0 < a * y0 := fun h => hc (Or.inr h)
          have hst := hI.stop (by omega) (by omega)
          have HST := Lib.hid hst
          clear hst hI hc
          go_wp2
          go_meet
          exact ⟨a, _, _, by have := HST.out; rw [HE.out] at this; exact this, rfl, rfl, rfl⟩
    case rest =>
      obtain ⟨a2, R2, b2, hD2, rfl, rfl, rfl⟩ := hcut
      have hR2 := rest_wrap hD2 hY1
      obtain ⟨a20, a21, R20, R21, hDe2⟩ := hD2
      have HDE2 := Lib.hid hDe2; clear hDe2
      have hfin := div64_end (pow_pos' s) HY.out HN.out (by rw [HU1.out]; exact HDE.out) (by rw [HU0.out]; exact HDE2.out) R20 R21
      have HF := Lib.hid hfin; clear hfin
      go_wp2
      go_ret2
      exact ⟨ret_pair HF.out.1 HF.out.2, Ext.refl _⟩

theorem div64_any (hi lo y : Int) (w : World) (h0 : 0 ≤ hi) (h1 : hi < y) (hy : y ≤ 18446744073709551615) (hl : 0 ≤ lo) (hl1 : lo ≤ 18446744073709551615) :
    Calls Tryd.prog 32 #[.int .u64 hi, .int .u64 lo, .int .u64 y] w fun e w' => e = .returned (.tuple #[.int .u64 ((hi * 18446744073709551616 + lo) / y), .int .u64 ((hi * 18446744073709551616 + lo) % y)]) ∧ Ext w w' := by
  by_cases h : hi = 0
  · subst h
    have := div64_low lo y w (by omega) hy hl hl1
    rw [Int.zero_mul, Int.zero_add]
    exact this
  · exact div64_high hi lo y w (by omega) h1 hy hl hl1

theorem add64_any (x y : Int) (hx : 0 ≤ x) (hy : 0 ≤ y) (w : World) : (callFunc 31 #[.int .u64 x, .int .u64 y, .int .u64 0]).run Tryd.prog w =
    .ok (.value (.tuple #[.int .u64 ((x + y) % 18446744073709551616), .int .u64 ((x + y) / 18446744073709551616)])) w := by
  rw [run_callFunc_extern Tryd.func31 (by kernel_rfl) (by kernel_rfl) (by kernel_rfl) (e := add64Entry) (by kernel_rfl), run_add64 x y 0 hx hy (Int.le_refl 0) (by decide)]
  simp only [Result.andThen, Int.add_zero]

/-- Mul64 over Int. -/
theorem mul64_any (x y : Int) (w : World) (hx : 0 ≤ x) (hx1 : x ≤ 18446744073709551615) (hy : 0 ≤ y) (hy1 : y ≤ 18446744073709551615) :
    Calls Tryd.prog 30 #[.int .u64 x, .int .u64 y] w fun e w' => e = .returned (.tuple #[.int .u64 (x * y / 18446744073709551616), .int .u64 (x * y % 18446744073709551616)]) ∧ w = w' := by
  obtain ⟨x, rfl⟩ := Int.eq_ofNat_of_zero_le hx
  obtain ⟨y, rfl⟩ := Int.eq_ofNat_of_zero_le hy
  refine (Tryd.bits_Mul64 x y (by omega) (by omega) w).mono ?_
  rintro e w' ⟨rfl, rfl⟩
  exact ⟨rfl, rfl⟩
end Go.Proofs.YthhjemojblaoeaaDoor.Fx
