/- Plain arithmetic of math/bits.Div64: the shift that norms the divisor, and how two digits of 32 bits make the quotient; no program in sight. -/
import Derived.Test.YthhjemojblaoeaaDoorFixArith
import Derived.WalkKit
import Derived.Lib.ItoaNum
import Derived.Laws.Bits64b
namespace Go.Proofs.YthhjemojblaoeaaDoor.Fx
open Go

theorem pow64 (s : Nat) (h : s ≤ 64) : (2 : Int) ^ s * 2 ^ (64 - s) = 18446744073709551616 := by
  rw [← Int.pow_add, show s + (64 - s) = 64 by omega]; rfl
theorem pow_pos' (s : Nat) : (1 : Int) ≤ 2 ^ s := by have : (0 : Int) < 2 ^ s := Int.pow_pos (by decide); omega

theorem norm_nat (y b : Nat) (hb : b ≤ 64) (h1 : 1 ≤ b) (h2 : 2 ^ (b - 1) ≤ y) (h3 : y < 2 ^ b) : 9223372036854775808 ≤ y * 2 ^ (64 - b) ∧ y * 2 ^ (64 - b) ≤ 18446744073709551615 := by
  have e1 : 2 ^ (b - 1) * 2 ^ (64 - b) = 9223372036854775808 := by rw [← Nat.pow_add, show b - 1 + (64 - b) = 63 by omega]
  have e2 : 2 ^ b * 2 ^ (64 - b) = 18446744073709551616 := by rw [← Nat.pow_add, show b + (64 - b) = 64 by omega]
  have p : 0 < 2 ^ (64 - b) := Nat.two_pow_pos _
  have a1 := Nat.mul_le_mul_right (2 ^ (64 - b)) h2
  have a2 := Nat.mul_lt_mul_of_pos_right h3 p
  omega

theorem shift_of (y : Int) (h0 : 1 ≤ y) (h1 : y ≤ 18446744073709551615) : ∃ s : Nat, s ≤ 63 ∧ 64 - (Lib.bitLen y.toNat : Int) = s ∧ 9223372036854775808 ≤ y * 2 ^ s ∧ y * 2 ^ s ≤ 18446744073709551615 := by
  obtain ⟨n, rfl⟩ := Int.eq_ofNat_of_zero_le (show 0 ≤ y by omega)
  obtain ⟨b1, b2, b3⟩ := Lib.bitLenAux_bounds 64 n (by omega) (by omega)
  have hle : Lib.bitLenAux 64 n ≤ 64 := by
    rcases Nat.lt_or_ge 64 (Lib.bitLenAux 64 n) with h | h
    · have : 2 ^ 64 ≤ 2 ^ (Lib.bitLenAux 64 n - 1) := Nat.pow_le_pow_right (by omega) (by omega)
      omega
    · exact h
  have hn := norm_nat n _ hle b1 b2 b3
  refine ⟨64 - Lib.bitLenAux 64 n, by omega, ?_, ?_, ?_⟩
  · show 64 - ((Lib.bitLenAux 64 (n : Int).toNat : Nat) : Int) = _
    rw [Int.toNat_natCast]; omega
  · have := hn.1; have h : ((9223372036854775808 : Nat) : Int) ≤ ((n * 2 ^ (64 - Lib.bitLenAux 64 n) : Nat) : Int) := Int.ofNat_le.2 this
    rw [Int.natCast_mul, Int.natCast_pow] at h; exact h
  · have := hn.2; have h : ((n * 2 ^ (64 - Lib.bitLenAux 64 n) : Nat) : Int) ≤ ((18446744073709551615 : Nat) : Int) := Int.ofNat_le.2 this
    rw [Int.natCast_mul, Int.natCast_pow] at h; exact h

theorem and_low (Y : Int) (h0 : 0 ≤ Y) (h1 : Y ≤ 18446744073709551615) : bits .and .u64 Y 4294967295 = Y % 4294967296 := by
  obtain ⟨n, rfl⟩ := Int.eq_ofNat_of_zero_le h0
  have := u64_and_nat n 4294967295 (by omega) (by omega)
  rw [show ((4294967295 : Nat) : Int) = 4294967295 from rfl] at this
  rw [this, show (4294967295 : Nat) = 2 ^ 32 - 1 from rfl, Nat.and_two_pow_sub_one_eq_mod]; rfl

theorem or_sum (hi c : Int) (s : Nat) (h0 : 0 ≤ hi) (hc : 0 ≤ c) (hc1 : c < 2 ^ s) (hs : s ≤ 64) (ha : hi * 2 ^ s ≤ 18446744073709551615) : bits .or .u64 (hi * 2 ^ s) c = hi * 2 ^ s + c := by
  obtain ⟨n, rfl⟩ := Int.eq_ofNat_of_zero_le h0
  obtain ⟨m, rfl⟩ := Int.eq_ofNat_of_zero_le hc
  have p : (2 : Int) ^ s ≤ 18446744073709551616 := by
    have := pow64 s hs; have q := pow_pos' (64 - s); have r := pow_pos' s
    have := Int.mul_le_mul_of_nonneg_left (c := 2 ^ s) q (by omega)
    omega
  have hm : m < 2 ^ s := by have : ((2 ^ s : Nat) : Int) = 2 ^ s := Int.natCast_pow 2 s; omega
  have e : (n : Int) * 2 ^ s = ((n * 2 ^ s : Nat) : Int) := by rw [Int.natCast_mul, Int.natCast_pow]; rfl
  rw [e] at ha ⊢
  rw [u64_or_nat (n * 2 ^ s) m (by omega) (by omega), Nat.mul_comm n, ← Nat.two_pow_add_eq_or_of_lt hm]; rfl

/-- What Div64 computes ahead of its loops. -/
theorem div64_head (hi lo y : Int) (s : Nat) (h0 : 0 ≤ hi) (h1 : hi < y) (hl0 : 0 ≤ lo) (hl1 : lo ≤ 18446744073709551615) (hs : s ≤ 63) (hY1 : y * 2 ^ s ≤ 18446744073709551615) :
    ∃ u L : Int, 0 ≤ hi * 2 ^ s ∧ hi * 2 ^ s ≤ 18446744073709551615 ∧ bits .or .u64 (hi * 2 ^ s) (lo / 2 ^ (64 - s)) = u ∧ IntKind.u64.wrap (lo * 2 ^ s) = L ∧ 0 ≤ u ∧ u < y * 2 ^ s ∧ 0 ≤ L ∧ L ≤ 18446744073709551615 ∧ (hi * 18446744073709551616 + lo) * 2 ^ s = u * 18446744073709551616 + L := by
  have hp := pow_pos' s
  have hq := pow_pos' (64 - s)
  have hpq := pow64 s (by omega)
  generalize hP : (2 : Int) ^ s = p at *
  generalize hQ : (2 : Int) ^ (64 - s) = q at *
  have a1 : 0 ≤ hi * p := Int.mul_nonneg h0 (by omega)
  have a2 : (hi + 1) * p ≤ y * p := Int.mul_le_mul_of_nonneg_right (by omega) (by omega)
  rw [Int.add_mul] at a2
  have c0 : 0 ≤ lo / q := Int.ediv_nonneg hl0 (by omega)
  have c1 : lo / q < p := Int.ediv_lt_of_lt_mul (by omega) (by rw [hpq]; omega)
  have hor : bits .or .u64 (hi * p) (lo / q) = hi * p + lo / q := by
    rw [← hP] at c1 ⊢
    exact or_sum hi _ s h0 c0 c1 (by omega) (by rw [hP]; omega)
  refine ⟨hi * p + lo / q, (lo * p) % 18446744073709551616, a1, by omega, hor, IntKind.wrap_u64 _, by omega, by omega, Int.emod_nonneg _ (by decide), by omega, ?_⟩
  have e : lo * p / 18446744073709551616 = lo / q := by
    rw [← hpq, Int.mul_comm p q, Int.mul_ediv_mul_of_pos_left _ _ (by omega)]
  have e2 := Int.mul_ediv_add_emod (lo * p) 18446744073709551616
  rw [e] at e2
  rw [Int.add_mul, Int.mul_right_comm]
  omega

/-- The two digits make the quotient, the last rest, shifted back, the rest. -/
theorem div64_end {N y u L p Y q1 R q0 R2 : Int} (hp : 1 ≤ p) (hY : y * p = Y) (hN : N * p = u * 18446744073709551616 + L)
    (d1 : u * 4294967296 + L / 4294967296 = q1 * Y + R) (d0 : R * 4294967296 + L % 4294967296 = q0 * Y + R2) (r0 : 0 ≤ R2) (r1 : R2 < Y) :
    q1 * 4294967296 + q0 = N / y ∧ R2 / p = N % y := by
  have e : N * p = (q1 * 4294967296 + q0) * Y + R2 := by
    have : L = L / 4294967296 * 4294967296 + L % 4294967296 := by omega
    rw [hN, Int.add_mul, Int.mul_right_comm]
    omega
  have hYp : 0 < Y := by omega
  have k1 : N * p / Y = q1 * 4294967296 + q0 := by
    rw [e, Int.mul_comm, Int.mul_add_ediv_left _ _ (Int.ne_of_gt hYp), Int.ediv_eq_zero_of_lt r0 r1]; omega
  have k2 : N * p % Y = R2 := by
    rw [e, Int.mul_comm, Int.mul_add_emod_self_left]; exact Int.emod_eq_of_lt r0 r1
  constructor
  · rw [← k1, ← hY]; exact Int.mul_ediv_mul_of_pos_left _ _ (by omega)
  · have : N * p % (y * p) = N % y * p := by rw [Int.mul_comm N p, Int.mul_comm y p, Int.mul_emod_mul_of_pos _ _ (by omega), Int.mul_comm]
    rw [hY, k2] at this
    rw [this]; exact Int.mul_ediv_cancel _ (by omega)

/-- The state of one of the two loops: estimate and rest. -/
def DI (u u1 y1 y0 q r : Int) : Prop := 0 ≤ q ∧ q ≤ 4294967297 ∧ 0 ≤ r ∧ r ≤ 4294967295 ∧ q * y1 + r = u ∧ u * 4294967296 + u1 < (q + 1) * (y1 * 4294967296 + y0)
/-- What is known behind the loop: the digit. -/
def DE (u u1 Y q R : Int) : Prop := 0 ≤ q ∧ q ≤ 4294967295 ∧ 0 ≤ R ∧ R < Y ∧ u * 4294967296 + u1 = q * Y + R

theorem DI.start {u u1 y1 y0 : Int} (hy1 : 2147483648 ≤ y1) (hy1' : y1 ≤ 4294967295) (hy0 : 0 ≤ y0) (hy0' : y0 ≤ 4294967295) (hu : 0 ≤ u) (hu1 : u < y1 * 4294967296 + y0) (h10 : 0 ≤ u1) (h11 : u1 ≤ 4294967295) :
    DI u u1 y1 y0 (u / y1) (u - u / y1 * y1) := by
  have e := Int.mul_ediv_add_emod u y1
  have m0 := Int.emod_nonneg u (show y1 ≠ 0 by omega)
  have m1 := Int.emod_lt_of_pos u (show 0 < y1 by omega)
  have q0 : 0 ≤ u / y1 := Int.ediv_nonneg hu (by omega)
  rw [Int.mul_comm] at e
  have hq : u / y1 ≤ 4294967297 := by
    refine Int.le_of_lt_add_one (Int.ediv_lt_of_lt_mul (by omega) ?_)
    omega
  refine ⟨q0, hq, by omega, by omega, by omega, ?_⟩
  have k : (u / y1 + 1) * (y1 * 4294967296 + y0) = (u / y1 * y1) * 4294967296 + y1 * 4294967296 + (u / y1 + 1) * y0 := by
    rw [Int.mul_add, ← Int.mul_assoc, Int.add_mul (u / y1) 1 y1]; omega
  have k2 : 0 ≤ (u / y1 + 1) * y0 := Int.mul_nonneg (by omega) hy0
  rw [k]
  omega

theorem DI.stop {u u1 y1 y0 q r : Int} (h : DI u u1 y1 y0 q r) (hq : q ≤ 4294967295) (ht : q * y0 ≤ 4294967296 * r + u1) :
    DE u u1 (y1 * 4294967296 + y0) q (u * 4294967296 + u1 - q * (y1 * 4294967296 + y0)) := by
  obtain ⟨a, b, c, d, e, f⟩ := h
  have k : (q + 1) * (y1 * 4294967296 + y0) = q * (y1 * 4294967296 + y0) + (y1 * 4294967296 + y0) := by rw [Int.add_mul]; omega
  have e3 : u * 4294967296 + u1 - q * (y1 * 4294967296 + y0) = 4294967296 * r + u1 - q * y0 := by
    rw [← e, Int.mul_add, ← Int.mul_assoc]; omega
  exact ⟨a, hq, by omega, by omega, by omega⟩

/-- One lower: the state again, if the rest stays small; else the digit. -/
theorem DI.down {u u1 y1 y0 q r : Int} (h : DI u u1 y1 y0 q r) (hy1 : 2147483648 ≤ y1) (hy0 : 0 ≤ y0) (hy0' : y0 ≤ 4294967295) (h10 : 0 ≤ u1) (h11 : u1 ≤ 4294967295) (hu : u < y1 * 4294967296 + y0)
    (ht : 4294967296 ≤ q ∨ 4294967296 * r + u1 < q * y0) :
    1 ≤ q ∧ (q - 1) * y1 + (r + y1) = u ∧ u * 4294967296 + u1 < (q - 1 + 1) * (y1 * 4294967296 + y0) := by
  obtain ⟨a, b, c, d, e, f⟩ := h
  have q1 : 1 ≤ q := by
    rcases ht with h | h
    · omega
    · rcases (show 0 < q ∨ q ≤ 0 by omega) with h' | h'
      · omega
      · have : q = 0 := by omega
        rw [this] at h; omega
  have e3 : u * 4294967296 + u1 - q * (y1 * 4294967296 + y0) = 4294967296 * r + u1 - q * y0 := by
    rw [← e, Int.mul_add, ← Int.mul_assoc]; omega
  refine ⟨q1, by rw [Int.sub_mul]; omega, ?_⟩
  rw [show q - 1 + 1 = q by omega]
  rcases ht with h | h
  · have : 4294967296 * (y1 * 4294967296 + y0) ≤ q * (y1 * 4294967296 + y0) := Int.mul_le_mul_of_nonneg_right h (by omega)
    omega
  · omega
theorem DI.again {u u1 y1 y0 q r : Int} (h : DI u u1 y1 y0 q r) (hy1 : 2147483648 ≤ y1) (hy0 : 0 ≤ y0) (hy0' : y0 ≤ 4294967295) (h10 : 0 ≤ u1) (h11 : u1 ≤ 4294967295) (hu : u < y1 * 4294967296 + y0)
    (ht : 4294967296 ≤ q ∨ 4294967296 * r + u1 < q * y0) (hr : r + y1 ≤ 4294967295) : DI u u1 y1 y0 (q - 1) (r + y1) := by
  obtain ⟨q1, e, f⟩ := h.down hy1 hy0 hy0' h10 h11 hu ht
  obtain ⟨a, b, c, d, _, _⟩ := h
  exact ⟨by omega, by omega, by omega, hr, e, f⟩
theorem DI.leave {u u1 y1 y0 q r : Int} (h : DI u u1 y1 y0 q r) (hy1 : 2147483648 ≤ y1) (hy0 : 0 ≤ y0) (hy0' : y0 ≤ 4294967295) (h10 : 0 ≤ u1) (h11 : u1 ≤ 4294967295) (hu : u < y1 * 4294967296 + y0)
    (ht : 4294967296 ≤ q ∨ 4294967296 * r + u1 < q * y0) (hr : 4294967296 ≤ r + y1) :
    DE u u1 (y1 * 4294967296 + y0) (q - 1) (u * 4294967296 + u1 - (q - 1) * (y1 * 4294967296 + y0)) := by
  obtain ⟨q1, e, f⟩ := h.down hy1 hy0 hy0' h10 h11 hu ht
  obtain ⟨a, b, c, d, _, _⟩ := h
  have hm : (q - 1) * y0 ≤ 4294967296 * 4294967295 := by
    have h1 : (q - 1) * y0 ≤ 4294967296 * y0 := Int.mul_le_mul_of_nonneg_right (by omega) hy0
    omega
  have e3 : u * 4294967296 + u1 - (q - 1) * (y1 * 4294967296 + y0) = 4294967296 * (r + y1) + u1 - (q - 1) * y0 := by
    rw [← e, Int.mul_add, ← Int.mul_assoc]; omega
  have k : (q - 1 + 1) * (y1 * 4294967296 + y0) = (q - 1) * (y1 * 4294967296 + y0) + (y1 * 4294967296 + y0) := by rw [Int.add_mul (q - 1) 1]; omega
  have hq : q - 1 ≤ 4294967295 := by
    rcases (show q - 1 < 4294967296 ∨ 4294967296 ≤ q - 1 by omega) with h | h
    · omega
    · have h2 : 4294967296 * (y1 * 4294967296 + y0) ≤ (q - 1) * (y1 * 4294967296 + y0) := Int.mul_le_mul_of_nonneg_right h (by omega)
      omega
  exact ⟨by omega, hq, by omega, by omega, by omega⟩

/-- The rest, as the words compute it: all wraps fall away. -/
theorem rest_wrap {u u1 Y q R : Int} (h : DE u u1 Y q R) (hY : Y ≤ 18446744073709551615) :
    IntKind.u64.wrap (IntKind.u64.wrap (IntKind.u64.wrap (u * 4294967296) + u1) - IntKind.u64.wrap (q * Y)) = R := by
  obtain ⟨a, b, c, d, e⟩ := h
  simp only [IntKind.wrap_u64]
  omega
end Go.Proofs.YthhjemojblaoeaaDoor.Fx
