/- Plain arithmetic of the fixed-point layer: absolute values, rounded products and quotients, square roots; no program in sight. -/
import Derived.WalkKit
namespace Go.Proofs.YtfhephcbjbdejaaGreatDoor.Fx

/-- The absolute value. -/
def ab (n : Int) : Int := if n < 0 then -n else n
theorem ab_nonneg (n : Int) : 0 ≤ ab n := by unfold ab; split <;> omega
theorem ab_le (n : Int) (h0 : -9223372036854775808 ≤ n) (h1 : n ≤ 9223372036854775807) : ab n ≤ 9223372036854775808 := by unfold ab; split <;> omega

/-- The number with its sign, or the error 16. -/
def sg (q : Int) (m : Bool) : Int × Int := if 268435456 < q then (0, 16) else (if m then -q else q, 0)
/-- Signs differ. -/
def opp (a b : Int) : Bool := decide (a < 0) != decide (b < 0)
/-- The product, rounded. -/
def mulR (a b : Int) : Int × Int := sg ((ab a * ab b + 500) / 1000) (opp a b)
/-- The quotient, rounded, of sizes. -/
def quoR (x y : Int) : Int := (x * 1000) / y + (if y ≤ 2 * ((x * 1000) % y) then 1 else 0)
def divR (a b : Int) : Int × Int := if b = 0 then (0, 1) else sg (quoR (ab a) (ab b)) (opp a b)

theorem sg_over {q : Int} (h : 268435456 < q) (m : Bool) : sg q m = (0, 16) := by unfold sg; rw [if_pos h]
theorem sg_in {q : Int} (h : q ≤ 268435456) (m : Bool) : sg q m = (if m then -q else q, 0) := by unfold sg; rw [if_neg (by omega)]

/-! ### Sqrt -/
theorem sq_lt {a b : Nat} (h : a * a < b * b) : a < b := by
  rcases Nat.lt_or_ge a b with h1 | h1
  · exact h1
  · exact absurd h (Nat.not_lt.2 (Nat.mul_le_mul h1 h1))
theorem sqrt_unique {n s t : Nat} (h1 : s * s ≤ n) (h2 : n < (s + 1) * (s + 1)) (h3 : t * t ≤ n) (h4 : n < (t + 1) * (t + 1)) : s = t := by
  have a := sq_lt (Nat.lt_of_le_of_lt h1 h4)
  have b := sq_lt (Nat.lt_of_le_of_lt h3 h2)
  omega

/-! ### Knuth's division of two words by one: what one of the two loops finds. B is 2^32. -/
/-- On exit the estimate is the digit. -/
theorem digit_eq {u1 u0 y1 y0 q r B : Int} (hB : 0 < B) (hy1 : 0 < y1) (hy0 : 0 ≤ y0) (h : q * y1 + r = u1) (hle : q * y0 ≤ B * r + u0) (hlt : u1 * B + u0 < (q + 1) * (y1 * B + y0)) :
    (u1 * B + u0) / (y1 * B + y0) = q ∧ u1 * B + u0 - q * (y1 * B + y0) = (u1 * B + u0) % (y1 * B + y0) := by
  have hd : 0 < y1 * B + y0 := by have := Int.mul_pos hy1 hB; omega
  have e : u1 * B + u0 - q * (y1 * B + y0) = B * r + u0 - q * y0 := by
    subst h; rw [Int.add_mul, Int.mul_add, Int.mul_comm r B, Int.mul_assoc q y1 B]; omega
  have e2 : (q + 1) * (y1 * B + y0) = q * (y1 * B + y0) + (y1 * B + y0) := by rw [Int.add_mul]; omega
  have lo : 0 ≤ u1 * B + u0 - q * (y1 * B + y0) := by omega
  have hi : u1 * B + u0 - q * (y1 * B + y0) < y1 * B + y0 := by omega
  have key : u1 * B + u0 = (y1 * B + y0) * q + (u1 * B + u0 - q * (y1 * B + y0)) := by rw [Int.mul_comm (y1 * B + y0) q]; omega
  constructor
  · rw [key, Int.add_comm ((y1 * B + y0) * q), Int.add_mul_ediv_left _ _ (Int.ne_of_gt hd), Int.ediv_eq_zero_of_lt]
    · omega
    · exact lo
    · exact hi
  · have h3 : (u1 * B + u0 - q * (y1 * B + y0) + (y1 * B + y0) * q) % (y1 * B + y0) = u1 * B + u0 - q * (y1 * B + y0) := by
      rw [Int.add_mul_emod_self_left]; exact Int.emod_eq_of_lt lo hi
    rw [Int.mul_comm (y1 * B + y0) q] at h3
    rw [← h3]; congr 1; omega
/-- The test says that the estimate is too great: it stays an upper bound one lower. -/
theorem digit_down {u1 u0 y1 y0 q r B : Int} (h : q * y1 + r = u1) (hgt : B * r + u0 < q * y0) : u1 * B + u0 < (q - 1 + 1) * (y1 * B + y0) ∧ (q - 1) * y1 + (r + y1) = u1 := by
  have e : u1 * B + u0 - q * (y1 * B + y0) = B * r + u0 - q * y0 := by
    subst h; rw [Int.add_mul, Int.mul_add, Int.mul_comm r B, Int.mul_assoc q y1 B]; omega
  refine ⟨?_, by rw [Int.sub_mul]; omega⟩
  rw [show q - 1 + 1 = q by omega]; omega
end Go.Proofs.YtfhephcbjbdejaaGreatDoor.Fx
