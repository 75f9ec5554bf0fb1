/- Packed texts: FixArith, FixWalkA, FixFmt, FixFormat -/
import Derived.WalkKit
import Derived.Test.YtnancphlkbfglaaGreatDoorRows
import Derived.Lib.Hide
import Derived.Below
import Derived.Deep.Draws
import Derived.Sort.Grow
import Derived.Lib.LaidTab
import Derived.Test.YtnancphlkbfglaaGreatDoorPn01
import Derived.Test.YtnancphlkbfglaaGreatDoorShelf
import Derived.Lib.Walk
import Derived.Lib.ItoaMem
import Derived.Lib.ItoaLen
import Derived.BigCall
import Derived.BigGuard
set_option linter.unusedVariables false
set_option linter.unusedSimpArgs false
/- Plain arithmetic of the fixed-point layer: absolute values, rounded products and quotients, square roots; no program in sight. -/
namespace Go.Proofs.YtnancphlkbfglaaGreatDoor.Fx

/-- The absolute value. -/
def ab (n : Int) : Int := if n < 0 then -n else n
theorem ab_nonneg (n : Int) : 0 ≤ ab n := by unfold ab; split <;> omega
theorem ab_le (n : Int) (h0 : -9223372036854775808 ≤ n) (h1 : n ≤ 9223372036854775807) : ab n ≤ 9223372036854775808 := by unfold ab; split <;> omega

/-- The number with its sign, or the error 16. -/
def sg (q : Int) (m : Bool) : Int × Int := if 268435456 < q then (0, 16) else (if m then -q else q, 0)
/-- Signs differ. -/
def opp (a b : Int) : Bool := decide (a < 0) != decide (b < 0)
/-- The product, rounded. -/
def mulR (a b : Int) : Int × Int := sg ((ab a * ab b + 500) / 1000) (opp a b)
/-- The quotient, rounded, of sizes. -/
def quoR (x y : Int) : Int := (x * 1000) / y + (if y ≤ 2 * ((x * 1000) % y) then 1 else 0)
def divR (a b : Int) : Int × Int := if b = 0 then (0, 1) else sg (quoR (ab a) (ab b)) (opp a b)

theorem sg_over {q : Int} (h : 268435456 < q) (m : Bool) : sg q m = (0, 16) := by unfold sg; rw [if_pos h]
theorem sg_in {q : Int} (h : q ≤ 268435456) (m : Bool) : sg q m = (if m then -q else q, 0) := by unfold sg; rw [if_neg (by omega)]

/-! ### Sqrt -/
theorem sq_lt {a b : Nat} (h : a * a < b * b) : a < b := by
  rcases Nat.lt_or_ge a b with h1 | h1
  · exact h1
  · exact absurd h (Nat.not_lt.2 (Nat.mul_le_mul h1 h1))
theorem sqrt_unique {n s t : Nat} (h1 : s * s ≤ n) (h2 : n < (s + 1) * (s + 1)) (h3 : t * t ≤ n) (h4 : n < (t + 1) * (t + 1)) : s = t := by
  have a := sq_lt (Nat.lt_of_le_of_lt h1 h4)
  have b := sq_lt (Nat.lt_of_le_of_lt h3 h2)
  omega

/-! ### Knuth's division of two words by one: what one of the two loops finds. B is 2^32. -/
/-- On exit the estimate is the digit. -/
theorem digit_eq {u1 u0 y1 y0 q r B : Int} (hB : 0 < B) (hy1 : 0 < y1) (hy0 : 0 ≤ y0) (h : q * y1 + r = u1) (hle : q * y0 ≤ B * r + u0) (hlt : u1 * B + u0 < (q + 1) * (y1 * B + y0)) :
    (u1 * B + u0) / (y1 * B + y0) = q ∧ u1 * B + u0 - q * (y1 * B + y0) = (u1 * B + u0) % (y1 * B + y0) := by
  have hd : 0 < y1 * B + y0 := by have := Int.mul_pos hy1 hB; omega
  have e : u1 * B + u0 - q * (y1 * B + y0) = B * r + u0 - q * y0 := by
    subst h; rw [Int.add_mul, Int.mul_add, Int.mul_comm r B, Int.mul_assoc q y1 B]; omega
  have e2 : (q + 1) * (y1 * B + y0) = q * (y1 * B + y0) + (y1 * B + y0) := by rw [Int.add_mul]; omega
  have lo : 0 ≤ u1 * B + u0 - q * (y1 * B + y0) := by omega
  have hi : u1 * B + u0 - q * (y1 * B + y0) < y1 * B + y0 := by omega
  have key : u1 * B + u0 = (y1 * B + y0) * q + (u1 * B + u0 - q * (y1 * B + y0)) := by rw [Int.mul_comm (y1 * B + y0) q]; omega
  constructor
  · rw [key, Int.add_comm ((y1 * B + y0) * q), Int.add_mul_ediv_left _ _ (Int.ne_of_gt hd), Int.ediv_eq_zero_of_lt]
    · omega
    · exact lo
    · exact hi
  · have h3 : (u1 * B + u0 - q * (y1 * B + y0) + (y1 * B + y0) * q) % (y1 * B + y0) = u1 * B + u0 - q * (y1 * B + y0) := by
      rw [Int.add_mul_emod_self_left]; exact Int.emod_eq_of_lt lo hi
    rw [Int.mul_comm (y1 * B + y0) q] at h3
    rw [← h3]; congr 1; omega
/-- The test says that the estimate is too great: it stays an upper bound one lower. -/
theorem digit_down {u1 u0 y1 y0 q r B : Int} (h : q * y1 + r = u1) (hgt : B * r + u0 < q * y0) : u1 * B + u0 < (q - 1 + 1) * (y1 * B + y0) ∧ (q - 1) * y1 + (r + y1) = u1 := by
  have e : u1 * B + u0 - q * (y1 * B + y0) = B * r + u0 - q * y0 := by
    subst h; rw [Int.add_mul, Int.mul_add, Int.mul_comm r B, Int.mul_assoc q y1 B]; omega
  refine ⟨?_, by rw [Int.sub_mul]; omega⟩
  rw [show q - 1 + 1 = q by omega]; omega
end Go.Proofs.YtnancphlkbfglaaGreatDoor.Fx

/- What the small functions of the fixed-point layer return: size, signed, abs, Sqrt, and the document's twins. For every argument of the kinds. -/
namespace Go.Proofs.YtnancphlkbfglaaGreatDoor.Fx
open Go.RowKit

/-- Nothing of what was there has turned. -/
def Ext (w w' : World) : Prop := Below w.heap.size w w'
theorem Ext.refl (w : World) : Ext w w := Below.refl _ _
theorem Ext.trans {a b c : World} (h : Ext a b) (k : Ext b c) : Ext a c := Below.trans h (Below.mono k (Below.size h))
theorem Ext.drew {a w : World} (h : Ext a w) : Ext a w.drew := Below.drew h
theorem Ext.drewN {a w : World} (h : Ext a w) : ∀ n, Ext a (w.drewN n)
  | 0 => by rw [World.drewN_zero]; exact h
  | n + 1 => ⟨h.os, h.tape, h.output, h.size, h.block⟩
theorem Ext.alloc {a w : World} (h : Ext a w) (o : Obj) : Ext a (w.alloc o) := Below.alloc h (Below.size h) o
theorem Ext.setCell {a w : World} (h : Ext a w) {p : Addr} (hp : a.heap.size ≤ p.block) (u : Value) : Ext a (w.setCell p u) := Below.setCell h hp u
theorem Ext.grow {a w : World} (h : Ext a w) (os : Array Obj) : Ext a (Sort.grow w os) :=
  Ext.trans h ⟨rfl, rfl, rfl, by simp [Sort.grow], fun k hk => Sort.heap_grow_old w os hk⟩
theorem Ext.cell {w w' : World} (h : Ext w w') {p : Addr} {v : Value} (hv : w.cell? p = some v) : w'.cell? p = some v := by
  have hb : p.block < w.heap.size := by
    rcases Nat.lt_or_ge p.block w.heap.size with h1 | h1
    · exact h1
    · exfalso; unfold World.cell? at hv; rw [Array.getElem?_eq_none h1] at hv; cases hv
  rw [Below.cell h hb]; exact hv
theorem Ext.tab {P : Program} {w w' : World} {n : String} {k : IntKind} {zs : List Int} (h : Ext w w') (ht : Lib.TabIs P w n k zs) : Lib.TabIs P w' n k zs := by
  unfold Lib.TabIs World.var? at *
  cases hg : P.globalNamed n with
  | none => simp [hg] at ht
  | some g =>
    simp only [hg, Option.bind_some] at ht ⊢
    have hlt : g < w.heap.size := by
      rcases Nat.lt_or_ge g w.heap.size with h' | h'
      · exact h'
      · rw [Array.getElem?_eq_none h'] at ht; simp at ht
    rw [Below.block h g hlt]
    exact ht

theorem ret_int {k : IntKind} {a b : Int} (h : a = b) : Ending.returned (.int k a) = .returned (.int k b) := by rw [h]

theorem ret_pair {k k' : IntKind} {a b c d : Int} (h : a = b) (h' : c = d) : Ending.returned (.tuple #[.int k a, .int k' c]) = .returned (.tuple #[.int k b, .int k' d]) := by rw [h, h']




end Go.Proofs.YtnancphlkbfglaaGreatDoor.Fx

/- What strconv.FormatUint returns at base 10, and what both Format functions return: the text of a number of thousandths, for every int. -/
namespace Go.Proofs.YtnancphlkbfglaaGreatDoor.Fx
open Go.RowKit Go.Sort Go.Lib Go.Shelf

/-- The library's table of powers of ten. -/
def Pows (w : World) : Prop := Lib.TabIs Tryz.prog w "internal/strconv.uint64pow10" .u64 Lib.pow10Tab
theorem Pows.ext {w w' : World} (h : Pows w) (k : Ext w w') : Pows w' := Ext.tab k h

theorem holds_zero0 (w : World) (T : TypeId) (nd : Nat) (hs : nd ≤ 24) : Holds (fun (b : UInt8) => Value.int .u8 (b.toNat : Int)) (w.alloc (.cells zeros24 T)) w.heap.size 0 (Array.replicate nd (0 : UInt8)) := fun j hj => by
  have hj' : j < nd := by simpa using hj
  refine ⟨?_, World.frozen?_alloc_new _ _ _ _⟩
  rw [World.cell?_alloc_new, zeros24_at _ (by omega), getElem!_pos _ j hj]
  simp
theorem fin_pos0 (w : World) (o : Obj) (dk : Array UInt8) (k : Nat) : Ext w ((putRow (fun (b : UInt8) => Value.int .u8 (b.toNat : Int)) (w.alloc o) w.heap.size 0 dk).drewN k) := by
  rw [alloc_eq_grow]
  obtain ⟨os', _, e⟩ := putRow_grow_new (fun (b : UInt8) => Value.int .u8 (b.toNat : Int)) w #[o] w.heap.size 0 dk (Nat.le_refl _)
  rw [e]
  exact ((Ext.refl _).grow _).drewN _

end Go.Proofs.YtnancphlkbfglaaGreatDoor.Fx

/- What both Format functions return: the text of a number of thousandths, for every int. -/
namespace Go.Proofs.YtnancphlkbfglaaGreatDoor.Fx
open Go.RowKit Go.Sort Go.Lib Go.Shelf

theorem ab_nat (n : Int) : ab n = (n.natAbs : Int) := by unfold ab; split <;> omega
theorem decDigits_len4 (r : Nat) (hr : r ≤ 999) : (decDigits (1000 + r)).length = 4 := by
  rw [decDigits_length]; exact nDigits_unique 3 _ (by omega) (by omega)
theorem ret_str {a b : List UInt8} (h : a = b) : Ending.returned (.string ⟨a.toArray⟩) = .returned (.string ⟨b.toArray⟩) := by rw [h]

/-- A number's sizes, named. -/
theorem fmt_parts (n : Int) (h0 : -9223372036854775808 ≤ n) (h1 : n ≤ 9223372036854775807) : ∃ (u q r : Nat) (A D : List UInt8), ab n = u ∧ (u : Int) / 1000 = q ∧ (u : Int) % 1000 = r ∧ r ≤ 999 ∧ u < 18446744073709551616 ∧ q < 18446744073709551616 ∧ (u : Int) ≤ 9223372036854775808 ∧
    decDigits q = A ∧ decDigits (1000 + r) = D ∧ A.length ≤ 20 ∧ D.length = 4 ∧ fmt n = (if n < 0 then [45] else []) ++ (A ++ if 0 < r then 46 :: trimRightB (D.drop 1) 48 else []) := by
  refine ⟨n.natAbs, n.natAbs / 1000, n.natAbs % 1000, _, _, ab_nat n, by omega, by omega, by omega, by omega, by omega, by omega, rfl, rfl, ?_, ?_, ?_⟩
  · rw [decDigits_length]; exact nDigits_le20 _ (by omega)
  · exact decDigits_len4 _ (by omega)
  · unfold fmt fmtU fracT
    split <;> simp

theorem ret_bytes {b : ByteArray} {l : List UInt8} (h : b.data.toList = l) : Ending.returned (.string b) = .returned (.string ⟨l.toArray⟩) := by
  subst h; rfl
theorem extract_drop (D : List UInt8) (k : Nat) : ((⟨D.toArray⟩ : ByteArray).extract k D.length).data.toList = D.drop k := by
  rw [extract_mk]; simp [List.take_of_length_le]
theorem extract_size (D : List UInt8) (k n : Nat) : ((⟨D.toArray⟩ : ByteArray).extract k n).size ≤ D.length := by
  rw [extract_mk, size_mk]; simp; omega

end Go.Proofs.YtnancphlkbfglaaGreatDoor.Fx
