/- What both Format functions return: the text of a number of thousandths, for every int. -/
import Derived.Test.YtfhephcbjbdejaaGreatDoorFixFmt
namespace Go.Proofs.YtfhephcbjbdejaaGreatDoor.Fx
open Go.RowKit Go.Sort Go.Lib Go.Shelf

theorem ab_nat (n : Int) : ab n = (n.natAbs : Int) := by unfold ab; split <;> omega
theorem decDigits_len4 (r : Nat) (hr : r ≤ 999) : (decDigits (1000 + r)).length = 4 := by
  rw [decDigits_length]; exact nDigits_unique 3 _ (by omega) (by omega)
theorem ret_str {a b : List UInt8} (h : a = b) : Ending.returned (.string ⟨a.toArray⟩) = .returned (.string ⟨b.toArray⟩) := by rw [h]

/-- A number's sizes, named. -/
theorem fmt_parts (n : Int) (h0 : -9223372036854775808 ≤ n) (h1 : n ≤ 9223372036854775807) : ∃ (u q r : Nat) (A D : List UInt8), ab n = u ∧ (u : Int) / 1000 = q ∧ (u : Int) % 1000 = r ∧ r ≤ 999 ∧ u < 18446744073709551616 ∧ q < 18446744073709551616 ∧ (u : Int) ≤ 9223372036854775808 ∧
    decDigits q = A ∧ decDigits (1000 + r) = D ∧ A.length ≤ 20 ∧ D.length = 4 ∧ fmt n = (if n < 0 then [45] else []) ++ (A ++ if 0 < r then 46 :: trimRightB (D.drop 1) 48 else []) := by
  refine ⟨n.natAbs, n.natAbs / 1000, n.natAbs % 1000, _, _, ab_nat n, by omega, by omega, by omega, by omega, by omega, by omega, rfl, rfl, ?_, ?_, ?_⟩
  · rw [decDigits_length]; exact nDigits_le20 _ (by omega)
  · exact decDigits_len4 _ (by omega)
  · unfold fmt fmtU fracT
    split <;> simp

theorem ret_bytes {b : ByteArray} {l : List UInt8} (h : b.data.toList = l) : Ending.returned (.string b) = .returned (.string ⟨l.toArray⟩) := by
  subst h; rfl
theorem extract_drop (D : List UInt8) (k : Nat) : ((⟨D.toArray⟩ : ByteArray).extract k D.length).data.toList = D.drop k := by
  rw [extract_mk]; simp [List.take_of_length_le]
theorem extract_size (D : List UInt8) (k n : Nat) : ((⟨D.toArray⟩ : ByteArray).extract k n).size ≤ D.length := by
  rw [extract_mk, size_mk]; simp; omega

end Go.Proofs.YtfhephcbjbdejaaGreatDoor.Fx
