/- What the document's Format returns: the same text, for every int. -/
import Derived.Test.YtddpodndchpjfaaDoorFixFormat
namespace Go.Proofs.YtddpodndchpjfaaDoor.Fx
open Go.RowKit Go.Sort Go.Lib Go.Shelf

theorem dig_fin : ∀ i : Fin 10, ((⟨#[48, 49, 50, 51, 52, 53, 54, 55, 56, 57]⟩ : ByteArray).extract i.val (i.val + 1)).data.toList = [UInt8.ofNat (48 + i.val)] := by decide +kernel
theorem dig_cut (i : Nat) (h : i < 10) : ((⟨#[48, 49, 50, 51, 52, 53, 54, 55, 56, 57]⟩ : ByteArray).extract i (i + 1)).data.toList = [UInt8.ofNat (48 + i)] := dig_fin ⟨i, h⟩
theorem data_app (a b : ByteArray) : (a ++ b).data.toList = a.data.toList ++ b.data.toList := by simp [ByteArray.data_append]
theorem dig_run (i : Nat) (c : UInt8) (h : i < 10) (hc : UInt8.ofNat (48 + i) = c) (W : World) : (Instr.slice 9 (.string ⟨#[48, 49, 50, 51, 52, 53, 54, 55, 56, 57]⟩) (some (.int .u64 i)) (some (.int .u64 ((i : Int) + 1))) none).run Tryd.prog W = .ok (.string ⟨[c].toArray⟩) W := by
  subst hc
  rw [run_slice_string W _ _ .u64 .u64 i ((i : Int) + 1) Tryd.underlying9 (by omega) (by omega) (by show (i : Int) + 1 ≤ ((10 : Nat) : Int); omega)]
  have h1 := dig_cut i h
  rw [Int.toNat_natCast, show ((i : Int) + 1).toNat = i + 1 by omega]
  congr 1
  generalize (⟨#[48, 49, 50, 51, 52, 53, 54, 55, 56, 57]⟩ : ByteArray).extract i (i + 1) = b at h1 ⊢
  rw [← h1]
theorem dec_step (m : Nat) (h : 10 ≤ m) (T : List UInt8) : decDigits m ++ T = decDigits (m / 10) ++ (UInt8.ofNat (48 + m % 10) :: T) := by
  rw [decDigits, dif_neg (by omega)]; simp
theorem nd_le (m : Nat) (h : m < 18446744073709551616) : (decDigits m).length ≤ 20 := by rw [decDigits_length]; exact nDigits_le20 m h

end Go.Proofs.YtddpodndchpjfaaDoor.Fx
