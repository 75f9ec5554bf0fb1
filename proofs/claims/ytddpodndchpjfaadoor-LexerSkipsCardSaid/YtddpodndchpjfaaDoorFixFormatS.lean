/- What the document's Format returns: the same text as the program's, for every int. -/
import Derived.Test.YtddpodndchpjfaaDoorFixFormatR
namespace Go.Proofs.YtddpodndchpjfaaDoor.Fx
open Go.RowKit Go.Sort Go.Lib Go.Shelf

theorem dec4 (r : Nat) (hr : r ≤ 999) : decDigits (1000 + r) = [49, UInt8.ofNat (48 + r / 100), UInt8.ofNat (48 + r / 10 % 10), UInt8.ofNat (48 + r % 10)] := by
  rw [decDigits, dif_neg (by omega), decDigits, dif_neg (by omega), decDigits, dif_neg (by omega), decDigits, dif_pos (by omega)]
  rw [show (1000 + r) / 10 / 10 / 10 = 1 by omega, show (1000 + r) / 10 / 10 % 10 = r / 100 by omega, show (1000 + r) / 10 % 10 = r / 10 % 10 by omega, show (1000 + r) % 10 = r % 10 by omega]
  rfl
theorem b48 (d : Nat) (hd : d ≤ 9) (h : UInt8.ofNat (48 + d) = 48) : d = 0 := by
  have := congrArg UInt8.toNat h
  rw [UInt8.toNat_ofNat'] at this
  have e : (48 : UInt8).toNat = 48 := rfl
  rw [e] at this
  omega
theorem dropWhile_ne (l : List UInt8) (c x : UInt8) (hx : x ∈ l) (h : x ≠ c) : l.dropWhile (· == c) ≠ [] := by
  induction l with
  | nil => cases hx
  | cons a t ih =>
    rw [List.dropWhile_cons]
    split
    · rename_i ha
      rcases List.mem_cons.1 hx with rfl | hm
      · exact absurd (by simpa using ha) h
      · exact ih hm
    · simp
theorem trim_ne (l : List UInt8) (c x : UInt8) (hx : x ∈ l) (h : x ≠ c) : 1 ≤ (trimRightB l c).length := by
  unfold trimRightB
  have := dropWhile_ne l.reverse c x (by simpa using hx) h
  rw [List.length_reverse]
  exact List.length_pos_iff.2 this
theorem frac_ne (r : Nat) (hr : r ≤ 999) (h0 : 0 < r) : 1 ≤ (trimRightB ((decDigits (1000 + r)).drop 1) 48).length := by
  rw [dec4 r hr]
  show 1 ≤ (trimRightB [UInt8.ofNat (48 + r / 100), UInt8.ofNat (48 + r / 10 % 10), UInt8.ofNat (48 + r % 10)] 48).length
  by_cases h1 : r / 100 = 0
  · by_cases h2 : r / 10 % 10 = 0
    · exact trim_ne _ _ (UInt8.ofNat (48 + r % 10)) (by simp) (fun h => by have := b48 _ (by omega) h; omega)
    · exact trim_ne _ _ (UInt8.ofNat (48 + r / 10 % 10)) (by simp) (fun h => h2 (b48 _ (by omega) h))
  · exact trim_ne _ _ (UInt8.ofNat (48 + r / 100)) (by simp) (fun h => h1 (b48 _ (by omega) h))

/-- The loop's step and its end, on bytes. -/
theorem trim_snoc (l : List UInt8) (x c : UInt8) : trimRightB (l ++ [x]) c = if x = c then trimRightB l c else l ++ [x] := by
  unfold trimRightB
  rw [List.reverse_append, List.reverse_singleton, List.singleton_append, List.dropWhile_cons]
  by_cases h : x = c
  · simp [h]
  · simp [h]
theorem trim_last (b : ByteArray) (k : Nat) (hk : b.size = k + 1) (T : List UInt8) (h : trimRightB b.data.toList 48 = T) :
    (b[k] = 48 → trimRightB (b.extract 0 k).data.toList 48 = T) ∧ (b[k] ≠ 48 → b.data.toList = T) := by
  have e : b.data.toList = b.data.toList.take k ++ [b[k]] := by
    have h1 : (b.data.toList).length = k + 1 := by simpa using hk
    have h2 := List.take_succ_eq_append_getElem (l := b.data.toList) (i := k) (by omega)
    rw [List.take_of_length_le (by omega)] at h2
    exact h2
  have e2 : (b.extract 0 k).data.toList = b.data.toList.take k := by
    rw [extract_upto]
  have e3 : trimRightB b.data.toList 48 = trimRightB (b.data.toList.take k ++ [b[k]]) 48 := congrArg (trimRightB · 48) e
  rw [e3, trim_snoc] at h
  constructor
  · intro hb; rw [if_pos hb] at h; rw [e2]; exact h
  · intro hb; rw [if_neg hb] at h; rw [e]; exact h

end Go.Proofs.YtddpodndchpjfaaDoor.Fx
