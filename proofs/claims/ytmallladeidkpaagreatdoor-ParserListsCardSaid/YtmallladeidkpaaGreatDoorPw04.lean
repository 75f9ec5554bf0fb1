/- Packed texts: FixFormat, FixFormatR, FixFormatS -/
import Derived.Test.YtmallladeidkpaaGreatDoorPw03
set_option linter.unusedVariables false
set_option linter.unusedSimpArgs false
/- What both Format functions return: the text of a number of thousandths, for every int. -/
namespace Go.Proofs.YtmallladeidkpaaGreatDoor.Fx
open Go.RowKit Go.Sort Go.Lib Go.Shelf

theorem ab_nat (n : Int) : ab n = (n.natAbs : Int) := by unfold ab; split <;> omega
theorem formatUint_int (u : Int) (k : Nat) (D : List UInt8) (hk : u = k) (hu : k < 18446744073709551616) (hD : decDigits k = D) (w : World) (htab : Pows w) :
    Calls Tryz.prog 74 #[.int .u64 u, .int .i64 10] w fun e w' => e = .returned (.string ⟨D.toArray⟩) ∧ Ext w w' := by
  subst hk; subst hD; exact formatUint_any k hu w htab
theorem decDigits_len4 (r : Nat) (hr : r ≤ 999) : (decDigits (1000 + r)).length = 4 := by
  rw [decDigits_length]; exact nDigits_unique 3 _ (by omega) (by omega)
theorem ret_str {a b : List UInt8} (h : a = b) : Ending.returned (.string ⟨a.toArray⟩) = .returned (.string ⟨b.toArray⟩) := by rw [h]

/-- A number's sizes, named. -/
theorem fmt_parts (n : Int) (h0 : -9223372036854775808 ≤ n) (h1 : n ≤ 9223372036854775807) : ∃ (u q r : Nat) (A D : List UInt8), ab n = u ∧ (u : Int) / 1000 = q ∧ (u : Int) % 1000 = r ∧ r ≤ 999 ∧ u < 18446744073709551616 ∧ q < 18446744073709551616 ∧ (u : Int) ≤ 9223372036854775808 ∧
    decDigits q = A ∧ decDigits (1000 + r) = D ∧ A.length ≤ 20 ∧ D.length = 4 ∧ fmt n = (if n < 0 then [45] else []) ++ (A ++ if 0 < r then 46 :: trimRightB (D.drop 1) 48 else []) := by
  refine ⟨n.natAbs, n.natAbs / 1000, n.natAbs % 1000, _, _, ab_nat n, by omega, by omega, by omega, by omega, by omega, by omega, rfl, rfl, ?_, ?_, ?_⟩
  · rw [decDigits_length]; exact nDigits_le20 _ (by omega)
  · exact decDigits_len4 _ (by omega)
  · unfold fmt fmtU fracT
    split <;> simp

theorem ret_bytes {b : ByteArray} {l : List UInt8} (h : b.data.toList = l) : Ending.returned (.string b) = .returned (.string ⟨l.toArray⟩) := by
  subst h; rfl
theorem trim_any (s : ByteArray) (T : List UInt8) (h : trimRightB s.data.toList 48 = T) (hs : s.size ≤ 9223372036854775807) (w : World) :
    Calls Tryz.prog 75 #[.string s, .string ⟨#[48]⟩] w fun e w' => e = .returned (.string ⟨T.toArray⟩) ∧ w = w' := by
  subst h
  refine (Tryz.strings_TrimRight_one s 48 (by decide) w hs).mono ?_
  rintro e w' ⟨rfl, rfl⟩
  exact ⟨rfl, rfl⟩
theorem extract_drop (D : List UInt8) (k : Nat) : ((⟨D.toArray⟩ : ByteArray).extract k D.length).data.toList = D.drop k := by
  rw [extract_mk]; simp [List.take_of_length_le]
theorem extract_size (D : List UInt8) (k n : Nat) : ((⟨D.toArray⟩ : ByteArray).extract k n).size ≤ D.length := by
  rw [extract_mk, size_mk]; simp; omega

set_option maxHeartbeats 1600000 in
theorem format_any (n : Int) (w : World) (h0 : -9223372036854775808 ≤ n) (h1 : n ≤ 9223372036854775807) (ht : Pows w) :
    Calls Tryz.prog 58 #[.int .i64 n] w fun e w' => e = .returned (.string ⟨(fmt n).toArray⟩) ∧ Ext w w' := by
  obtain ⟨u, q, r, A, D, hab, eq, er, hr9, hu64, hq64, q1, hA, hD, hAl, hDl, hf⟩ := fmt_parts n h0 h1
  have HAB := Lib.hid hab; have HA := Lib.hid hA; have HD := Lib.hid hD; have HF := Lib.hid hf; have HU := Lib.hid hu64; have HQ := Lib.hid hq64
  have HT := Lib.hid ht
  clear hab hA hD hf hu64 hq64 ht
  have q0 : (0 : Int) ≤ u := by omega
  have dl1 : 1 ≤ D.length := by omega
  have dl2 : D.length ≤ 4 := by omega
  have al0 : (A.length : Int) ≤ 20 := by omega
  obtain ⟨T, hT⟩ : ∃ T, trimRightB (D.drop 1) 48 = T := ⟨_, rfl⟩
  rw [hT] at HF
  have hTl : T.length ≤ 4 := by
    subst hT; unfold trimRightB
    have := (List.dropWhile_sublist (· == (48 : UInt8)) (l := (D.drop 1).reverse)).length_le
    simp at this ⊢; omega
  have HTT := Lib.hid hT; clear hT hDl
  by_cases hrp : 0 < r
  · rw [if_pos hrp] at HF
    by_cases hn : n < 0
    all_goals
      first | rw [if_pos hn] at HF | rw [if_neg hn] at HF
      go_enter Tryz.func58, Tryz.ntmps58
      go_wp2_with (first
        | (go_at_call 73; refine (size_any n _ h0 h1).mono ?_; rintro e w' ⟨rfl, rfl⟩; rw [HAB.out])
        | (go_at_call_of 74 (Value.int .u64 (q : Int)); refine (formatUint_int _ q A rfl HQ.out HA.out _ HT.out).mono ?_; rintro e w1 ⟨rfl, hx1⟩))
      refine (formatUint_int _ (1000 + r) D (by omega) (by omega) HD.out _ (HT.out.ext hx1)).mono ?_
      rintro e w2 ⟨rfl, hx2⟩
      go_wp2_with fail
      refine (trim_any _ T (by rw [extract_drop]; exact HTT.out) (by have := extract_size D 1 D.length; omega) _).mono ?_
      rintro e w3 ⟨rfl, rfl⟩
      go_wp2
      go_ret
      exact ⟨ret_bytes (by rw [HF.out]; simp [ByteArray.data_append]), hx1.trans hx2⟩
  · rw [if_neg hrp] at HF
    by_cases hn : n < 0
    all_goals
      first | rw [if_pos hn] at HF | rw [if_neg hn] at HF
      go_enter Tryz.func58, Tryz.ntmps58
      go_wp2_with (first
        | (go_at_call 73; refine (size_any n _ h0 h1).mono ?_; rintro e w' ⟨rfl, rfl⟩; rw [HAB.out])
        | (go_at_call_of 74 (Value.int .u64 (q : Int)); refine (formatUint_int _ q A rfl HQ.out HA.out _ HT.out).mono ?_; rintro e w1 ⟨rfl, hx1⟩))
      go_ret
      exact ⟨ret_bytes (by rw [HF.out]; simp [ByteArray.data_append]), hx1⟩
end Go.Proofs.YtmallladeidkpaaGreatDoor.Fx

/- What the document's Format returns: the same text, for every int. -/
namespace Go.Proofs.YtmallladeidkpaaGreatDoor.Fx
open Go.RowKit Go.Sort Go.Lib Go.Shelf

theorem dig_fin : ∀ i : Fin 10, ((⟨#[48, 49, 50, 51, 52, 53, 54, 55, 56, 57]⟩ : ByteArray).extract i.val (i.val + 1)).data.toList = [UInt8.ofNat (48 + i.val)] := by decide +kernel
theorem dig_cut (i : Nat) (h : i < 10) : ((⟨#[48, 49, 50, 51, 52, 53, 54, 55, 56, 57]⟩ : ByteArray).extract i (i + 1)).data.toList = [UInt8.ofNat (48 + i)] := dig_fin ⟨i, h⟩
theorem data_app (a b : ByteArray) : (a ++ b).data.toList = a.data.toList ++ b.data.toList := by simp [ByteArray.data_append]
theorem dig_run (i : Nat) (c : UInt8) (h : i < 10) (hc : UInt8.ofNat (48 + i) = c) (W : World) : (Instr.slice 9 (.string ⟨#[48, 49, 50, 51, 52, 53, 54, 55, 56, 57]⟩) (some (.int .u64 i)) (some (.int .u64 ((i : Int) + 1))) none).run Tryz.prog W = .ok (.string ⟨[c].toArray⟩) W := by
  subst hc
  rw [run_slice_string W _ _ .u64 .u64 i ((i : Int) + 1) Tryz.underlying9 (by omega) (by omega) (by show (i : Int) + 1 ≤ ((10 : Nat) : Int); omega)]
  have h1 := dig_cut i h
  rw [Int.toNat_natCast, show ((i : Int) + 1).toNat = i + 1 by omega]
  congr 1
  generalize (⟨#[48, 49, 50, 51, 52, 53, 54, 55, 56, 57]⟩ : ByteArray).extract i (i + 1) = b at h1 ⊢
  rw [← h1]
theorem dec_step (m : Nat) (h : 10 ≤ m) (T : List UInt8) : decDigits m ++ T = decDigits (m / 10) ++ (UInt8.ofNat (48 + m % 10) :: T) := by
  rw [decDigits, dif_neg (by omega)]; simp
theorem nd_le (m : Nat) (h : m < 18446744073709551616) : (decDigits m).length ≤ 20 := by rw [decDigits_length]; exact nDigits_le20 m h

end Go.Proofs.YtmallladeidkpaaGreatDoor.Fx

/- What the document's Format returns: the same text as the program's, for every int. -/
namespace Go.Proofs.YtmallladeidkpaaGreatDoor.Fx
open Go.RowKit Go.Sort Go.Lib Go.Shelf

theorem dec4 (r : Nat) (hr : r ≤ 999) : decDigits (1000 + r) = [49, UInt8.ofNat (48 + r / 100), UInt8.ofNat (48 + r / 10 % 10), UInt8.ofNat (48 + r % 10)] := by
  rw [decDigits, dif_neg (by omega), decDigits, dif_neg (by omega), decDigits, dif_neg (by omega), decDigits, dif_pos (by omega)]
  rw [show (1000 + r) / 10 / 10 / 10 = 1 by omega, show (1000 + r) / 10 / 10 % 10 = r / 100 by omega, show (1000 + r) / 10 % 10 = r / 10 % 10 by omega, show (1000 + r) % 10 = r % 10 by omega]
  rfl
theorem b48 (d : Nat) (hd : d ≤ 9) (h : UInt8.ofNat (48 + d) = 48) : d = 0 := by
  have := congrArg UInt8.toNat h
  rw [UInt8.toNat_ofNat'] at this
  have e : (48 : UInt8).toNat = 48 := rfl
  rw [e] at this
  omega
theorem dropWhile_ne (l : List UInt8) (c x : UInt8) (hx : x ∈ l) (h : x ≠ c) : l.dropWhile (· == c) ≠ [] := by
  induction l with
  | nil => cases hx
  | cons a t ih =>
    rw [List.dropWhile_cons]
    split
    · rename_i ha
      rcases List.mem_cons.1 hx with rfl | hm
      · exact absurd (by simpa using ha) h
      · exact ih hm
    · simp
theorem trim_ne (l : List UInt8) (c x : UInt8) (hx : x ∈ l) (h : x ≠ c) : 1 ≤ (trimRightB l c).length := by
  unfold trimRightB
  have := dropWhile_ne l.reverse c x (by simpa using hx) h
  rw [List.length_reverse]
  exact List.length_pos_iff.2 this
theorem frac_ne (r : Nat) (hr : r ≤ 999) (h0 : 0 < r) : 1 ≤ (trimRightB ((decDigits (1000 + r)).drop 1) 48).length := by
  rw [dec4 r hr]
  show 1 ≤ (trimRightB [UInt8.ofNat (48 + r / 100), UInt8.ofNat (48 + r / 10 % 10), UInt8.ofNat (48 + r % 10)] 48).length
  by_cases h1 : r / 100 = 0
  · by_cases h2 : r / 10 % 10 = 0
    · exact trim_ne _ _ (UInt8.ofNat (48 + r % 10)) (by simp) (fun h => by have := b48 _ (by omega) h; omega)
    · exact trim_ne _ _ (UInt8.ofNat (48 + r / 10 % 10)) (by simp) (fun h => h2 (b48 _ (by omega) h))
  · exact trim_ne _ _ (UInt8.ofNat (48 + r / 100)) (by simp) (fun h => h1 (b48 _ (by omega) h))

/-- The loop's step and its end, on bytes. -/
theorem trim_snoc (l : List UInt8) (x c : UInt8) : trimRightB (l ++ [x]) c = if x = c then trimRightB l c else l ++ [x] := by
  unfold trimRightB
  rw [List.reverse_append, List.reverse_singleton, List.singleton_append, List.dropWhile_cons]
  by_cases h : x = c
  · simp [h]
  · simp [h]
theorem trim_last (b : ByteArray) (k : Nat) (hk : b.size = k + 1) (T : List UInt8) (h : trimRightB b.data.toList 48 = T) :
    (b[k] = 48 → trimRightB (b.extract 0 k).data.toList 48 = T) ∧ (b[k] ≠ 48 → b.data.toList = T) := by
  have e : b.data.toList = b.data.toList.take k ++ [b[k]] := by
    have h1 : (b.data.toList).length = k + 1 := by simpa using hk
    have h2 := List.take_succ_eq_append_getElem (l := b.data.toList) (i := k) (by omega)
    rw [List.take_of_length_le (by omega)] at h2
    exact h2
  have e2 : (b.extract 0 k).data.toList = b.data.toList.take k := by
    rw [extract_upto]
  have e3 : trimRightB b.data.toList 48 = trimRightB (b.data.toList.take k ++ [b[k]]) 48 := congrArg (trimRightB · 48) e
  rw [e3, trim_snoc] at h
  constructor
  · intro hb; rw [if_pos hb] at h; rw [e2]; exact h
  · intro hb; rw [if_neg hb] at h; rw [e]; exact h

end Go.Proofs.YtmallladeidkpaaGreatDoor.Fx
