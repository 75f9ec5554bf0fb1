/- What both Format functions return: the text of a number of thousandths, for every int. -/
import Derived.Test.YtfnbllchebohcaaGreatDoorFixFmt
namespace Go.Proofs.YtfnbllchebohcaaGreatDoor.Fx
open Go.RowKit Go.Sort Go.Lib Go.Shelf

theorem ab_nat (n : Int) : ab n = (n.natAbs : Int) := by unfold ab; split <;> omega
theorem formatUint_int (u : Int) (k : Nat) (D : List UInt8) (hk : u = k) (hu : k < 18446744073709551616) (hD : decDigits k = D) (w : World) (htab : Pows w) :
    Calls Tryz.prog 55 #[.int .u64 u, .int .i64 10] w fun e w' => e = .returned (.string ⟨D.toArray⟩) ∧ Ext w w' := by
  subst hk; subst hD; exact formatUint_any k hu w htab
theorem decDigits_len4 (r : Nat) (hr : r ≤ 999) : (decDigits (1000 + r)).length = 4 := by
  rw [decDigits_length]; exact nDigits_unique 3 _ (by omega) (by omega)
theorem ret_str {a b : List UInt8} (h : a = b) : Ending.returned (.string ⟨a.toArray⟩) = .returned (.string ⟨b.toArray⟩) := by rw [h]

/-- A number's sizes, named. -/
theorem fmt_parts (n : Int) (h0 : -9223372036854775808 ≤ n) (h1 : n ≤ 9223372036854775807) : ∃ (u q r : Nat) (A D : List UInt8), ab n = u ∧ (u : Int) / 1000 = q ∧ (u : Int) % 1000 = r ∧ r ≤ 999 ∧ u < 18446744073709551616 ∧ q < 18446744073709551616 ∧ (u : Int) ≤ 9223372036854775808 ∧
    decDigits q = A ∧ decDigits (1000 + r) = D ∧ A.length ≤ 20 ∧ D.length = 4 ∧ fmt n = (if n < 0 then [45] else []) ++ (A ++ if 0 < r then 46 :: trimRightB (D.drop 1) 48 else []) := by
  refine ⟨n.natAbs, n.natAbs / 1000, n.natAbs % 1000, _, _, ab_nat n, by omega, by omega, by omega, by omega, by omega, by omega, rfl, rfl, ?_, ?_, ?_⟩
  · rw [decDigits_length]; exact nDigits_le20 _ (by omega)
  · exact decDigits_len4 _ (by omega)
  · unfold fmt fmtU fracT
    split <;> simp

theorem ret_bytes {b : ByteArray} {l : List UInt8} (h : b.data.toList = l) : Ending.returned (.string b) = .returned (.string ⟨l.toArray⟩) := by
  subst h; rfl
theorem trim_any (s : ByteArray) (T : List UInt8) (h : trimRightB s.data.toList 48 = T) (hs : s.size ≤ 9223372036854775807) (w : World) :
    Calls Tryz.prog 56 #[.string s, .string ⟨#[48]⟩] w fun e w' => e = .returned (.string ⟨T.toArray⟩) ∧ w = w' := by
  subst h
  refine (Tryz.strings_TrimRight_one s 48 (by decide) w hs).mono ?_
  rintro e w' ⟨rfl, rfl⟩
  exact ⟨rfl, rfl⟩
theorem extract_drop (D : List UInt8) (k : Nat) : ((⟨D.toArray⟩ : ByteArray).extract k D.length).data.toList = D.drop k := by
  rw [extract_mk]; simp [List.take_of_length_le]
theorem extract_size (D : List UInt8) (k n : Nat) : ((⟨D.toArray⟩ : ByteArray).extract k n).size ≤ D.length := by
  rw [extract_mk, size_mk]; simp; omega

set_option maxHeartbeats 1600000 in
theorem format_any (n : Int) (w : World) (h0 : -9223372036854775808 ≤ n) (h1 : n ≤ 9223372036854775807) (ht : Pows w) :
    Calls Tryz.prog 39 #[.int .i64 n] w fun e w' => e = .returned (.string ⟨(fmt n).toArray⟩) ∧ Ext w w' := by
  obtain ⟨u, q, r, A, D, hab, eq, er, hr9, hu64, hq64, q1, hA, hD, hAl, hDl, hf⟩ := fmt_parts n h0 h1
  have HAB := Lib.hid hab; have HA := Lib.hid hA; have HD := Lib.hid hD; have HF := Lib.hid hf; have HU := Lib.hid hu64; have HQ := Lib.hid hq64
  have HT := Lib.hid ht
  clear hab hA hD hf hu64 hq64 ht
  have q0 : (0 : Int) ≤ u := by omega
  have dl1 : 1 ≤ D.length := by omega
  have dl2 : D.length ≤ 4 := by omega
  have al0 : (A.length : Int) ≤ 20 := by omega
  obtain ⟨T, hT⟩ : ∃ T, trimRightB (D.drop 1) 48 = T := ⟨_, rfl⟩
  rw [hT] at HF
  have hTl : T.length ≤ 4 := by
    subst hT; unfold trimRightB
    have := (List.dropWhile_sublist (· == (48 : UInt8)) (l := (D.drop 1).reverse)).length_le
    simp at this ⊢; omega
  have HTT := Lib.hid hT; clear hT hDl
  by_cases hrp : 0 < r
  · rw [if_pos hrp] at HF
    by_cases hn : n < 0
    all_goals
      first | rw [if_pos hn] at HF | rw [if_neg hn] at HF
      go_enter Tryz.func39, Tryz.ntmps39
      go_wp2_with (first
        | (go_at_call 54; refine (size_any n _ h0 h1).mono ?_; rintro e w' ⟨rfl, rfl⟩; rw [HAB.out])
        | (go_at_call_of 55 (Value.int .u64 (q : Int)); refine (formatUint_int _ q A rfl HQ.out HA.out _ HT.out).mono ?_; rintro e w1 ⟨rfl, hx1⟩))
      refine (formatUint_int _ (1000 + r) D (by omega) (by omega) HD.out _ (HT.out.ext hx1)).mono ?_
      rintro e w2 ⟨rfl, hx2⟩
      go_wp2_with fail
      refine (trim_any _ T (by rw [extract_drop]; exact HTT.out) (by have := extract_size D 1 D.length; omega) _).mono ?_
      rintro e w3 ⟨rfl, rfl⟩
      go_wp2
      go_ret
      exact ⟨ret_bytes (by rw [HF.out]; simp [ByteArray.data_append]), hx1.trans hx2⟩
  · rw [if_neg hrp] at HF
    by_cases hn : n < 0
    all_goals
      first | rw [if_pos hn] at HF | rw [if_neg hn] at HF
      go_enter Tryz.func39, Tryz.ntmps39
      go_wp2_with (first
        | (go_at_call 54; refine (size_any n _ h0 h1).mono ?_; rintro e w' ⟨rfl, rfl⟩; rw [HAB.out])
        | (go_at_call_of 55 (Value.int .u64 (q : Int)); refine (formatUint_int _ q A rfl HQ.out HA.out _ HT.out).mono ?_; rintro e w1 ⟨rfl, hx1⟩))
      go_ret
      exact ⟨ret_bytes (by rw [HF.out]; simp [ByteArray.data_append]), hx1⟩
end Go.Proofs.YtfnbllchebohcaaGreatDoor.Fx
