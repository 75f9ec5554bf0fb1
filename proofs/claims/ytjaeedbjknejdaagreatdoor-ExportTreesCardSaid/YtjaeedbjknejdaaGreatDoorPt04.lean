/- Packed texts: FixFormatS, FixDigits -/
import Derived.Test.YtjaeedbjknejdaaGreatDoorPt03
set_option linter.unusedVariables false
set_option linter.unusedSimpArgs false
set_option maxHeartbeats 16000000
set_option maxRecDepth 100000
namespace Go.Proofs.YtjaeedbjknejdaaGreatDoor.Fx
open Go.RowKit Go.Sort Go.Lib Go.Shelf
theorem dec4 (r : Nat) (hr : r <= 999) : decDigits (1000 + r) = [49, UInt8.ofNat (48 + r / 100), UInt8.ofNat (48 + r / 10 % 10), UInt8.ofNat (48 + r % 10)] := by
  rw [decDigits, dif_neg (by omega), decDigits, dif_neg (by omega), decDigits, dif_neg (by omega), decDigits, dif_pos (by omega)]
  rw [show (1000 + r) / 10 / 10 / 10 = 1 by omega, show (1000 + r) / 10 / 10 % 10 = r / 100 by omega, show (1000 + r) / 10 % 10 = r / 10 % 10 by omega, show (1000 + r) % 10 = r % 10 by omega]
  rfl
theorem b48 (d : Nat) (hd : d <= 9) (h : UInt8.ofNat (48 + d) = 48) : d = 0 := by
  have := congrArg UInt8.toNat h
  rw [UInt8.toNat_ofNat'] at this
  have e : (48 : UInt8).toNat = 48 := rfl
  rw [e] at this
  omega
theorem dropWhile_ne (l : List UInt8) (c x : UInt8) (hx : x ∈ l) (h : x ≠ c) : l.dropWhile (· == c) ≠ [] := by
  induction l with
  | nil => cases hx
  | cons a t ih =>
    rw [List.dropWhile_cons]
    split
    · rename_i ha
      rcases List.mem_cons.1 hx with rfl | hm
      · exact absurd (by simpa using ha) h
      exact ih hm
    · simp
theorem trim_ne (l : List UInt8) (c x : UInt8) (hx : x ∈ l) (h : x ≠ c) : 1 <= (trimRightB l c).length := by
  unfold trimRightB
  have := dropWhile_ne l.reverse c x (by simpa using hx) h
  rw [List.length_reverse]
  exact List.length_pos_iff.2 this
theorem frac_ne (r : Nat) (hr : r <= 999) (h0 : 0 < r) : 1 <= (trimRightB ((decDigits (1000 + r)).drop 1) 48).length := by
  rw [dec4 r hr]
  show 1 <= (trimRightB [UInt8.ofNat (48 + r / 100), UInt8.ofNat (48 + r / 10 % 10), UInt8.ofNat (48 + r % 10)] 48).length
  by_cases h1 : r / 100 = 0
  · by_cases h2 : r / 10 % 10 = 0
    · exact trim_ne _ _ (UInt8.ofNat (48 + r % 10)) (by simp) (fun h => by have := b48 _ (by omega) h; omega)
    exact trim_ne _ _ (UInt8.ofNat (48 + r / 10 % 10)) (by simp) (fun h => h2 (b48 _ (by omega) h))
  exact trim_ne _ _ (UInt8.ofNat (48 + r / 100)) (by simp) (fun h => h1 (b48 _ (by omega) h))
theorem trim_snoc (l : List UInt8) (x c : UInt8) : trimRightB (l ++ [x]) c = if x = c then trimRightB l c else l ++ [x] := by
  unfold trimRightB
  rw [List.reverse_append, List.reverse_singleton, List.singleton_append, List.dropWhile_cons]
  by_cases h : x = c
  · simp [h]
  simp [h]
theorem trim_last (b : ByteArray) (k : Nat) (hk : b.size = k + 1) (T : List UInt8) (h : trimRightB b.data.toList 48 = T) :
    (b[k] = 48 -> trimRightB (b.extract 0 k).data.toList 48 = T) /\ (b[k] ≠ 48 -> b.data.toList = T) := by
  have e : b.data.toList = b.data.toList.take k ++ [b[k]] := by
    have h1 : (b.data.toList).length = k + 1 := by simpa using hk
    have h2 := List.take_succ_eq_append_getElem (l := b.data.toList) (i := k) (by omega)
    rw [List.take_of_length_le (by omega)] at h2
    exact h2
  have e2 : (b.extract 0 k).data.toList = b.data.toList.take k := by
    rw [extract_upto]
  have e3 : trimRightB b.data.toList 48 = trimRightB (b.data.toList.take k ++ [b[k]]) 48 := congrArg (trimRightB · 48) e
  rw [e3, trim_snoc] at h
  constructor
  · intro hb; rw [if_pos hb] at h; rw [e2]; exact h
  intro hb; rw [if_neg hb] at h; rw [e]; exact h
theorem digitsR_int (u : Int) (k : Nat) (D : List UInt8) (hk : u = k) (hu : k < 18446744073709551616) (hD : decDigits k = D) (w : World) :
    Calls Tryz.prog 145 #[.int .u64 u] w fun e w' => e = .returned (.string ⟨D.toArray⟩) /\ w = w' := by
  subst hk; exact digitsR_any k D hu hD w
theorem formatR_any (n : Int) (w : World) (h0 : -9223372036854775808 <= n) (h1 : n <= 9223372036854775807) :
    Calls Tryz.prog 77 #[.int .i64 n] w fun e w' => e = .returned (.string ⟨(fmt n).toArray⟩) /\ w = w' := by
  obtain ⟨u, q, r, A, D, hab, eq, er, hr9, hu64, hq64, q1, hA, hD, hAl, hDl, hf⟩ := fmt_parts n h0 h1
  have hTp := frac_ne r hr9
  rw [hD] at hTp
  have HAB := Lib.hid hab; have HA := Lib.hid hA; have HD := Lib.hid hD; have HF := Lib.hid hf; have HU := Lib.hid hu64; have HQ := Lib.hid hq64
  clear hab hA hD hf hu64 hq64
  have q0 : (0 : Int) <= u := by omega
  have dl1 : 1 <= D.length := by omega
  have dl2 : D.length <= 4 := by omega
  have al0 : (A.length : Int) <= 20 := by omega
  obtain ⟨T, hT⟩ : ∃ T, trimRightB (D.drop 1) 48 = T := ⟨_, rfl⟩
  rw [hT] at HF hTp
  have HTP := Lib.hid hTp; clear hTp
  have HTT := Lib.hid hT; clear hT hDl
  by_cases hrp : 0 < r
  · rw [if_pos hrp] at HF
    have HT1 := Lib.hid (HTP.out hrp)
    go_enter Tryz.func77, Tryz.ntmps77
    go_wp2_with (first
      | (go_at_call 144; refine (abs_any n _ h0 h1).mono ?_; rintro e w' ⟨rfl, rfl⟩; rw [HAB.out])
      | (go_at_call_of 145 (Value.int .u64 (q : Int)); refine (digitsR_any q A HQ.out HA.out _).mono ?_; rintro e w1 ⟨rfl, rfl⟩))
    refine (digitsR_int _ (1000 + r) D (by omega) (by omega) HD.out _).mono ?_
    rintro e w2 ⟨rfl, rfl⟩
    go_wp2_with fail
    go_loop [6] (fun s => ∃ (b : ByteArray), b.size <= D.length /\ trimRightB b.data.toList 48 = T /\ s = .string b) (fun s => strSize s)
    case atStart => exact ⟨_, extract_size _ _ _, by rw [extract_drop]; exact HTT.out, rfl⟩
    obtain ⟨b, hbl, hb, rfl⟩ := hrel
    have hb1 : 1 <= b.size := by
      rcases Nat.eq_zero_or_pos b.size with h | h
      · have e : b.data.toList = [] := by apply List.eq_nil_of_length_eq_zero; simpa using h
        rw [e] at hb; subst hb; have := HT1.out; simp [trimRightB] at this
      exact h
    obtain ⟨k, hk⟩ : ∃ k, b.size = k + 1 := ⟨b.size - 1, by omega⟩
    have HL := Lib.hid (trim_last b k hk T hb)
    have HK := Lib.hid hk
    by_cases hc : b[k] = 48
    · have ht : ((b[k].toNat : Int) == 48) = true := by rw [hc]; rfl
      have HB := Lib.hid (HL.out.1 hc)
      clear hc
      go_wp2
      go_round
      case rel => exact ⟨_, by rw [extract_upto, size_mk]; simp; omega, HB.out, rfl⟩
      case measure => rw [extract_upto]; show (⟨_⟩ : ByteArray).size < b.size; rw [size_mk]; simp; omega
    have ht : ((b[k].toNat : Int) == 48) = false := by
      rw [beq_eq_false_iff_ne]; intro h; exact hc (UInt8.toNat_inj.1 (by have e : (48 : UInt8).toNat = 48 := rfl; omega))
    have HB := Lib.hid (HL.out.2 hc)
    clear hc
    by_cases hn : n < 0
    all_goals
      first | rw [if_pos hn] at HF | rw [if_neg hn] at HF
      go_wp2
      go_ret
      exact ⟨ret_bytes (by rw [HF.out]; simp only [data_app]; rw [HB.out]; simp), rfl⟩
  rw [if_neg hrp] at HF
  by_cases hn : n < 0
  all_goals
    first | rw [if_pos hn] at HF | rw [if_neg hn] at HF
    go_enter Tryz.func77, Tryz.ntmps77
    go_wp2_with (first
      | (go_at_call 144; refine (abs_any n _ h0 h1).mono ?_; rintro e w' ⟨rfl, rfl⟩; rw [HAB.out])
      | (go_at_call_of 145 (Value.int .u64 (q : Int)); refine (digitsR_any q A HQ.out HA.out _).mono ?_; rintro e w1 ⟨rfl, rfl⟩))
    go_ret
    exact ⟨ret_bytes (by rw [HF.out]; simp [ByteArray.data_append]), rfl⟩
end Go.Proofs.YtjaeedbjknejdaaGreatDoor.Fx

namespace Go.Proofs.YtjaeedbjknejdaaGreatDoor.Fx
open Go.RowKit Go.Sort Go.Lib Go.Shelf
theorem ret_bool {a b : Bool} (h : a = b) : Ending.returned (.bool a) = .returned (.bool b) := by rw [h]
theorem take_succ_all (s : ByteArray) (k : Nat) (hk : k < s.size) (h : (s.data.toList.take k).all isD = true) (hd : isD s[k] = true) : (s.data.toList.take (k + 1)).all isD = true := by
  have h2 := List.take_succ_eq_append_getElem (l := s.data.toList) (i := k) (by simpa using hk)
  rw [h2, List.all_append, h]
  have e : s.data.toList[k]'(by simpa using hk) = s[k] := rfl
  simp [hd, e]
theorem not_all (s : ByteArray) (k : Nat) (hk : k < s.size) (hd : isD s[k] = false) : digs s.data.toList = false := by
  unfold digs
  have : s.data.toList.all isD = false := by
    rw [List.all_eq_false]
    exact ⟨s[k], by show s.data.toList[k]'(by simpa using hk) ∈ _; exact List.getElem_mem _, by simp [hd]⟩
  rw [this]; rfl
theorem digs_end (s : ByteArray) (h : (s.data.toList.take s.size).all isD = true) : digs s.data.toList = decide (0 < s.size) := by
  rw [List.take_of_length_le (by simp)] at h
  unfold digs
  rw [h, Bool.true_and]
  have : s.data.toList.isEmpty = decide (s.size = 0) := by
    cases e : s.data.toList with
    | nil => have : s.size = 0 := by have h := congrArg List.length e; simpa using h
             simp [this]
    | cons a t => have : s.size ≠ 0 := by have h := congrArg List.length e; simp at h; have : s.size = s.data.size := rfl; omega
                  simp [this]
  rw [this]
  by_cases h0 : s.size = 0 <;> simp [h0]; omega
theorem digits_any (s : ByteArray) (hs : s.size <= 9223372036854775807) (w : World) :
    Calls Tryz.prog 170 #[.string s] w fun e w' => e = .returned (.bool (digs s.data.toList)) /\ w = w' := by
  go_enter Tryz.func170, Tryz.ntmps170
  go_wp2_with fail
  go_step3
  go_wp2_with fail
  go_step3
  go_wp2_with fail
  go_loop [3, 8] (fun n i => ∃ k : Nat, k <= s.size /\ (s.data.toList.take k).all isD = true /\ n = .int .i64 k /\ i = .int .i64 k) (fun _ i => s.size - (RowKit.intOf i).toNat)
  case atStart => exact ⟨0, by omega, by simp, rfl, rfl⟩
  obtain ⟨k, hk, ha, rfl, rfl⟩ := hrel
  have HA := Lib.hid ha; clear ha
  by_cases hlt : k < s.size
  · have HN := Lib.hid (not_all s k hlt)
    have HT := Lib.hid (take_succ_all s k hlt HA.out)
    have hd : isD s[k] = decide (48 <= s[k].toNat /\ s[k].toNat <= 57) := rfl
    have hbl : s[k].toNat <= 255 := by have := s[k].toNat_lt; omega
    by_cases h1 : s[k].toNat < 48
    · have HF := Lib.hid (HN.out (by rw [hd]; simp; omega))
      have t1 : (s[k].toNat : Int) < 48 := by omega
      clear hd
      go_wp2
      all_goals
        go_ret
        exact ⟨ret_bool (by have h := HF.out; first | (rw [h]; done) | (rw [h]; simp; omega)), rfl⟩
    by_cases h2 : 57 < s[k].toNat
    · have HF := Lib.hid (HN.out (by rw [hd]; simp; omega))
      have t1 : ¬ (s[k].toNat : Int) < 48 := by omega
      have t2 : (57 : Int) < (s[k].toNat : Int) := by omega
      clear hd
      go_wp2
      all_goals
        go_ret
        exact ⟨ret_bool (by have h := HF.out; first | (rw [h]; done) | (rw [h]; simp; omega)), rfl⟩
    have HF := Lib.hid (HT.out (by rw [hd]; simp; omega))
    have t1 : ¬ (s[k].toNat : Int) < 48 := by omega
    have t2 : ¬ (57 : Int) < (s[k].toNat : Int) := by omega
    clear hd
    go_wp2
    go_round
    case rel => exact ⟨k + 1, by omega, HF.out, by go_num, by go_num⟩
    case measure => simp [RowKit.intOf]; omega
  have e : k = s.size := by omega
  have HF := Lib.hid (digs_end s (by rw [<- e]; exact HA.out))
  have HE := Lib.hid e; clear e
  go_wp2
  all_goals
    go_ret
    exact ⟨ret_bool (by rw [HF.out, <- HE.out]; simp; omega), rfl⟩
end Go.Proofs.YtjaeedbjknejdaaGreatDoor.Fx
