/- Packed texts: FixFormatR, FixFormatS, FixDigits -/
import Derived.Test.YtnancphlkbfglaaGreatDoorPn02
set_option linter.unusedVariables false
set_option linter.unusedSimpArgs false
/- What the document's Format returns: the same text, for every int. -/
namespace Go.Proofs.YtnancphlkbfglaaGreatDoor.Fx
open Go.RowKit Go.Sort Go.Lib Go.Shelf

theorem dig_fin : ∀ i : Fin 10, ((⟨#[48, 49, 50, 51, 52, 53, 54, 55, 56, 57]⟩ : ByteArray).extract i.val (i.val + 1)).data.toList = [UInt8.ofNat (48 + i.val)] := by decide +kernel
theorem dig_cut (i : Nat) (h : i < 10) : ((⟨#[48, 49, 50, 51, 52, 53, 54, 55, 56, 57]⟩ : ByteArray).extract i (i + 1)).data.toList = [UInt8.ofNat (48 + i)] := dig_fin ⟨i, h⟩
theorem data_app (a b : ByteArray) : (a ++ b).data.toList = a.data.toList ++ b.data.toList := by simp [ByteArray.data_append]
theorem dig_run (i : Nat) (c : UInt8) (h : i < 10) (hc : UInt8.ofNat (48 + i) = c) (W : World) : (Instr.slice 9 (.string ⟨#[48, 49, 50, 51, 52, 53, 54, 55, 56, 57]⟩) (some (.int .u64 i)) (some (.int .u64 ((i : Int) + 1))) none).run Tryz.prog W = .ok (.string ⟨[c].toArray⟩) W := by
  subst hc
  rw [run_slice_string W _ _ .u64 .u64 i ((i : Int) + 1) Tryz.underlying9 (by omega) (by omega) (by show (i : Int) + 1 ≤ ((10 : Nat) : Int); omega)]
  have h1 := dig_cut i h
  rw [Int.toNat_natCast, show ((i : Int) + 1).toNat = i + 1 by omega]
  congr 1
  generalize (⟨#[48, 49, 50, 51, 52, 53, 54, 55, 56, 57]⟩ : ByteArray).extract i (i + 1) = b at h1 ⊢
  rw [← h1]
theorem dec_step (m : Nat) (h : 10 ≤ m) (T : List UInt8) : decDigits m ++ T = decDigits (m / 10) ++ (UInt8.ofNat (48 + m % 10) :: T) := by
  rw [decDigits, dif_neg (by omega)]; simp
theorem nd_le (m : Nat) (h : m < 18446744073709551616) : (decDigits m).length ≤ 20 := by rw [decDigits_length]; exact nDigits_le20 m h

end Go.Proofs.YtnancphlkbfglaaGreatDoor.Fx

/- What the document's Format returns: the same text as the program's, for every int. -/
namespace Go.Proofs.YtnancphlkbfglaaGreatDoor.Fx
open Go.RowKit Go.Sort Go.Lib Go.Shelf

theorem dec4 (r : Nat) (hr : r ≤ 999) : decDigits (1000 + r) = [49, UInt8.ofNat (48 + r / 100), UInt8.ofNat (48 + r / 10 % 10), UInt8.ofNat (48 + r % 10)] := by
  rw [decDigits, dif_neg (by omega), decDigits, dif_neg (by omega), decDigits, dif_neg (by omega), decDigits, dif_pos (by omega)]
  rw [show (1000 + r) / 10 / 10 / 10 = 1 by omega, show (1000 + r) / 10 / 10 % 10 = r / 100 by omega, show (1000 + r) / 10 % 10 = r / 10 % 10 by omega, show (1000 + r) % 10 = r % 10 by omega]
  rfl
theorem b48 (d : Nat) (hd : d ≤ 9) (h : UInt8.ofNat (48 + d) = 48) : d = 0 := by
  have := congrArg UInt8.toNat h
  rw [UInt8.toNat_ofNat'] at this
  have e : (48 : UInt8).toNat = 48 := rfl
  rw [e] at this
  omega
theorem dropWhile_ne (l : List UInt8) (c x : UInt8) (hx : x ∈ l) (h : x ≠ c) : l.dropWhile (· == c) ≠ [] := by
  induction l with
  | nil => cases hx
  | cons a t ih =>
    rw [List.dropWhile_cons]
    split
    · rename_i ha
      rcases List.mem_cons.1 hx with rfl | hm
      · exact absurd (by simpa using ha) h
      · exact ih hm
    · simp
theorem trim_ne (l : List UInt8) (c x : UInt8) (hx : x ∈ l) (h : x ≠ c) : 1 ≤ (trimRightB l c).length := by
  unfold trimRightB
  have := dropWhile_ne l.reverse c x (by simpa using hx) h
  rw [List.length_reverse]
  exact List.length_pos_iff.2 this
theorem frac_ne (r : Nat) (hr : r ≤ 999) (h0 : 0 < r) : 1 ≤ (trimRightB ((decDigits (1000 + r)).drop 1) 48).length := by
  rw [dec4 r hr]
  show 1 ≤ (trimRightB [UInt8.ofNat (48 + r / 100), UInt8.ofNat (48 + r / 10 % 10), UInt8.ofNat (48 + r % 10)] 48).length
  by_cases h1 : r / 100 = 0
  · by_cases h2 : r / 10 % 10 = 0
    · exact trim_ne _ _ (UInt8.ofNat (48 + r % 10)) (by simp) (fun h => by have := b48 _ (by omega) h; omega)
    · exact trim_ne _ _ (UInt8.ofNat (48 + r / 10 % 10)) (by simp) (fun h => h2 (b48 _ (by omega) h))
  · exact trim_ne _ _ (UInt8.ofNat (48 + r / 100)) (by simp) (fun h => h1 (b48 _ (by omega) h))

/-- The loop's step and its end, on bytes. -/
theorem trim_snoc (l : List UInt8) (x c : UInt8) : trimRightB (l ++ [x]) c = if x = c then trimRightB l c else l ++ [x] := by
  unfold trimRightB
  rw [List.reverse_append, List.reverse_singleton, List.singleton_append, List.dropWhile_cons]
  by_cases h : x = c
  · simp [h]
  · simp [h]
theorem trim_last (b : ByteArray) (k : Nat) (hk : b.size = k + 1) (T : List UInt8) (h : trimRightB b.data.toList 48 = T) :
    (b[k] = 48 → trimRightB (b.extract 0 k).data.toList 48 = T) ∧ (b[k] ≠ 48 → b.data.toList = T) := by
  have e : b.data.toList = b.data.toList.take k ++ [b[k]] := by
    have h1 : (b.data.toList).length = k + 1 := by simpa using hk
    have h2 := List.take_succ_eq_append_getElem (l := b.data.toList) (i := k) (by omega)
    rw [List.take_of_length_le (by omega)] at h2
    exact h2
  have e2 : (b.extract 0 k).data.toList = b.data.toList.take k := by
    rw [extract_upto]
  have e3 : trimRightB b.data.toList 48 = trimRightB (b.data.toList.take k ++ [b[k]]) 48 := congrArg (trimRightB · 48) e
  rw [e3, trim_snoc] at h
  constructor
  · intro hb; rw [if_pos hb] at h; rw [e2]; exact h
  · intro hb; rw [if_neg hb] at h; rw [e]; exact h

end Go.Proofs.YtnancphlkbfglaaGreatDoor.Fx

/- What the program's digits returns: whether a text consists of one or more digits, for every text. -/
namespace Go.Proofs.YtnancphlkbfglaaGreatDoor.Fx
open Go.RowKit Go.Sort Go.Lib Go.Shelf

theorem ret_bool {a b : Bool} (h : a = b) : Ending.returned (.bool a) = .returned (.bool b) := by rw [h]
theorem take_succ_all (s : ByteArray) (k : Nat) (hk : k < s.size) (h : (s.data.toList.take k).all isD = true) (hd : isD s[k] = true) : (s.data.toList.take (k + 1)).all isD = true := by
  have h2 := List.take_succ_eq_append_getElem (l := s.data.toList) (i := k) (by simpa using hk)
  rw [h2, List.all_append, h]
  have e : s.data.toList[k]'(by simpa using hk) = s[k] := rfl
  simp [hd, e]
theorem not_all (s : ByteArray) (k : Nat) (hk : k < s.size) (hd : isD s[k] = false) : digs s.data.toList = false := by
  unfold digs
  have : s.data.toList.all isD = false := by
    rw [List.all_eq_false]
    exact ⟨s[k], by show s.data.toList[k]'(by simpa using hk) ∈ _; exact List.getElem_mem _, by simp [hd]⟩
  rw [this]; rfl
theorem digs_end (s : ByteArray) (h : (s.data.toList.take s.size).all isD = true) : digs s.data.toList = decide (0 < s.size) := by
  rw [List.take_of_length_le (by simp)] at h
  unfold digs
  rw [h, Bool.true_and]
  have : s.data.toList.isEmpty = decide (s.size = 0) := by
    cases e : s.data.toList with
    | nil => have : s.size = 0 := by have h := congrArg List.length e; simpa using h
             simp [this]
    | cons a t => have : s.size ≠ 0 := by have h := congrArg List.length e; simp at h; have : s.size = s.data.size := rfl; omega
                  simp [this]
  rw [this]
  by_cases h0 : s.size = 0 <;> simp [h0]; omega

set_option maxHeartbeats 1600000 in
theorem digits_any (s : ByteArray) (hs : s.size ≤ 9223372036854775807) (w : World) :
    Calls Tryz.prog 108 #[.string s] w fun e w' => e = .returned (.bool (digs s.data.toList)) ∧ w = w' := by
  go_enter Tryz.func108, Tryz.ntmps108
  go_wp2_with fail
  go_step3
  go_wp2_with fail
  go_step3
  go_wp2_with fail
  go_loop [3, 8] (fun n i => ∃ k : Nat, k ≤ s.size ∧ (s.data.toList.take k).all isD = true ∧ n = .int .i64 k ∧ i = .int .i64 k) (fun _ i => s.size - (RowKit.intOf i).toNat)
  case atStart => exact ⟨0, by omega, by simp, rfl, rfl⟩
  case round =>
    obtain ⟨k, hk, ha, rfl, rfl⟩ := hrel
    have HA := Lib.hid ha; clear ha
    by_cases hlt : k < s.size
    · have HN := Lib.hid (not_all s k hlt)
      have HT := Lib.hid (take_succ_all s k hlt HA.out)
      have hd : isD s[k] = decide (48 ≤ s[k].toNat ∧ s[k].toNat ≤ 57) := rfl
      have hbl : s[k].toNat ≤ 255 := by have := s[k].toNat_lt; omega
      by_cases h1 : s[k].toNat < 48
      · have HF := Lib.hid (HN.out (by rw [hd]; simp; omega))
        have t1 : (s[k].toNat : Int) < 48 := by omega
        clear hd
        go_wp2
        all_goals
          go_ret
          exact ⟨ret_bool (by have h := HF.out; first | (rw [h]; done) | (rw [h]; simp; omega)), rfl⟩
      · by_cases h2 : 57 < s[k].toNat
        · have HF := Lib.hid (HN.out (by rw [hd]; simp; omega))
          have t1 : ¬ (s[k].toNat : Int) < 48 := by omega
          have t2 : (57 : Int) < (s[k].toNat : Int) := by omega
          clear hd
          go_wp2
          all_goals
            go_ret
            exact ⟨ret_bool (by have h := HF.out; first | (rw [h]; done) | (rw [h]; simp; omega)), rfl⟩
        · have HF := Lib.hid (HT.out (by rw [hd]; simp; omega))
          have t1 : ¬ (s[k].toNat : Int) < 48 := by omega
          have t2 : ¬ (57 : Int) < (s[k].toNat : Int) := by omega
          clear hd
          go_wp2
          go_round
          case rel => exact ⟨k + 1, by omega, HF.out, by go_num, by go_num⟩
          case measure => simp [RowKit.intOf]; omega
    · have e : k = s.size := by omega
      have HF := Lib.hid (digs_end s (by rw [← e]; exact HA.out))
      have HE := Lib.hid e; clear e
      go_wp2
      all_goals
        go_ret
        exact ⟨ret_bool (by rw [HF.out, ← HE.out]; simp; omega), rfl⟩
end Go.Proofs.YtnancphlkbfglaaGreatDoor.Fx
