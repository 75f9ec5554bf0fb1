/- Packed texts: FixFormatS, FixDigits -/
import Derived.Test.YtjaeedbjknejdaaGreatDoorPr03
set_option linter.unusedVariables false
set_option linter.unusedSimpArgs false
set_option maxHeartbeats 16000000
set_option maxRecDepth 100000
namespace Go.Proofs.YtjaeedbjknejdaaGreatDoor.Fx
open Go.RowKit Go.Sort Go.Lib Go.Shelf
theorem dec4 (r : Nat) (hr : r <= 999) : decDigits (1000 + r) = [49, UInt8.ofNat (48 + r / 100), UInt8.ofNat (48 + r / 10 % 10), UInt8.ofNat (48 + r % 10)] := by
  rw [decDigits, dif_neg (by omega), decDigits, dif_neg (by omega), decDigits, dif_neg (by omega), decDigits, dif_pos (by omega)]
  rw [show (1000 + r) / 10 / 10 / 10 = 1 by omega, show (1000 + r) / 10 / 10 % 10 = r / 100 by omega, show (1000 + r) / 10 % 10 = r / 10 % 10 by omega, show (1000 + r) % 10 = r % 10 by omega]
  rfl
end Go.Proofs.YtjaeedbjknejdaaGreatDoor.Fx

namespace Go.Proofs.YtjaeedbjknejdaaGreatDoor.Fx
open Go.RowKit Go.Sort Go.Lib Go.Shelf
theorem ret_bool {a b : Bool} (h : a = b) : Ending.returned (.bool a) = .returned (.bool b) := by rw [h]
theorem take_succ_all (s : ByteArray) (k : Nat) (hk : k < s.size) (h : (s.data.toList.take k).all isD = true) (hd : isD s[k] = true) : (s.data.toList.take (k + 1)).all isD = true := by
  have h2 := List.take_succ_eq_append_getElem (l := s.data.toList) (i := k) (by simpa using hk)
  rw [h2, List.all_append, h]
  have e : s.data.toList[k]'(by simpa using hk) = s[k] := rfl
  simp [hd, e]
theorem not_all (s : ByteArray) (k : Nat) (hk : k < s.size) (hd : isD s[k] = false) : digs s.data.toList = false := by
  unfold digs
  have : s.data.toList.all isD = false := by
    rw [List.all_eq_false]
    exact ⟨s[k], by show s.data.toList[k]'(by simpa using hk) ∈ _; exact List.getElem_mem _, by simp [hd]⟩
  rw [this]; rfl
theorem digs_end (s : ByteArray) (h : (s.data.toList.take s.size).all isD = true) : digs s.data.toList = decide (0 < s.size) := by
  rw [List.take_of_length_le (by simp)] at h
  unfold digs
  rw [h, Bool.true_and]
  have : s.data.toList.isEmpty = decide (s.size = 0) := by
    cases e : s.data.toList with
    | nil => have : s.size = 0 := by have h := congrArg List.length e; simpa using h
             simp [this]
    | cons a t => have : s.size ≠ 0 := by have h := congrArg List.length e; simp at h; have : s.size = s.data.size := rfl; omega
                  simp [this]
  rw [this]
  by_cases h0 : s.size = 0 <;> simp [h0]; omega
theorem digits_any (s : ByteArray) (hs : s.size <= 9223372036854775807) (w : World) :
    Calls Tryz.prog 170 #[.string s] w fun e w' => e = .returned (.bool (digs s.data.toList)) /\ w = w' := by
  go_enter Tryz.func170, Tryz.ntmps170
  go_wp2_with fail
  go_step3
  go_wp2_with fail
  go_step3
  go_wp2_with fail
  go_loop [3, 8] (fun n i => ∃ k : Nat, k <= s.size /\ (s.data.toList.take k).all isD = true /\ n = .int .i64 k /\ i = .int .i64 k) (fun _ i => s.size - (RowKit.intOf i).toNat)
  case atStart => exact ⟨0, by omega, by simp, rfl, rfl⟩
  obtain ⟨k, hk, ha, rfl, rfl⟩ := hrel
  have HA := Lib.hid ha; clear ha
  by_cases hlt : k < s.size
  · have HN := Lib.hid (not_all s k hlt)
    have HT := Lib.hid (take_succ_all s k hlt HA.out)
    have hd : isD s[k] = decide (48 <= s[k].toNat /\ s[k].toNat <= 57) := rfl
    have hbl : s[k].toNat <= 255 := by have := s[k].toNat_lt; omega
    by_cases h1 : s[k].toNat < 48
    · have HF := Lib.hid (HN.out (by rw [hd]; simp; omega))
      have t1 : (s[k].toNat : Int) < 48 := by omega
      clear hd
      go_wp2
      all_goals
        go_ret
        exact ⟨ret_bool (by have h := HF.out; first | (rw [h]; done) | (rw [h]; simp; omega)), rfl⟩
    by_cases h2 : 57 < s[k].toNat
    · have HF := Lib.hid (HN.out (by rw [hd]; simp; omega))
      have t1 : ¬ (s[k].toNat : Int) < 48 := by omega
      have t2 : (57 : Int) < (s[k].toNat : Int) := by omega
      clear hd
      go_wp2
      all_goals
        go_ret
        exact ⟨ret_bool (by have h := HF.out; first | (rw [h]; done) | (rw [h]; simp; omega)), rfl⟩
    have HF := Lib.hid (HT.out (by rw [hd]; simp; omega))
    have t1 : ¬ (s[k].toNat : Int) < 48 := by omega
    have t2 : ¬ (57 : Int) < (s[k].toNat : Int) := by omega
    clear hd
    go_wp2
    go_round
    case rel => exact ⟨k + 1, by omega, HF.out, by go_num, by go_num⟩
    case measure => simp [RowKit.intOf]; omega
  have e : k = s.size := by omega
  have HF := Lib.hid (digs_end s (by rw [<- e]; exact HA.out))
  have HE := Lib.hid e; clear e
  go_wp2
  all_goals
    go_ret
    exact ⟨ret_bool (by rw [HF.out, <- HE.out]; simp; omega), rfl⟩
end Go.Proofs.YtjaeedbjknejdaaGreatDoor.Fx
