/- What the small functions of the lexer return: letter, digit, word, IsKeyword, IsName, and the document's twins. -/
import Derived.Test.YtfhephcbjbdejaaGreatDoorFixForm
import Derived.Test.YtfhephcbjbdejaaGreatDoorLexText
namespace Go.Proofs.YtfhephcbjbdejaaGreatDoor.Lx
open Go.RowKit Go.Sort Go.Lib Go.Shelf Fx

theorem letter_any (b : UInt8) (w : World) : Calls Tryz.prog 88 #[.int .u8 b.toNat] w fun e w' => e = .returned (.bool (isL b)) ∧ w = w' := by
  go_enter Tryz.func88, Tryz.ntmps88
  go_wp2
  all_goals
    go_ret
    exact ⟨ret_bool (by rw [Bool.eq_iff_iff]; unfold isL; simp only [Bool.or_eq_true, decide_eq_true_eq, beq_iff_eq, true_iff]; omega), rfl⟩
theorem digit_any (b : UInt8) (w : World) : Calls Tryz.prog 89 #[.int .u8 b.toNat] w fun e w' => e = .returned (.bool (isD b)) ∧ w = w' := by
  go_enter Tryz.func89, Tryz.ntmps89
  go_wp2
  all_goals
    go_ret
    exact ⟨ret_bool (by rw [Bool.eq_iff_iff]; unfold isD; simp only [decide_eq_true_eq, false_iff, Bool.false_eq_true]; omega), rfl⟩
theorem isKeyword_any (s : ByteArray) (w : World) : Calls Tryz.prog 66 #[.string s] w fun e w' => e = .returned (.bool (kw s.data.toList)) ∧ w = w' := by
  go_enter Tryz.func66, Tryz.ntmps66
  go_wp2
  all_goals
    go_ret
    exact ⟨ret_bool (by rw [← ByteArray.toList_eq]; unfold kw; simp_all), rfl⟩

theorem bt_at (s : ByteArray) (k : Nat) (hk : k < s.size) : bt s.data.toList k = s[k] := by
  unfold bt
  have h : k < s.data.toList.length := by rw [← size_len]; exact hk
  rw [List.getElem?_eq_getElem h]; rfl

theorem scan_step (p : Nat → Bool) (l k : Nat) (hk : k < l) : scan p (l - k) k = if p k then scan p (l - (k + 1)) (k + 1) else k := by
  rw [show l - k = (l - (k + 1)) + 1 by omega]; rfl

set_option maxHeartbeats 1600000 in
theorem word_any (s : ByteArray) (hs : s.size ≤ 9223372036854775807) (w : World) :
    Calls Tryz.prog 65 #[.string s] w fun e w' => e = .returned (.int .i64 (wordN s.data.toList)) ∧ w = w' := by
  obtain ⟨N, hN⟩ : ∃ N, N = wordN s.data.toList := ⟨_, rfl⟩
  have HN : Hid (N = scan (okW s.data.toList) (s.size - 0) 0) := Lib.hid (by rw [hN]; unfold wordN; rw [← size_len]; rfl)
  rw [← hN]; clear hN
  go_enter Tryz.func65, Tryz.ntmps65
  go_wp2_with fail
  go_loop [3] (fun n => ∃ k : Nat, k ≤ s.size ∧ Hid (N = scan (okW s.data.toList) (s.size - k) k) ∧ n = .int .i64 k) (fun n => s.size - (RowKit.intOf n).toNat)
  case atStart => exact ⟨0, by omega, HN, rfl⟩
  case round =>
    obtain ⟨k, hk, ha, rfl⟩ := hrel
    clear HN
    by_cases hlt : k < s.size
    · have hst := ha.out
      rw [scan_step _ _ _ hlt] at hst
      have hok : okW s.data.toList k = (isL s[k] || (decide (0 < k) && isD s[k])) := by unfold okW; rw [bt_at s k hlt]
      rw [hok] at hst
      have HS := Lib.hid hst; clear hst hok ha
      by_cases c1 : isL s[k] = true
      · have HF : Hid (N = scan (okW s.data.toList) (s.size - (k + 1)) (k + 1)) := Lib.hid (by rw [HS.out, c1]; rfl)
        clear HS
        go_wp2_with fail
        refine (letter_any s[k] _).mono ?_
        rintro e w1 ⟨rfl, rfl⟩
        go_wp2
        go_round
        case rel => exact ⟨k + 1, by omega, HF, by go_num⟩
        case measure => simp [RowKit.intOf]; omega
      · have c1' : isL s[k] = false := by simpa using c1
        clear c1
        by_cases c2 : 0 < k
        · by_cases c3 : isD s[k] = true
          · have HF : Hid (N = scan (okW s.data.toList) (s.size - (k + 1)) (k + 1)) := Lib.hid (by rw [HS.out, c1', c3]; simp [c2])
            clear HS
            go_wp2_with fail
            refine (letter_any s[k] _).mono ?_
            rintro e w1 ⟨rfl, rfl⟩
            go_wp2_with fail
            refine (digit_any s[k] _).mono ?_
            rintro e w1 ⟨rfl, rfl⟩
            go_wp2
            go_round
            case rel => exact ⟨k + 1, by omega, HF, by go_num⟩
            case measure => simp [RowKit.intOf]; omega
          · have c3' : isD s[k] = false := by simpa using c3
            have HF : Hid (N = k) := Lib.hid (by rw [HS.out, c1', c3']; simp)
            clear HS c3
            go_wp2_with fail
            refine (letter_any s[k] _).mono ?_
            rintro e w1 ⟨rfl, rfl⟩
            go_wp2_with fail
            refine (digit_any s[k] _).mono ?_
            rintro e w1 ⟨rfl, rfl⟩
            go_wp2
            go_ret
            exact ⟨ret_int (by rw [HF.out]), rfl⟩
        · have HF : Hid (N = k) := Lib.hid (by rw [HS.out, c1']; simp [c2])
          clear HS
          go_wp2_with fail
          refine (letter_any s[k] _).mono ?_
          rintro e w1 ⟨rfl, rfl⟩
          go_wp2
          go_ret
          exact ⟨ret_int (by rw [HF.out]), rfl⟩
    · have HF : Hid (N = k) := Lib.hid (by rw [ha.out, show s.size - k = 0 by omega]; rfl)
      clear ha
      go_wp2
      go_ret
      exact ⟨ret_int (by rw [HF.out]), rfl⟩
theorem isName_any (s : ByteArray) (hs : s.size ≤ 9223372036854775807) (w : World) : Calls Tryz.prog 40 #[.string s] w fun e w' => e = .returned (.bool (nameB s.data.toList)) ∧ w = w' := by
  have hsz := size_len s
  rcases Nat.eq_zero_or_pos s.size with h0 | h0
  · obtain ⟨e1, e2, e3⟩ := tl_nil s h0
    go_enter Tryz.func40, Tryz.ntmps40
    go_wp2
    go_ret
    exact ⟨ret_bool (by rw [e3]; rfl), rfl⟩
  · obtain ⟨e1, e2, e3⟩ := tl_cons s h0
    have HB : Hid (nameB s.data.toList = (decide (s.size ≤ 16) && decide (wordN s.data.toList = s.size) && !kw s.data.toList)) := Lib.hid (by have e4 := e2; rw [ByteArray.toList_eq] at e4; unfold nameB; rw [← hsz, e4]; rfl)
    clear hsz e3
    generalize nameB s.data.toList = NB at HB ⊢
    go_enter Tryz.func40, Tryz.ntmps40
    go_wp2_with (first | (go_at_call 65; refine (word_any s hs _).mono ?_; rintro e w1 ⟨rfl, rfl⟩) | (go_at_call 66; refine (isKeyword_any s _).mono ?_; rintro e w1 ⟨rfl, rfl⟩))
    all_goals
      go_ret
      refine ⟨ret_bool ?_, rfl⟩
      rw [HB.out]
      first
        | (rw [decide_eq_true (show s.size ≤ 16 by omega), decide_eq_true (show wordN s.data.toList = s.size by omega)]; rfl)
        | (rw [decide_eq_false (show ¬ wordN s.data.toList = s.size by omega)]; simp)
        | (rw [decide_eq_false (show ¬ s.size ≤ 16 by omega)]; simp)
end Go.Proofs.YtfhephcbjbdejaaGreatDoor.Lx
