/- Packed texts: LexWalkA, LexCont, LexNext -/
import Derived.Test.YtmallladeidkpaaGreatDoorPw05
import Derived.Test.YtmallladeidkpaaGreatDoorPw01
import Derived.Test.YtmallladeidkpaaGreatDoorPw03
set_option linter.unusedVariables false
set_option linter.unusedSimpArgs false
/- What the small functions of the lexer return: letter, digit, word, IsKeyword, IsName, and the document's twins. -/
namespace Go.Proofs.YtmallladeidkpaaGreatDoor.Lx
open Go.RowKit Go.Sort Go.Lib Go.Shelf Fx

theorem letter_any (b : UInt8) (w : World) : Calls Tryz.prog 64 #[.int .u8 b.toNat] w fun e w' => e = .returned (.bool (isL b)) ∧ w = w' := by
  go_enter Tryz.func64, Tryz.ntmps64
  go_wp2
  all_goals
    go_ret
    exact ⟨ret_bool (by rw [Bool.eq_iff_iff]; unfold isL; simp only [Bool.or_eq_true, decide_eq_true_eq, beq_iff_eq, true_iff]; omega), rfl⟩
theorem letterR_any (b : UInt8) (w : World) : Calls Tryz.prog 94 #[.int .u8 b.toNat] w fun e w' => e = .returned (.bool (isL b)) ∧ w = w' := by
  go_enter Tryz.func94, Tryz.ntmps94
  go_wp2
  all_goals
    go_ret
    exact ⟨ret_bool (by rw [Bool.eq_iff_iff]; unfold isL; simp only [Bool.or_eq_true, decide_eq_true_eq, beq_iff_eq, true_iff]; omega), rfl⟩
theorem digit_any (b : UInt8) (w : World) : Calls Tryz.prog 63 #[.int .u8 b.toNat] w fun e w' => e = .returned (.bool (isD b)) ∧ w = w' := by
  go_enter Tryz.func63, Tryz.ntmps63
  go_wp2
  all_goals
    go_ret
    exact ⟨ret_bool (by rw [Bool.eq_iff_iff]; unfold isD; simp only [decide_eq_true_eq, false_iff, Bool.false_eq_true]; omega), rfl⟩
theorem digitR_any (b : UInt8) (w : World) : Calls Tryz.prog 95 #[.int .u8 b.toNat] w fun e w' => e = .returned (.bool (isD b)) ∧ w = w' := by
  go_enter Tryz.func95, Tryz.ntmps95
  go_wp2
  all_goals
    go_ret
    exact ⟨ret_bool (by rw [Bool.eq_iff_iff]; unfold isD; simp only [decide_eq_true_eq, false_iff, Bool.false_eq_true]; omega), rfl⟩
theorem isKeyword_any (s : ByteArray) (w : World) : Calls Tryz.prog 53 #[.string s] w fun e w' => e = .returned (.bool (kw s.data.toList)) ∧ w = w' := by
  go_enter Tryz.func53, Tryz.ntmps53
  go_wp2
  all_goals
    go_ret
    exact ⟨ret_bool (by rw [← ByteArray.toList_eq]; unfold kw; simp_all), rfl⟩
theorem isKeywordR_any (s : ByteArray) (w : World) : Calls Tryz.prog 77 #[.string s] w fun e w' => e = .returned (.bool (kw s.data.toList)) ∧ w = w' := by
  go_enter Tryz.func77, Tryz.ntmps77
  go_wp2
  all_goals
    go_ret
    exact ⟨ret_bool (by rw [← ByteArray.toList_eq]; unfold kw; simp_all), rfl⟩

theorem bt_at (s : ByteArray) (k : Nat) (hk : k < s.size) : bt s.data.toList k = s[k] := by
  unfold bt
  have h : k < s.data.toList.length := by rw [← size_len]; exact hk
  rw [List.getElem?_eq_getElem h]; rfl

theorem scan_step (p : Nat → Bool) (l k : Nat) (hk : k < l) : scan p (l - k) k = if p k then scan p (l - (k + 1)) (k + 1) else k := by
  rw [show l - k = (l - (k + 1)) + 1 by omega]; rfl

set_option maxHeartbeats 1600000 in
theorem word_any (s : ByteArray) (hs : s.size ≤ 9223372036854775807) (w : World) :
    Calls Tryz.prog 52 #[.string s] w fun e w' => e = .returned (.int .i64 (wordN s.data.toList)) ∧ w = w' := by
  obtain ⟨N, hN⟩ : ∃ N, N = wordN s.data.toList := ⟨_, rfl⟩
  have HN : Hid (N = scan (okW s.data.toList) (s.size - 0) 0) := Lib.hid (by rw [hN]; unfold wordN; rw [← size_len]; rfl)
  rw [← hN]; clear hN
  go_enter Tryz.func52, Tryz.ntmps52
  go_wp2_with fail
  go_loop [3] (fun n => ∃ k : Nat, k ≤ s.size ∧ Hid (N = scan (okW s.data.toList) (s.size - k) k) ∧ n = .int .i64 k) (fun n => s.size - (RowKit.intOf n).toNat)
  case atStart => exact ⟨0, by omega, HN, rfl⟩
  case round =>
    obtain ⟨k, hk, ha, rfl⟩ := hrel
    clear HN
    by_cases hlt : k < s.size
    · have hst := ha.out
      rw [scan_step _ _ _ hlt] at hst
      have hok : okW s.data.toList k = (isL s[k] || (decide (0 < k) && isD s[k])) := by unfold okW; rw [bt_at s k hlt]
      rw [hok] at hst
      have HS := Lib.hid hst; clear hst hok ha
      by_cases c1 : isL s[k] = true
      · have HF : Hid (N = scan (okW s.data.toList) (s.size - (k + 1)) (k + 1)) := Lib.hid (by rw [HS.out, c1]; rfl)
        clear HS
        go_wp2_with fail
        refine (letter_any s[k] _).mono ?_
        rintro e w1 ⟨rfl, rfl⟩
        go_wp2
        go_round
        case rel => exact ⟨k + 1, by omega, HF, by go_num⟩
        case measure => simp [RowKit.intOf]; omega
      · have c1' : isL s[k] = false := by simpa using c1
        clear c1
        by_cases c2 : 0 < k
        · by_cases c3 : isD s[k] = true
          · have HF : Hid (N = scan (okW s.data.toList) (s.size - (k + 1)) (k + 1)) := Lib.hid (by rw [HS.out, c1', c3]; simp [c2])
            clear HS
            go_wp2_with fail
            refine (letter_any s[k] _).mono ?_
            rintro e w1 ⟨rfl, rfl⟩
            go_wp2_with fail
            refine (digit_any s[k] _).mono ?_
            rintro e w1 ⟨rfl, rfl⟩
            go_wp2
            go_round
            case rel => exact ⟨k + 1, by omega, HF, by go_num⟩
            case measure => simp [RowKit.intOf]; omega
          · have c3' : isD s[k] = false := by simpa using c3
            have HF : Hid (N = k) := Lib.hid (by rw [HS.out, c1', c3']; simp)
            clear HS c3
            go_wp2_with fail
            refine (letter_any s[k] _).mono ?_
            rintro e w1 ⟨rfl, rfl⟩
            go_wp2_with fail
            refine (digit_any s[k] _).mono ?_
            rintro e w1 ⟨rfl, rfl⟩
            go_wp2
            go_ret
            exact ⟨ret_int (by rw [HF.out]), rfl⟩
        · have HF : Hid (N = k) := Lib.hid (by rw [HS.out, c1']; simp [c2])
          clear HS
          go_wp2_with fail
          refine (letter_any s[k] _).mono ?_
          rintro e w1 ⟨rfl, rfl⟩
          go_wp2
          go_ret
          exact ⟨ret_int (by rw [HF.out]), rfl⟩
    · have HF : Hid (N = k) := Lib.hid (by rw [ha.out, show s.size - k = 0 by omega]; rfl)
      clear ha
      go_wp2
      go_ret
      exact ⟨ret_int (by rw [HF.out]), rfl⟩
set_option maxHeartbeats 1600000 in
theorem wordR_any (s : ByteArray) (hs : s.size ≤ 9223372036854775807) (w : World) :
    Calls Tryz.prog 76 #[.string s] w fun e w' => e = .returned (.int .i64 (wordN s.data.toList)) ∧ w = w' := by
  obtain ⟨N, hN⟩ : ∃ N, N = wordN s.data.toList := ⟨_, rfl⟩
  have HN : Hid (N = scan (okW s.data.toList) (s.size - 0) 0) := Lib.hid (by rw [hN]; unfold wordN; rw [← size_len]; rfl)
  rw [← hN]; clear hN
  go_enter Tryz.func76, Tryz.ntmps76
  go_wp2_with fail
  go_loop [3] (fun n => ∃ k : Nat, k ≤ s.size ∧ Hid (N = scan (okW s.data.toList) (s.size - k) k) ∧ n = .int .i64 k) (fun n => s.size - (RowKit.intOf n).toNat)
  case atStart => exact ⟨0, by omega, HN, rfl⟩
  case round =>
    obtain ⟨k, hk, ha, rfl⟩ := hrel
    clear HN
    by_cases hlt : k < s.size
    · have hst := ha.out
      rw [scan_step _ _ _ hlt] at hst
      have hok : okW s.data.toList k = (isL s[k] || (decide (0 < k) && isD s[k])) := by unfold okW; rw [bt_at s k hlt]
      rw [hok] at hst
      have HS := Lib.hid hst; clear hst hok ha
      by_cases c1 : isL s[k] = true
      · have HF : Hid (N = scan (okW s.data.toList) (s.size - (k + 1)) (k + 1)) := Lib.hid (by rw [HS.out, c1]; rfl)
        clear HS
        go_wp2_with fail
        refine (letterR_any s[k] _).mono ?_
        rintro e w1 ⟨rfl, rfl⟩
        go_wp2
        go_round
        case rel => exact ⟨k + 1, by omega, HF, by go_num⟩
        case measure => simp [RowKit.intOf]; omega
      · have c1' : isL s[k] = false := by simpa using c1
        clear c1
        by_cases c2 : 0 < k
        · by_cases c3 : isD s[k] = true
          · have HF : Hid (N = scan (okW s.data.toList) (s.size - (k + 1)) (k + 1)) := Lib.hid (by rw [HS.out, c1', c3]; simp [c2])
            clear HS
            go_wp2_with fail
            refine (letterR_any s[k] _).mono ?_
            rintro e w1 ⟨rfl, rfl⟩
            go_wp2_with fail
            refine (digitR_any s[k] _).mono ?_
            rintro e w1 ⟨rfl, rfl⟩
            go_wp2
            go_round
            case rel => exact ⟨k + 1, by omega, HF, by go_num⟩
            case measure => simp [RowKit.intOf]; omega
          · have c3' : isD s[k] = false := by simpa using c3
            have HF : Hid (N = k) := Lib.hid (by rw [HS.out, c1', c3']; simp)
            clear HS c3
            go_wp2_with fail
            refine (letterR_any s[k] _).mono ?_
            rintro e w1 ⟨rfl, rfl⟩
            go_wp2_with fail
            refine (digitR_any s[k] _).mono ?_
            rintro e w1 ⟨rfl, rfl⟩
            go_wp2
            go_ret
            exact ⟨ret_int (by rw [HF.out]), rfl⟩
        · have HF : Hid (N = k) := Lib.hid (by rw [HS.out, c1']; simp [c2])
          clear HS
          go_wp2_with fail
          refine (letterR_any s[k] _).mono ?_
          rintro e w1 ⟨rfl, rfl⟩
          go_wp2
          go_ret
          exact ⟨ret_int (by rw [HF.out]), rfl⟩
    · have HF : Hid (N = k) := Lib.hid (by rw [ha.out, show s.size - k = 0 by omega]; rfl)
      clear ha
      go_wp2
      go_ret
      exact ⟨ret_int (by rw [HF.out]), rfl⟩
theorem isName_any (s : ByteArray) (hs : s.size ≤ 9223372036854775807) (w : World) : Calls Tryz.prog 37 #[.string s] w fun e w' => e = .returned (.bool (nameB s.data.toList)) ∧ w = w' := by
  have hsz := size_len s
  rcases Nat.eq_zero_or_pos s.size with h0 | h0
  · obtain ⟨e1, e2, e3⟩ := tl_nil s h0
    go_enter Tryz.func37, Tryz.ntmps37
    go_wp2
    go_ret
    exact ⟨ret_bool (by rw [e3]; rfl), rfl⟩
  · obtain ⟨e1, e2, e3⟩ := tl_cons s h0
    have HB : Hid (nameB s.data.toList = (decide (s.size ≤ 16) && decide (wordN s.data.toList = s.size) && !kw s.data.toList)) := Lib.hid (by have e4 := e2; rw [ByteArray.toList_eq] at e4; unfold nameB; rw [← hsz, e4]; rfl)
    clear hsz e3
    generalize nameB s.data.toList = NB at HB ⊢
    go_enter Tryz.func37, Tryz.ntmps37
    go_wp2_with (first | (go_at_call 52; refine (word_any s hs _).mono ?_; rintro e w1 ⟨rfl, rfl⟩) | (go_at_call 53; refine (isKeyword_any s _).mono ?_; rintro e w1 ⟨rfl, rfl⟩))
    all_goals
      go_ret
      refine ⟨ret_bool ?_, rfl⟩
      rw [HB.out]
      first
        | (rw [decide_eq_true (show s.size ≤ 16 by omega), decide_eq_true (show wordN s.data.toList = s.size by omega)]; rfl)
        | (rw [decide_eq_false (show ¬ wordN s.data.toList = s.size by omega)]; simp)
        | (rw [decide_eq_false (show ¬ s.size ≤ 16 by omega)]; simp)
theorem isNameR_any (s : ByteArray) (hs : s.size ≤ 9223372036854775807) (w : World) : Calls Tryz.prog 59 #[.string s] w fun e w' => e = .returned (.bool (nameB s.data.toList)) ∧ w = w' := by
  have hsz := size_len s
  rcases Nat.eq_zero_or_pos s.size with h0 | h0
  · obtain ⟨e1, e2, e3⟩ := tl_nil s h0
    go_enter Tryz.func59, Tryz.ntmps59
    go_wp2
    go_ret
    exact ⟨ret_bool (by rw [e3]; rfl), rfl⟩
  · obtain ⟨e1, e2, e3⟩ := tl_cons s h0
    have HB : Hid (nameB s.data.toList = (decide (s.size ≤ 16) && decide (wordN s.data.toList = s.size) && !kw s.data.toList)) := Lib.hid (by have e4 := e2; rw [ByteArray.toList_eq] at e4; unfold nameB; rw [← hsz, e4]; rfl)
    clear hsz e3
    generalize nameB s.data.toList = NB at HB ⊢
    go_enter Tryz.func59, Tryz.ntmps59
    go_wp2_with (first | (go_at_call 76; refine (wordR_any s hs _).mono ?_; rintro e w1 ⟨rfl, rfl⟩) | (go_at_call 77; refine (isKeywordR_any s _).mono ?_; rintro e w1 ⟨rfl, rfl⟩))
    all_goals
      go_ret
      refine ⟨ret_bool ?_, rfl⟩
      rw [HB.out]
      first
        | (rw [decide_eq_true (show s.size ≤ 16 by omega), decide_eq_true (show wordN s.data.toList = s.size by omega)]; rfl)
        | (rw [decide_eq_false (show ¬ wordN s.data.toList = s.size by omega)]; simp)
        | (rw [decide_eq_false (show ¬ s.size ≤ 16 by omega)]; simp)
end Go.Proofs.YtmallladeidkpaaGreatDoor.Lx

/- What the lexer's contents returns: the contents of a string behind its mark, for every text. -/
namespace Go.Proofs.YtmallladeidkpaaGreatDoor.Lx
open Go.RowKit Go.Sort Go.Lib Go.Shelf Fx

theorem drop_at (s : ByteArray) (k : Nat) (hk : k < s.size) : s.data.toList.drop k = s[k] :: s.data.toList.drop (k + 1) := by
  have h : k < s.data.toList.length := by rw [← size_len]; exact hk
  rw [List.drop_eq_getElem_cons h]; rfl
theorem drop_end (s : ByteArray) (k : Nat) (hk : ¬ k < s.size) : s.data.toList.drop k = [] := by
  rw [List.drop_eq_nil_iff, ← size_len]; omega

/-- One byte of a string. -/
theorem cont_ways (esc : Bool) (acc : List UInt8) (i : Nat) (c : UInt8) (r : List UInt8) (T : List UInt8 × Nat × Int) (h : T = contents esc acc i (c :: r)) :
    (c.toNat = 10 ∧ Hid (T = ([], 0, 3))) ∨
    (c.toNat ≠ 10 ∧ 126 < c.toNat ∧ Hid (T = ([], 0, 4))) ∨
    (c.toNat ≠ 10 ∧ c.toNat < 32 ∧ Hid (T = ([], 0, 4))) ∨
    (esc = true ∧ 32 ≤ c.toNat ∧ c.toNat ≤ 126 ∧ c.toNat ≠ 34 ∧ c.toNat ≠ 92 ∧ Hid (T = ([], 0, 4))) ∨
    (esc = false ∧ c.toNat = 34 ∧ Hid (T = (acc, i + 1, 0))) ∨
    (esc = false ∧ c.toNat = 92 ∧ Hid (T = contents true acc (i + 1) r)) ∨
    (32 ≤ c.toNat ∧ c.toNat ≤ 126 ∧ (esc = true → c.toNat = 34 ∨ c.toNat = 92) ∧ (esc = false → c.toNat ≠ 34 ∧ c.toNat ≠ 92) ∧ 32 < acc.length + 1 ∧ Hid (T = ([], 0, 2))) ∨
    (32 ≤ c.toNat ∧ c.toNat ≤ 126 ∧ (esc = true → c.toNat = 34 ∨ c.toNat = 92) ∧ (esc = false → c.toNat ≠ 34 ∧ c.toNat ≠ 92) ∧ acc.length + 1 ≤ 32 ∧ Hid (T = contents false (acc ++ [c]) (i + 1) r)) := by
  unfold contents at h
  by_cases h1 : c.toNat = 10
  · rw [if_pos h1] at h; exact .inl ⟨h1, Lib.hid h⟩
  rw [if_neg h1] at h
  by_cases h2 : 126 < c.toNat
  · rw [if_pos (by simp [h2])] at h; exact .inr (.inl ⟨h1, h2, Lib.hid h⟩)
  by_cases h3 : c.toNat < 32
  · rw [if_pos (by simp [h3])] at h; exact .inr (.inr (.inl ⟨h1, h3, Lib.hid h⟩))
  have k2 : decide (c.toNat < 32) = false := by simp; omega
  have k3 : decide (126 < c.toNat) = false := by simp; omega
  rw [k2, k3] at h
  cases esc
  · simp only [Bool.false_and, Bool.or_false, Bool.false_eq_true, if_false, Bool.not_false, Bool.true_and] at h
    by_cases h4 : c.toNat = 34
    · rw [if_pos (by simp [h4])] at h; exact .inr (.inr (.inr (.inr (.inl ⟨rfl, h4, Lib.hid h⟩))))
    rw [if_neg (by simp [h4])] at h
    by_cases h5 : c.toNat = 92
    · rw [if_pos (by simp [h5])] at h; exact .inr (.inr (.inr (.inr (.inr (.inl ⟨rfl, h5, Lib.hid h⟩)))))
    rw [if_neg (by simp [h5])] at h
    by_cases h6 : 32 < acc.length + 1
    · rw [if_pos h6] at h; exact .inr (.inr (.inr (.inr (.inr (.inr (.inl ⟨by omega, by omega, fun x => by simp at x, fun _ => ⟨h4, h5⟩, h6, Lib.hid h⟩))))))
    · rw [if_neg h6] at h; exact .inr (.inr (.inr (.inr (.inr (.inr (.inr ⟨by omega, by omega, fun x => by simp at x, fun _ => ⟨h4, h5⟩, by omega, Lib.hid h⟩))))))
  · simp only [Bool.true_and, Bool.or_false, Bool.not_true, Bool.false_and, Bool.false_eq_true, if_false] at h
    by_cases h4 : c.toNat = 34
    · rw [if_neg (by simp [h4])] at h
      by_cases h6 : 32 < acc.length + 1
      · rw [if_pos h6] at h; exact .inr (.inr (.inr (.inr (.inr (.inr (.inl ⟨by omega, by omega, fun _ => .inl h4, fun x => by simp at x, h6, Lib.hid h⟩))))))
      · rw [if_neg h6] at h; exact .inr (.inr (.inr (.inr (.inr (.inr (.inr ⟨by omega, by omega, fun _ => .inl h4, fun x => by simp at x, by omega, Lib.hid h⟩))))))
    by_cases h5 : c.toNat = 92
    · rw [if_neg (by simp [h5])] at h
      by_cases h6 : 32 < acc.length + 1
      · rw [if_pos h6] at h; exact .inr (.inr (.inr (.inr (.inr (.inr (.inl ⟨by omega, by omega, fun _ => .inr h5, fun x => by simp at x, h6, Lib.hid h⟩))))))
      · rw [if_neg h6] at h; exact .inr (.inr (.inr (.inr (.inr (.inr (.inr ⟨by omega, by omega, fun _ => .inr h5, fun x => by simp at x, by omega, Lib.hid h⟩))))))
    rw [if_pos (by simp [h4, h5])] at h
    exact .inr (.inr (.inr (.inl ⟨rfl, by omega, by omega, h4, h5, Lib.hid h⟩)))

theorem ne_facts {x k : Int} (h : x ≠ k) : (x == k) = false ∧ (x != k) = true := by
  have : (x == k) = false := by rw [beq_eq_false_iff_ne]; exact h
  exact ⟨this, by rw [bne, this]; rfl⟩
theorem eq_facts {x k : Int} (h : x = k) : (x == k) = true ∧ (x != k) = false := by
  have : (x == k) = true := by rw [beq_iff_eq]; exact h
  exact ⟨this, by rw [bne, this]; rfl⟩

/-- The three results. -/
def contV (T : List UInt8 × Nat × Int) : Value := .tuple #[.string ⟨T.1.toArray⟩, .int .i64 T.2.1, .int .i64 T.2.2]

set_option maxHeartbeats 8000000 in
set_option maxRecDepth 1000000 in
theorem contents_any (s : ByteArray) (hs : s.size ≤ 35184372088832) (w : World) :
    Calls Tryz.prog 66 #[.string s] w fun e w' => e = .returned (contV (contents false [] 0 s.data.toList)) ∧ Ext w w' := by
  obtain ⟨T, hT⟩ : ∃ T, T = contents false [] 0 s.data.toList := ⟨_, rfl⟩
  have HT : Hid (T = contents false [] 0 (s.data.toList.drop 0)) := Lib.hid (by rw [hT]; rfl)
  rw [← hT]; clear hT
  go_enter Tryz.func66, Tryz.ntmps66
  go_wp2
  go_loopw [6] (fun esc wr => ∃ (pos : Nat) (b : Bool) (acc : List UInt8), esc = .bool b ∧ Lib.IsBuilderF 122 5 w.heap.size w.heap.size (Lib.byteCells acc) wr ∧ wr.heap[w.heap.size + 1]? = some (.stringIter s pos) ∧ Below w.heap.size w wr ∧ Hid (T = contents b acc pos (s.data.toList.drop pos)) ∧ acc.length ≤ 32) (fun _ wr => s.size - wr.iterPos (w.heap.size + 1))
  case atStart =>
    refine ⟨0, false, [], rfl, (Lib.IsBuilderF.of (Lib.fresh_isBuilder 122 5 w)).alloc _, ?_, ((Below.refl _ w).alloc (Nat.le_refl _) _).alloc (by simp) _, HT, by simp⟩
    have := World.iter_heap (w.alloc (.cells #[.pointer none, .slice none 0 0] 122)) s 0
    simpa using this
  case round =>
    obtain ⟨pos, b, acc, rfl, hI, hit, hbw, hacc, hal⟩ := hrel
    clear HT
    have hsz : w.heap.size + 1 < wr.heap.size := (Array.getElem?_eq_some_iff.1 hit).1
    by_cases hp : pos < s.size
    · have hst := hacc.out
      rw [drop_at s pos hp] at hst
      have hw := cont_ways b acc pos s[pos] _ T hst
      clear hst hacc
      by_cases ha : s[pos].toNat < 128
      · have hnx : ∀ ty, (Instr.next (.pointer (some ⟨w.heap.size + 1, 0, none⟩)) true ty).run Tryz.prog wr = _ := fun ty => Lib.run_next_ascii_at wr (w.heap.size + 1) s pos ty hit hp ha
        have hI2 := hI.iterAt hit (pos + 1)
        have hit2 := Lib.iterAt_heap wr (w.heap.size + 1) s pos (pos + 1) hit
        have hbw2 := Lib.below_iterAt hbw (k := w.heap.size + 1) (by omega) s (pos + 1)
        have hsz2 : w.heap.size ≤ (wr.iterAt (w.heap.size + 1) s (pos + 1)).heap.size := by rw [Lib.iterAt_size]; omega
        rcases hw with ⟨c1, hf⟩ | ⟨c1, c2, hf⟩ | ⟨c1, c2, hf⟩ | ⟨rfl, c1, c2, c3, c4, hf⟩ | ⟨rfl, c1, hf⟩ | ⟨rfl, c1, hf⟩ | ⟨c1, c2, c3, c4, c5, hf⟩ | ⟨c1, c2, c3, c4, c5, hf⟩
        · go_wp2
          go_returns
          refine ⟨ret_val ?_, hbw2⟩
          rw [hf.out]; rfl
        · obtain ⟨f1, _⟩ := ne_facts (x := (s[pos].toNat : Int)) (k := 10) (by omega)
          obtain ⟨f2, f3⟩ := ne_facts (x := (s[pos].toNat : Int)) (k := 34) (by omega)
          obtain ⟨f4, f5⟩ := ne_facts (x := (s[pos].toNat : Int)) (k := 92) (by omega)
          have f6 : (126 : Int) < (s[pos].toNat : Int) := by omega
          cases b <;> (go_wp2; go_returns; exact ⟨ret_val (by rw [hf.out]; rfl), hbw2⟩)
        · obtain ⟨f1, _⟩ := ne_facts (x := (s[pos].toNat : Int)) (k := 10) (by omega)
          obtain ⟨f2, f3⟩ := ne_facts (x := (s[pos].toNat : Int)) (k := 34) (by omega)
          obtain ⟨f4, f5⟩ := ne_facts (x := (s[pos].toNat : Int)) (k := 92) (by omega)
          have f6 : (s[pos].toNat : Int) < 32 := by omega
          cases b <;> (go_wp2; go_returns; exact ⟨ret_val (by rw [hf.out]; rfl), hbw2⟩)
        · obtain ⟨f1, _⟩ := ne_facts (x := (s[pos].toNat : Int)) (k := 10) (by omega)
          obtain ⟨f2, f3⟩ := ne_facts (x := (s[pos].toNat : Int)) (k := 34) (by omega)
          obtain ⟨f4, f5⟩ := ne_facts (x := (s[pos].toNat : Int)) (k := 92) (by omega)
          go_wp2
          go_returns
          exact ⟨ret_val (by rw [hf.out]; rfl), hbw2⟩
        · go_wp2_with (go_at_call 84; refine (Tryz.Builder_String_any_k w.heap.size w.heap.size acc _ hI2 hsz2).mono ?_)
          rintro e W1 ⟨rfl, _, b1, _⟩
          go_wp2
          go_returns
          exact ⟨ret_val (by rw [hf.out]; rfl), hbw2.trans b1⟩
        · go_wp2
          go_roundw
          case rel => exact ⟨pos + 1, true, acc, rfl, hI2, hit2, hbw2, hf, hal⟩
          case measure =>
            simp only [World.iterPos, hit2, hit]
            omega
        · have g1 : (32 : Int) ≤ (s[pos].toNat : Int) := by omega
          have g2 : (s[pos].toNat : Int) ≤ 126 := by omega
          have g3 : (32 : Int) < ((acc.length + 1 : Nat) : Int) := by omega
          obtain ⟨f1, _⟩ := ne_facts (x := (s[pos].toNat : Int)) (k := 10) (by omega)
          cases b
          · obtain ⟨k1, k2⟩ := c4 rfl
            obtain ⟨f2, f3⟩ := ne_facts (x := (s[pos].toNat : Int)) (k := 34) (by omega)
            obtain ⟨f4, f5⟩ := ne_facts (x := (s[pos].toNat : Int)) (k := 92) (by omega)
            clear c3 c4 k1 k2
            go_wp2_with (go_at_call 85; refine (writeByte_any w.heap.size w.heap.size _ s[pos].toNat _ hI2 (by rw [Lib.byteCells_length]; omega) hsz2).mono ?_)
            rintro e W1 ⟨rfl, h1, b1, k1⟩
            go_wp2_with (go_at_call 86; refine (Tryz.Builder_Len_f w.heap.size w.heap.size _ _ h1).mono ?_)
            rintro e W2 ⟨rfl, rfl⟩
            rw [show ((Lib.byteCells acc ++ [Value.int .u8 s[pos].toNat]).length : Int) = ((acc.length + 1 : Nat) : Int) by simp [Lib.byteCells_length]]
            go_wp2
            go_returns
            exact ⟨ret_val (by rw [hf.out]; rfl), hbw2.trans b1⟩
          · obtain ⟨k2, k3⟩ : (((s[pos].toNat : Int) != 34) = false ∨ ((s[pos].toNat : Int) != 34) = true ∧ ((s[pos].toNat : Int) != 92) = false) ∧ True := by
              rcases c3 rfl with k1 | k1
              · exact ⟨.inl (eq_facts (by omega)).2, trivial⟩
              · exact ⟨.inr ⟨(ne_facts (by omega)).2, (eq_facts (by omega)).2⟩, trivial⟩
            clear c3 c4 k3
            rcases k2 with k2 | ⟨k2, k3⟩
            all_goals
              go_wp2_with (go_at_call 85; refine (writeByte_any w.heap.size w.heap.size _ s[pos].toNat _ hI2 (by rw [Lib.byteCells_length]; omega) hsz2).mono ?_)
              rintro e W1 ⟨rfl, h1, b1, k1⟩
              go_wp2_with (go_at_call 86; refine (Tryz.Builder_Len_f w.heap.size w.heap.size _ _ h1).mono ?_)
              rintro e W2 ⟨rfl, rfl⟩
              rw [show ((Lib.byteCells acc ++ [Value.int .u8 s[pos].toNat]).length : Int) = ((acc.length + 1 : Nat) : Int) by simp [Lib.byteCells_length]]
              go_wp2
              go_returns
              exact ⟨ret_val (by rw [hf.out]; rfl), hbw2.trans b1⟩
        · have g1 : (32 : Int) ≤ (s[pos].toNat : Int) := by omega
          have g2 : (s[pos].toNat : Int) ≤ 126 := by omega
          have g3 : ((acc.length + 1 : Nat) : Int) ≤ 32 := by omega
          obtain ⟨f1, _⟩ := ne_facts (x := (s[pos].toNat : Int)) (k := 10) (by omega)
          cases b
          · obtain ⟨k1, k2⟩ := c4 rfl
            obtain ⟨f2, f3⟩ := ne_facts (x := (s[pos].toNat : Int)) (k := 34) (by omega)
            obtain ⟨f4, f5⟩ := ne_facts (x := (s[pos].toNat : Int)) (k := 92) (by omega)
            clear c3 c4 k1 k2
            go_wp2_with (go_at_call 85; refine (writeByte_any w.heap.size w.heap.size _ s[pos].toNat _ hI2 (by rw [Lib.byteCells_length]; omega) hsz2).mono ?_)
            rintro e W1 ⟨rfl, h1, b1, k1⟩
            go_wp2_with (go_at_call 86; refine (Tryz.Builder_Len_f w.heap.size w.heap.size _ _ h1).mono ?_)
            rintro e W2 ⟨rfl, rfl⟩
            rw [show ((Lib.byteCells acc ++ [Value.int .u8 s[pos].toNat]).length : Int) = ((acc.length + 1 : Nat) : Int) by simp [Lib.byteCells_length]]
            go_wp2
            go_roundw
            case rel =>
              refine ⟨pos + 1, false, acc ++ [s[pos]], rfl, ?_, k1.iter hit2 (by omega), hbw2.trans b1, hf, by simp; omega⟩
              rw [Lib.byteCells_append]; exact h1
            case measure =>
              simp only [World.iterPos, k1.iter hit2 (by omega), hit]
              omega
          · obtain ⟨k2, k3⟩ : (((s[pos].toNat : Int) != 34) = false ∨ ((s[pos].toNat : Int) != 34) = true ∧ ((s[pos].toNat : Int) != 92) = false) ∧ True := by
              rcases c3 rfl with k1 | k1
              · exact ⟨.inl (eq_facts (by omega)).2, trivial⟩
              · exact ⟨.inr ⟨(ne_facts (by omega)).2, (eq_facts (by omega)).2⟩, trivial⟩
            clear c3 c4 k3
            rcases k2 with k2 | ⟨k2, k3⟩
            all_goals
              go_wp2_with (go_at_call 85; refine (writeByte_any w.heap.size w.heap.size _ s[pos].toNat _ hI2 (by rw [Lib.byteCells_length]; omega) hsz2).mono ?_)
              rintro e W1 ⟨rfl, h1, b1, k1⟩
              go_wp2_with (go_at_call 86; refine (Tryz.Builder_Len_f w.heap.size w.heap.size _ _ h1).mono ?_)
              rintro e W2 ⟨rfl, rfl⟩
              rw [show ((Lib.byteCells acc ++ [Value.int .u8 s[pos].toNat]).length : Int) = ((acc.length + 1 : Nat) : Int) by simp [Lib.byteCells_length]]
              go_wp2
              go_roundw
              case rel =>
                refine ⟨pos + 1, false, acc ++ [s[pos]], rfl, ?_, k1.iter hit2 (by omega), hbw2.trans b1, hf, by simp; omega⟩
                rw [Lib.byteCells_append]; exact h1
              case measure =>
                simp only [World.iterPos, k1.iter hit2 (by omega), hit]
                omega
      · have hh := decode_high s pos hp (by omega)
        have hd1 := decode_le s pos
        have hnx : ∀ ty, (Instr.next (.pointer (some ⟨w.heap.size + 1, 0, none⟩)) true ty).run Tryz.prog wr = _ := fun ty => Lib.run_next_any_at wr (w.heap.size + 1) s pos ty hit hp
        have hbw2 := Lib.below_iterAt hbw (k := w.heap.size + 1) (by omega) s (pos + (Utf8.decode s pos).2)
        have hf : Hid (T = ([], 0, 4)) := by
          rcases hw with ⟨c1, hf⟩ | ⟨c1, c2, hf⟩ | ⟨c1, c2, hf⟩ | ⟨_, c1, c2, c3, c4, hf⟩ | ⟨_, c1, hf⟩ | ⟨_, c1, hf⟩ | ⟨c1, c2, c3, c4, c5, hf⟩ | ⟨c1, c2, c3, c4, c5, hf⟩
          all_goals first | exact hf | (exfalso; omega)
        clear hw
        generalize (Utf8.decode s pos).1 = dr at hnx hh hd1
        generalize (Utf8.decode s pos).2 = dw at hnx hh hbw2
        obtain ⟨hh1, hh2⟩ := hh
        obtain ⟨f1, _⟩ := ne_facts (x := (dr : Int)) (k := 10) (by omega)
        obtain ⟨f2, f3⟩ := ne_facts (x := (dr : Int)) (k := 34) (by omega)
        obtain ⟨f4, f5⟩ := ne_facts (x := (dr : Int)) (k := 92) (by omega)
        have f6 : (126 : Int) < (dr : Int) := by omega
        have f7 : (32 : Int) ≤ (dr : Int) := by omega
        cases b <;> (go_wp2; go_returns; exact ⟨ret_val (by rw [hf.out]; rfl), hbw2⟩)
    · have hnx : ∀ ty, (Instr.next (.pointer (some ⟨w.heap.size + 1, 0, none⟩)) true ty).run Tryz.prog wr = _ := fun ty => Lib.run_next_end_at wr (w.heap.size + 1) s pos ty hit hp
      have hf : Hid (T = ([], 0, 3)) := Lib.hid (by rw [hacc.out, drop_end s pos hp]; rfl)
      clear hacc
      go_wp2
      go_returns
      exact ⟨ret_val (by rw [hf.out]; rfl), hbw⟩
end Go.Proofs.YtmallladeidkpaaGreatDoor.Lx

/- What the lexer's next returns: the token at the head of a text, its length, the error. -/
namespace Go.Proofs.YtmallladeidkpaaGreatDoor.Lx
open Go.RowKit Go.Sort Go.Lib Go.Shelf Fx

theorem cells4 {w : World} {B : Nat} {a b c d : Value} {T : TypeId} (h : w.heap[B]? = some (.cells #[a, b, c, d] T (0, 0))) :
    (w.cell? ⟨B, 0, none⟩ = some a ∧ w.cell? ⟨B, 1, none⟩ = some b ∧ w.cell? ⟨B, 2, none⟩ = some c ∧ w.cell? ⟨B, 3, none⟩ = some d) ∧
    (w.frozen? ⟨B, 0, none⟩ = false ∧ w.frozen? ⟨B, 1, none⟩ = false ∧ w.frozen? ⟨B, 2, none⟩ = false ∧ w.frozen? ⟨B, 3, none⟩ = false) :=
  ⟨⟨by rw [Lib.cell_of_heap h]; rfl, by rw [Lib.cell_of_heap h]; rfl, by rw [Lib.cell_of_heap h]; rfl, by rw [Lib.cell_of_heap h]; rfl⟩,
   Lib.frozen_of_heap h 0, Lib.frozen_of_heap h 1, Lib.frozen_of_heap h 2, Lib.frozen_of_heap h 3⟩
theorem set1 {w : World} {B : Nat} {cs : Array Value} {T : TypeId} (h : w.heap[B]? = some (.cells cs T (0, 0))) (i : Nat) (v : Value) :
    (w.setCell ⟨B, i, none⟩ v).heap[B]? = some (.cells (cs.setIfInBounds i v) T (0, 0)) := by
  unfold World.setCell
  simp [Array.getElem?_modify, h]
theorem set4 {w : World} {B : Nat} {a b c d : Value} {T : TypeId} (h : w.heap[B]? = some (.cells #[a, b, c, d] T (0, 0))) (a' b' c' d' : Value) :
    ((((w.setCell ⟨B, 0, none⟩ a').setCell ⟨B, 1, none⟩ b').setCell ⟨B, 2, none⟩ c').setCell ⟨B, 3, none⟩ d').heap[B]? = some (.cells #[a', b', c', d'] T (0, 0)) :=
  set1 (set1 (set1 (set1 h 0 a') 1 b') 2 c') 3 d'
theorem set4r {w : World} {B : Nat} {a b c d : Value} {T : TypeId} (h : w.heap[B]? = some (.cells #[a, b, c, d] T (0, 0))) (a' b' c' d' : Value) :
    (w.setCell ⟨B, 0, none⟩ a').cell? ⟨B, 0, none⟩ = some a' ∧ ((w.setCell ⟨B, 0, none⟩ a').setCell ⟨B, 1, none⟩ b').cell? ⟨B, 1, none⟩ = some b' ∧
    (((w.setCell ⟨B, 0, none⟩ a').setCell ⟨B, 1, none⟩ b').setCell ⟨B, 2, none⟩ c').cell? ⟨B, 2, none⟩ = some c' ∧
    ((((w.setCell ⟨B, 0, none⟩ a').setCell ⟨B, 1, none⟩ b').setCell ⟨B, 2, none⟩ c').setCell ⟨B, 3, none⟩ d').cell? ⟨B, 3, none⟩ = some d' :=
  ⟨by rw [Lib.cell_of_heap (set1 h 0 a')]; rfl, by rw [Lib.cell_of_heap (set1 (set1 h 0 a') 1 b')]; rfl,
   by rw [Lib.cell_of_heap (set1 (set1 (set1 h 0 a') 1 b') 2 c')]; rfl, by rw [Lib.cell_of_heap (set1 (set1 (set1 (set1 h 0 a') 1 b') 2 c') 3 d')]; rfl⟩
theorem kept_alloc {w w1 : World} {o : Obj} (x : Ext (w.alloc o) w1) : w1.heap[w.heap.size]? = some o := by
  have := x.block w.heap.size (by simp)
  rw [this]; exact heap_alloc_new w o

theorem ext_set4 {a w : World} {B : Nat} (h : Ext a w) (hb : a.heap.size ≤ B) (v0 v1 v2 v3 : Value) :
    Ext a ((((w.setCell ⟨B, 0, none⟩ v0).setCell ⟨B, 1, none⟩ v1).setCell ⟨B, 2, none⟩ v2).setCell ⟨B, 3, none⟩ v3) :=
  (((h.setCell (p := ⟨B, 0, none⟩) hb v0).setCell (p := ⟨B, 1, none⟩) hb v1).setCell (p := ⟨B, 2, none⟩) hb v2).setCell (p := ⟨B, 3, none⟩) hb v3

def tokV (t : Tok) : Value := .agg #[.int .i64 t.kind, .string ⟨t.text.toArray⟩, .int .i64 t.n, .int .i64 t.line]
def nextV (x : Tok × Nat × Int) : Value := .tuple #[tokV x.1, .int .i64 x.2.1, .int .i64 x.2.2]

set_option maxHeartbeats 4000000 in
theorem next_word (s : ByteArray) (w : World) (h0 : 0 < s.size) (hs : s.size ≤ 16384) (hn : 0 < wordN s.data.toList) :
    Calls Tryz.prog 48 #[.string s] w fun e w' => e = .returned (nextV (next s.data.toList)) ∧ Ext w w' := by
  obtain ⟨n, hN⟩ : ∃ n, n = wordN s.data.toList := ⟨_, rfl⟩
  have hle : n ≤ s.size := by rw [hN, size_len]; have := scan_le (okW s.data.toList) s.data.toList.length 0; unfold wordN; omega
  have hx : next s.data.toList = if kw (s.extract 0 n).data.toList then (⟨2, s.data.toList.take n, 0, 0⟩, n, 0) else if 16 < n then (⟨0, [], 0, 0⟩, 0, 2) else (⟨1, s.data.toList.take n, 0, 0⟩, n, 0) := by
    unfold next; rw [if_pos hn, ← hN, extract_upto]
  have hw := word_any s (by omega)
  rw [← hN] at hw hn
  have HW := Lib.hid hw; have HX := Lib.hid hx
  clear hw hx hN
  generalize next s.data.toList = NX at HX ⊢
  cases hk : kw (s.extract 0 n).data.toList
  · have HK := Lib.hid hk
    by_cases h16 : 16 < n
    · have hf : Hid (NX = (⟨0, [], 0, 0⟩, 0, 2)) := Lib.hid (by rw [HX.out, hk, if_pos h16]; rfl)
      clear HX hk
      go_enter Tryz.func48, Tryz.ntmps48
      go_wp2_with fail
      refine (HW.out _).mono ?_
      rintro e w1 ⟨rfl, rfl⟩
      go_wp2_with fail
      refine (isKeyword_any (s.extract 0 n) _).mono ?_
      rintro e w1 ⟨rfl, rfl⟩
      rw [HK.out]
      go_wp2
      go_returns
      exact ⟨ret_val (by rw [hf.out]; rfl), (Ext.refl _).alloc _⟩
    · have hf : Hid (NX = (⟨1, (s.extract 0 n).data.toList, 0, 0⟩, n, 0)) := Lib.hid (by rw [HX.out, hk, if_neg h16, extract_upto]; rfl)
      clear HX hk
      go_enter Tryz.func48, Tryz.ntmps48
      go_wp2_with fail
      refine (HW.out _).mono ?_
      rintro e w1 ⟨rfl, rfl⟩
      go_wp2_with fail
      refine (isKeyword_any (s.extract 0 n) _).mono ?_
      rintro e w1 ⟨rfl, rfl⟩
      rw [HK.out]
      go_wp2
      go_returns
      refine ⟨ret_val (by rw [hf.out]; rfl), ?_⟩
      exact (Ext.refl _).alloc _
  · have HK := Lib.hid hk
    have hf : Hid (NX = (⟨2, (s.extract 0 n).data.toList, 0, 0⟩, n, 0)) := Lib.hid (by rw [HX.out, hk, extract_upto]; rfl)
    clear HX hk
    go_enter Tryz.func48, Tryz.ntmps48
    go_wp2_with fail
    refine (HW.out _).mono ?_
    rintro e w1 ⟨rfl, rfl⟩
    go_wp2_with fail
    refine (isKeyword_any (s.extract 0 n) _).mono ?_
    rintro e w1 ⟨rfl, rfl⟩
    rw [HK.out]
    go_wp2
    go_returns
    refine ⟨ret_val (by rw [hf.out]; rfl), ?_⟩
    exact (Ext.refl _).alloc _
end Go.Proofs.YtmallladeidkpaaGreatDoor.Lx
