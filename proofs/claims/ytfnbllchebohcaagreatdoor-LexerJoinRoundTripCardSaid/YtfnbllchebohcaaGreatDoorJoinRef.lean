/- What the document's Valid and Written return of a token. -/
import Derived.Test.YtfnbllchebohcaaGreatDoorJoinWr3
namespace Go.Proofs.YtfnbllchebohcaaGreatDoor.Qo
open Go.RowKit Go.Lib Fx Lx

theorem written_1 (x : List UInt8) (n l : Int) : Lx.written ⟨1, x, n, l⟩ = (x, decide (n = 0) && nameB x) := by
  unfold Lx.written; rw [if_pos rfl]
theorem written_2 (x : List UInt8) (n l : Int) : Lx.written ⟨2, x, n, l⟩ = (x, decide (n = 0) && kw x) := by
  unfold Lx.written; rw [if_neg (by dsimp only; decide), if_pos rfl]
theorem isM_marks (x : List UInt8) : isM x = marks.contains x := by
  unfold isM marks
  rw [Bool.eq_iff_iff, List.contains_iff_mem]
  simp only [Bool.or_eq_true, beq_iff_eq, List.mem_cons, List.not_mem_nil, or_false]
  constructor
  · rintro (((((((((h | h) | h) | h) | h) | h) | h) | h) | h) | h) <;> simp [h]
  · rintro (h | h | h | h | h | h | h | h | h | h) <;> simp [h]
set_option maxHeartbeats 4000000 in
theorem valid_name (x : ByteArray) (n l : Int) (w : World) (hs : x.size ≤ 9223372036854775807) :
    Calls Tryz.prog 26 #[tokV' 1 n l x] w fun e w' => e = .returned (.bool (Lx.written ⟨1, x.data.toList, n, l⟩).2) ∧ Ext w w' := by
  have hv : (Lx.written ⟨1, x.data.toList, n, l⟩).2 = (decide (n = 0) && nameB x.data.toList) := by rw [written_1]
  rw [hv, Bool.and_comm]
  unfold tokV'
  have hn := fun w => isNameR_any x hs w
  clear hv
  cases hb : nameB x.data.toList
  · rw [hb] at hn
    have HN := Lib.hid hn
    clear hn hb hs
    rw [Bool.false_and]
    go_enter Tryz.func26, Tryz.ntmps26
    go_wp2_with fail
    refine (HN.out _).mono ?_
    rintro e w1 ⟨rfl, rfl⟩
    go_wp2_with fail
    go_ret
    exact ⟨rfl, (Ext.refl _).alloc _⟩
  · rw [hb] at hn
    have HN := Lib.hid hn
    clear hn hb hs
    rw [Bool.true_and]
    by_cases h0 : n = 0
    · subst h0
      rw [decide_eq_true rfl]
      go_enter Tryz.func26, Tryz.ntmps26
      go_wp2_with fail
      refine (HN.out _).mono ?_
      rintro e w1 ⟨rfl, rfl⟩
      go_wp2_with fail
      go_ret
      exact ⟨rfl, (Ext.refl _).alloc _⟩
    · rw [decide_eq_false h0]
      have hd : (n == 0) = false := by simpa using h0
      clear h0
      go_enter Tryz.func26, Tryz.ntmps26
      go_wp2_with fail
      refine (HN.out _).mono ?_
      rintro e w1 ⟨rfl, rfl⟩
      go_wp2_with fail
      go_ret
      exact ⟨rfl, (Ext.refl _).alloc _⟩

set_option maxHeartbeats 4000000 in
theorem valid_kw (x : ByteArray) (n l : Int) (w : World) (hs : x.size ≤ 9223372036854775807) :
    Calls Tryz.prog 26 #[tokV' 2 n l x] w fun e w' => e = .returned (.bool (Lx.written ⟨2, x.data.toList, n, l⟩).2) ∧ Ext w w' := by
  have hv : (Lx.written ⟨2, x.data.toList, n, l⟩).2 = (decide (n = 0) && kw x.data.toList) := by rw [written_2]
  rw [hv, Bool.and_comm]
  unfold tokV'
  have hn := fun w => isKeywordR_any x w
  clear hv
  cases hb : kw x.data.toList
  · rw [hb] at hn
    have HN := Lib.hid hn
    clear hn hb hs
    rw [Bool.false_and]
    go_enter Tryz.func26, Tryz.ntmps26
    go_wp2_with fail
    refine (HN.out _).mono ?_
    rintro e w1 ⟨rfl, rfl⟩
    go_wp2_with fail
    go_ret
    exact ⟨rfl, (Ext.refl _).alloc _⟩
  · rw [hb] at hn
    have HN := Lib.hid hn
    clear hn hb hs
    rw [Bool.true_and]
    by_cases h0 : n = 0
    · subst h0
      rw [decide_eq_true rfl]
      go_enter Tryz.func26, Tryz.ntmps26
      go_wp2_with fail
      refine (HN.out _).mono ?_
      rintro e w1 ⟨rfl, rfl⟩
      go_wp2_with fail
      go_ret
      exact ⟨rfl, (Ext.refl _).alloc _⟩
    · rw [decide_eq_false h0]
      have hd : (n == 0) = false := by simpa using h0
      clear h0
      go_enter Tryz.func26, Tryz.ntmps26
      go_wp2_with fail
      refine (HN.out _).mono ?_
      rintro e w1 ⟨rfl, rfl⟩
      go_wp2_with fail
      go_ret
      exact ⟨rfl, (Ext.refl _).alloc _⟩

set_option maxHeartbeats 4000000 in
theorem valid_mark (x : ByteArray) (n l : Int) (w : World) (hs : x.size ≤ 9223372036854775807) :
    Calls Tryz.prog 26 #[tokV' 5 n l x] w fun e w' => e = .returned (.bool (Lx.written ⟨5, x.data.toList, n, l⟩).2) ∧ Ext w w' := by
  have hv : (Lx.written ⟨5, x.data.toList, n, l⟩).2 = (decide (n = 0) && isM x.data.toList) := by rw [written_5, isM_marks]
  rw [hv, Bool.and_comm]
  unfold tokV'
  have hn := fun w => isMark_any x w
  clear hv
  cases hb : isM x.data.toList
  · rw [hb] at hn
    have HN := Lib.hid hn
    clear hn hb hs
    rw [Bool.false_and]
    go_enter Tryz.func26, Tryz.ntmps26
    go_wp2_with fail
    refine (HN.out _).mono ?_
    rintro e w1 ⟨rfl, rfl⟩
    go_wp2_with fail
    go_ret
    exact ⟨rfl, (Ext.refl _).alloc _⟩
  · rw [hb] at hn
    have HN := Lib.hid hn
    clear hn hb hs
    rw [Bool.true_and]
    by_cases h0 : n = 0
    · subst h0
      rw [decide_eq_true rfl]
      go_enter Tryz.func26, Tryz.ntmps26
      go_wp2_with fail
      refine (HN.out _).mono ?_
      rintro e w1 ⟨rfl, rfl⟩
      go_wp2_with fail
      go_ret
      exact ⟨rfl, (Ext.refl _).alloc _⟩
    · rw [decide_eq_false h0]
      have hd : (n == 0) = false := by simpa using h0
      clear h0
      go_enter Tryz.func26, Tryz.ntmps26
      go_wp2_with fail
      refine (HN.out _).mono ?_
      rintro e w1 ⟨rfl, rfl⟩
      go_wp2_with fail
      go_ret
      exact ⟨rfl, (Ext.refl _).alloc _⟩

set_option maxHeartbeats 4000000 in
theorem valid_other (k : Int) (x : ByteArray) (n l : Int) (w : World) (h1 : k ≠ 1) (h2 : k ≠ 2) (h3 : k ≠ 3) (h4 : k ≠ 4) (h5 : k ≠ 5) :
    Calls Tryz.prog 26 #[tokV' k n l x] w fun e w' => e = .returned (.bool (Lx.written ⟨k, x.data.toList, n, l⟩).2) ∧ Ext w w' := by
  rw [written_else k _ n l h1 h2 h3 h4 h5]
  unfold tokV'
  have e1 : (k == 1) = false := by simpa using h1
  have e2 : (k == 2) = false := by simpa using h2
  have e3 : (k == 3) = false := by simpa using h3
  have e4 : (k == 4) = false := by simpa using h4
  have e5 : (k == 5) = false := by simpa using h5
  clear h1 h2 h3 h4 h5
  go_enter Tryz.func26, Tryz.ntmps26
  go_wp2_with fail
  go_ret
  exact ⟨rfl, (Ext.refl _).alloc _⟩

set_option maxHeartbeats 4000000 in
theorem valid_num (x : ByteArray) (n l : Int) (w : World) :
    Calls Tryz.prog 26 #[tokV' 3 n l x] w fun e w' => e = .returned (.bool (Lx.written ⟨3, x.data.toList, n, l⟩).2) ∧ Ext w w' := by
  rw [written_3]
  unfold tokV'
  dsimp only
  by_cases hx : x.size = 0
  · obtain rfl : x = ⟨#[]⟩ := by
      apply ByteArray.ext; exact Array.eq_empty_of_size_eq_zero hx
    clear hx
    simp only [List.isEmpty_nil, Bool.true_and]
    by_cases hlo : -268435456 ≤ n
    · rw [decide_eq_true hlo, Bool.true_and]
      have g1 : decide ((-268435456 : Int) ≤ n) = true := decide_eq_true hlo
      go_enter Tryz.func26, Tryz.ntmps26
      go_wp2_with fail
      go_ret
      exact ⟨rfl, (Ext.refl _).alloc _⟩
    · rw [decide_eq_false hlo, Bool.false_and]
      have g1 : decide ((-268435456 : Int) ≤ n) = false := decide_eq_false hlo
      clear hlo
      go_enter Tryz.func26, Tryz.ntmps26
      go_wp2_with fail
      go_ret
      exact ⟨rfl, (Ext.refl _).alloc _⟩
  · have hem : x.data.toList.isEmpty = false := by
      rw [List.isEmpty_eq_false_iff]
      intro e
      rw [size_len, e] at hx
      exact hx rfl
    rw [hem, Bool.false_and, Bool.false_and]
    have g0 : x.toList.isEmpty = false := by rw [ByteArray.toList_eq]; exact hem
    clear hx
    go_enter Tryz.func26, Tryz.ntmps26
    go_wp2_with fail
    go_ret
    exact ⟨rfl, (Ext.refl _).alloc _⟩

theorem quote_ok (x : List UInt8) : decide ((quote x).2 = 0) = (decide (x.length ≤ 32) && plainB x) := by
  unfold quote
  by_cases h : 32 < x.length
  · rw [if_pos h, decide_eq_false (show ¬ x.length ≤ 32 by omega)]; rfl
  · rw [if_neg h, decide_eq_true (show x.length ≤ 32 by omega)]
    cases plainB x <;> rfl

set_option maxHeartbeats 4000000 in
theorem valid_str (x : ByteArray) (n l : Int) (w : World) (hs : x.size ≤ 9223372036854775807) :
    Calls Tryz.prog 26 #[tokV' 4 n l x] w fun e w' => e = .returned (.bool (Lx.written ⟨4, x.data.toList, n, l⟩).2) ∧ Ext w w' := by
  rw [written_4]
  unfold tokV'
  dsimp only
  rw [quote_ok, Bool.and_comm, ← size_len]
  have hp := fun w => plainR_any x hs w
  by_cases h32 : x.size ≤ 32
  · have g1 : decide ((x.size : Int) ≤ 32) = true := by simp; omega
    rw [decide_eq_true h32, Bool.true_and]
    cases hb : plainB x.data.toList
    · rw [hb] at hp
      have HP := Lib.hid hp
      clear hp hb
      rw [Bool.false_and]
      go_enter Tryz.func26, Tryz.ntmps26
      go_wp2_with fail
      refine (HP.out _).mono ?_
      rintro e w1 ⟨rfl, rfl⟩
      go_wp2_with fail
      go_ret
      exact ⟨rfl, (Ext.refl _).alloc _⟩
    · rw [hb] at hp
      have HP := Lib.hid hp
      clear hp hb
      rw [Bool.true_and]
      by_cases h0 : n = 0
      · subst h0
        rw [decide_eq_true rfl]
        go_enter Tryz.func26, Tryz.ntmps26
        go_wp2_with fail
        refine (HP.out _).mono ?_
        rintro e w1 ⟨rfl, rfl⟩
        go_wp2_with fail
        go_ret
        exact ⟨rfl, (Ext.refl _).alloc _⟩
      · rw [decide_eq_false h0]
        have hd : (n == 0) = false := by simpa using h0
        clear h0
        go_enter Tryz.func26, Tryz.ntmps26
        go_wp2_with fail
        refine (HP.out _).mono ?_
        rintro e w1 ⟨rfl, rfl⟩
        go_wp2_with fail
        go_ret
        exact ⟨rfl, (Ext.refl _).alloc _⟩
  · have g1 : decide ((x.size : Int) ≤ 32) = false := by simp; omega
    rw [decide_eq_false h32, Bool.false_and, Bool.false_and]
    clear hp h32
    go_enter Tryz.func26, Tryz.ntmps26
    go_wp2_with fail
    go_ret
    exact ⟨rfl, (Ext.refl _).alloc _⟩

/-- The document's Valid. -/
theorem valid_any (t : Tok) (w : World) (hs : t.text.length ≤ 9223372036854775807) :
    Calls Tryz.prog 26 #[tokV' t.kind t.n t.line ⟨t.text.toArray⟩] w fun e w' => e = .returned (.bool (Lx.written t).2) ∧ Ext w w' := by
  obtain ⟨k, x, n, l⟩ := t
  dsimp only
  have hsz : (⟨x.toArray⟩ : ByteArray).size ≤ 9223372036854775807 := by rw [size_mk]; exact hs
  by_cases h1 : k = 1
  · subst h1; exact valid_name ⟨x.toArray⟩ n l w hsz
  by_cases h2 : k = 2
  · subst h2; exact valid_kw ⟨x.toArray⟩ n l w hsz
  by_cases h3 : k = 3
  · subst h3; exact valid_num ⟨x.toArray⟩ n l w
  by_cases h4 : k = 4
  · subst h4; exact valid_str ⟨x.toArray⟩ n l w hsz
  by_cases h5 : k = 5
  · subst h5; exact valid_mark ⟨x.toArray⟩ n l w hsz
  exact valid_other k ⟨x.toArray⟩ n l w h1 h2 h3 h4 h5
/-- The program's written. -/
theorem written_any (t : Tok) (w : World) (hs : t.text.length ≤ 9223372036854775807) (h0 : -9223372036854775808 ≤ t.n) (h9 : t.n ≤ 9223372036854775807) (he : Env w) :
    Calls Tryz.prog 21 #[tokV' t.kind t.n t.line ⟨t.text.toArray⟩] w fun e w' => e = .returned (writtenV t) ∧ Ext w w' := by
  obtain ⟨k, x, n, l⟩ := t
  dsimp only at *
  have hsz : (⟨x.toArray⟩ : ByteArray).size ≤ 9223372036854775807 := by rw [size_mk]; exact hs
  by_cases h1 : k = 1
  · subst h1; exact written_name ⟨x.toArray⟩ n l w hsz
  by_cases h2 : k = 2
  · subst h2; exact written_kw ⟨x.toArray⟩ n l w hsz
  by_cases h3 : k = 3
  · subst h3; exact written_num ⟨x.toArray⟩ n l w h0 h9 he
  by_cases h4 : k = 4
  · subst h4; exact written_str ⟨x.toArray⟩ n l w hsz
  by_cases h5 : k = 5
  · subst h5; exact written_mark ⟨x.toArray⟩ n l w
  exact written_other k ⟨x.toArray⟩ n l w h1 h2 h3 h4 h5

set_option maxHeartbeats 4000000 in
/-- The document's Written, of a valid token. -/
theorem writtenR_any (t : Tok) (w : World) (hs : t.text.length ≤ 9223372036854775807) (h0 : -9223372036854775808 ≤ t.n) (h9 : t.n ≤ 9223372036854775807) (hv : (Lx.written t).2 = true) :
    Calls Tryz.prog 27 #[tokV' t.kind t.n t.line ⟨t.text.toArray⟩] w fun e w' => e = .returned (.string ⟨(Lx.written t).1.toArray⟩) ∧ Ext w w' := by
  obtain ⟨k, x, n, l⟩ := t
  dsimp only at *
  have hsz : (⟨x.toArray⟩ : ByteArray).size ≤ 9223372036854775807 := by rw [size_mk]; exact hs
  unfold tokV'
  by_cases h3 : k = 3
  · subst h3
    rw [written_3]
    have hf := fun w => formatR_any n w h0 h9
    dsimp only
    generalize (⟨(fmt n).toArray⟩ : ByteArray) = Y at hf ⊢
    have HF := Lib.hid hf
    clear hf hv hs hsz
    go_enter Tryz.func27, Tryz.ntmps27
    go_wp2_with fail
    refine (HF.out _).mono ?_
    rintro e w1 ⟨rfl, rfl⟩
    go_wp2_with fail
    go_ret
    exact ⟨rfl, (Ext.refl _).alloc _⟩
  by_cases h4 : k = 4
  · subst h4
    rw [written_4]
    have hf := fun w => quoteR_any ⟨x.toArray⟩ w hsz
    unfold quoteV at hf
    dsimp only at hf ⊢
    generalize (⟨(quote x).1.toArray⟩ : ByteArray) = Y at hf ⊢
    generalize (quote x).2 = c at hf ⊢
    have HF := Lib.hid hf
    clear hf hv hs hsz h3
    go_enter Tryz.func27, Tryz.ntmps27
    go_wp2_with fail
    refine (HF.out _).mono ?_
    rintro e w1 ⟨rfl, rfl⟩
    go_wp2_with fail
    go_ret
    exact ⟨rfl, (Ext.refl _).alloc _⟩
  have hw : (Lx.written ⟨k, x, n, l⟩).1 = x := by
    by_cases h1 : k = 1
    · subst h1; rw [written_1]
    by_cases h2 : k = 2
    · subst h2; rw [written_2]
    by_cases h5 : k = 5
    · subst h5; rw [written_5]
    rw [written_else k x n l h1 h2 h3 h4 h5] at hv
    exact absurd hv (by decide)
  rw [hw]
  have e3 : (k == 3) = false := by simpa using h3
  have e4 : (k == 4) = false := by simpa using h4
  clear hv hs hsz hw h3 h4
  go_enter Tryz.func27, Tryz.ntmps27
  go_wp2_with fail
  go_ret
  exact ⟨rfl, (Ext.refl _).alloc _⟩
end Go.Proofs.YtfnbllchebohcaaGreatDoor.Qo
