/- Plain law: a blank and a comment behind a correct source change nothing; no program in sight. -/
import Derived.Test.YtfnbllchebohcaaGreatDoorLexLaw
namespace Go.Proofs.YtfnbllchebohcaaGreatDoor.Lx
open Go.Lib Fx

theorem bt_app {s t : List UInt8} {n : Nat} (h : n < s.length) : bt (s ++ t) n = bt s n := by unfold bt; rw [List.getElem?_append_left h]
theorem bt_end (s : List UInt8) (b : UInt8) (t : List UInt8) : bt (s ++ b :: t) s.length = b := by unfold bt; simp
theorem scan_app {p q : Nat → Bool} {l : Nat} (h : ∀ n, n < l → q n = p n) (hl : q l = false) : ∀ (k n g : Nat), n + k = l → k < g → scan q g n = scan p k n
  | 0, n, g, hn, hg => by
    obtain ⟨g, rfl⟩ : ∃ g', g = g' + 1 := ⟨g - 1, by omega⟩
    have : n = l := by omega
    subst this
    show (if q n then _ else n) = n
    rw [hl]; rfl
  | k + 1, n, g, hn, hg => by
    obtain ⟨g, rfl⟩ : ∃ g', g = g' + 1 := ⟨g - 1, by omega⟩
    show (if q n then scan q g (n + 1) else n) = if p n then scan p k (n + 1) else n
    rw [h n (by omega), scan_app h hl k (n + 1) g (by omega) (by omega)]
theorem okW_app (s t : List UInt8) : (∀ n, n < s.length → okW (s ++ 32 :: t) n = okW s n) ∧ okW (s ++ 32 :: t) s.length = false := by
  refine ⟨fun n h => by unfold okW; rw [bt_app h], ?_⟩
  unfold okW
  rw [bt_end, show isL 32 = false from rfl, show isD 32 = false from rfl]; simp
theorem okN_app (s t : List UInt8) : (∀ n, n < s.length → okN (s ++ 32 :: t) n = okN s n) ∧ okN (s ++ 32 :: t) s.length = false := by
  refine ⟨fun n h => by unfold okN; rw [bt_app h], ?_⟩
  unfold okN
  rw [bt_end]; rfl
theorem wordN_app (s t : List UInt8) : wordN (s ++ 32 :: t) = wordN s :=
  scan_app (okW_app s t).1 (okW_app s t).2 s.length 0 _ (by omega) (by simp)
theorem numN_app (s t : List UInt8) (h : 0 < s.length) : numN (s ++ 32 :: t) = numN s :=
  scan_app (okN_app s t).1 (okN_app s t).2 (s.length - 1) 1 _ (by omega) (by simp; omega)
theorem wordN_le (s : List UInt8) : wordN s ≤ s.length := by have := scan_le (okW s) s.length 0; unfold wordN; omega
theorem numN_le (s : List UInt8) (h : 0 < s.length) : numN s ≤ s.length := by have := scan_le (okN s) (s.length - 1) 1; unfold numN; omega
theorem contents_app (t : List UInt8) : ∀ (s : List UInt8) (esc : Bool) (acc : List UInt8) (i : Nat), (contents esc acc i s).2.2 = 0 → contents esc acc i (s ++ t) = contents esc acc i s
  | [], _, _, _, h => by simp [contents] at h
  | c :: r, esc, acc, i, h => by
    have i1 := contents_app t r true acc (i + 1)
    have i2 := contents_app t r false (acc ++ [c]) (i + 1)
    rw [List.cons_append]
    unfold contents at h ⊢
    split
    · rfl
    · rename_i g1
      rw [if_neg g1] at h
      split
      · rfl
      · rename_i g2
        rw [if_neg g2] at h
        split
        · rfl
        · rename_i g3
          rw [if_neg g3] at h
          split
          · rename_i g4
            rw [if_pos g4] at h
            exact i1 h
          · rename_i g4
            rw [if_neg g4] at h
            split
            · rfl
            · rename_i g5
              rw [if_neg g5] at h
              exact i2 h
theorem prefix_app {m s t : List UInt8} (h : m.isPrefixOf s = true) : m.isPrefixOf (s ++ t) = true := by
  rw [List.isPrefixOf_iff_prefix] at h ⊢
  exact h.trans (List.prefix_append s t)
/-- A mark at the head of a text with a blank behind it is the mark at the head of the text. -/
theorem markOf_app (s t : List UInt8) (h : 0 < s.length) : markOf (s ++ 32 :: t) marks = markOf s marks := by
  match s, h with
  | [a], _ =>
    have e1 : ∀ b : UInt8, ([45, b] : List UInt8).isPrefixOf [a] = false := fun b => by simp [List.isPrefixOf]
    have e2 : ∀ b : UInt8, b ≠ 32 → ([45, b] : List UInt8).isPrefixOf ([a] ++ 32 :: t) = false := fun b hb => by simp [List.isPrefixOf]; intro _; exact hb
    have e3 : ∀ b : UInt8, ([b] : List UInt8).isPrefixOf ([a] ++ 32 :: t) = ([b] : List UInt8).isPrefixOf [a] := fun b => by simp [List.isPrefixOf]
    simp only [markOf, marks, e1, e2 62 (by decide), e2 45 (by decide), e3]
  | a :: b :: r, _ =>
    have e1 : ∀ x y : UInt8, ([x, y] : List UInt8).isPrefixOf (a :: b :: r ++ 32 :: t) = ([x, y] : List UInt8).isPrefixOf (a :: b :: r) := fun x y => by simp [List.isPrefixOf]
    have e3 : ∀ x : UInt8, ([x] : List UInt8).isPrefixOf (a :: b :: r ++ 32 :: t) = ([x] : List UInt8).isPrefixOf (a :: b :: r) := fun x => by simp [List.isPrefixOf]
    simp only [markOf, marks, e1, e3]

/-- What makes a number begin. -/
theorem numHead_app (s t : List UInt8) (h : 0 < s.length) : (isD (bt (s ++ 32 :: t) 0) || (bt (s ++ 32 :: t) 0 == 45 && decide (1 < (s ++ 32 :: t).length) && isD (bt (s ++ 32 :: t) 1))) = (isD (bt s 0) || (bt s 0 == 45 && decide (1 < s.length) && isD (bt s 1))) := by
  rw [bt_app h]
  by_cases h1 : 1 < s.length
  · rw [bt_app h1, decide_eq_true h1, decide_eq_true (by simp; omega)]
  · have h2 : s.length = 1 := by omega
    have := bt_end s 32 t
    rw [h2] at this
    rw [this, decide_eq_false h1, show isD 32 = false from rfl]; simp
theorem next_app (s t : List UInt8) (h : 0 < s.length) (ho : (next s).2.2 = 0) : next (s ++ 32 :: t) = next s := by
  unfold next at ho ⊢
  rw [wordN_app, numN_app s t h, numHead_app s t h, bt_app h, markOf_app s t h, List.take_append_of_le_length (wordN_le s), List.take_append_of_le_length (numN_le s h)]
  rw [List.drop_append_of_le_length (by omega)]
  by_cases h1 : 0 < wordN s
  · rw [if_pos h1, if_pos h1]
  rw [if_neg h1] at ho
  rw [if_neg h1, if_neg h1]
  by_cases h2 : (isD (bt s 0) || (bt s 0 == 45 && decide (1 < s.length) && isD (bt s 1))) = true
  · rw [if_pos h2, if_pos h2]
  rw [if_neg h2] at ho
  rw [if_neg h2, if_neg h2]
  by_cases h3 : (bt s 0 == 34) = true
  · rw [if_pos h3] at ho
    rw [if_pos h3, if_pos h3]
    have hc : (contents false [] 0 (s.drop 1)).2.2 = 0 := by
      by_cases hc : (contents false [] 0 (s.drop 1)).2.2 = 0
      · exact hc
      · rw [if_neg hc] at ho; exact absurd ho hc
    rw [contents_app _ _ _ _ _ hc]
  · rw [if_neg h3, if_neg h3]
theorem skip_app (t : List UInt8) (ht : skip t = ([], false)) : ∀ s : List UInt8, skip (s ++ t) = if (skip s).2 then ((skip s).1 ++ t, true) else ([], false)
  | [] => by rw [List.nil_append, ht]; rfl
  | c :: r => by
    by_cases hc : c = 10
    · subst hc; rfl
    · rw [List.cons_append, skip_cons _ hc, skip_cons _ hc]; exact skip_app t ht r
theorem skip_none (s : List UInt8) (h : (skip s).2 = false) : (skip s).1 = [] := by
  induction s with
  | nil => rfl
  | cons c r ih =>
    by_cases hc : c = 10
    · subst hc; cases h
    · rw [skip_cons _ hc] at h ⊢; exact ih h
theorem tokz_behind (hn : ∀ s : List UInt8, 0 < s.length → (next s).2.2 = 0 → 1 ≤ (next s).2.1 ∧ (next s).2.1 ≤ s.length) : ∀ (f : Nat) (s : List UInt8) (g : Nat) (ln : Int) (L : List Tok), s.length ≤ f → s.length + 4 ≤ g → (tokz f ln L s).2.2 = 0 →
    tokz g ln L (s ++ [32, 35, 32, 125]) = tokz f ln L s := by
  intro f
  have base : ∀ (g : Nat) (ln : Int) (L : List Tok), 4 ≤ g → tokz g ln L [32, 35, 32, 125] = (L, 0, 0) := fun g ln L hg => by
    obtain ⟨g, rfl⟩ : ∃ g', g = g' + 2 := ⟨g - 2, by omega⟩
    rw [tokz_cons, if_neg (by decide), if_pos (by decide), tokz_cons, if_neg (by decide), if_neg (by decide), if_pos rfl]
    exact tokz_nil g ln L
  induction f with
  | zero =>
    intro s g ln L hs hg _
    have : s = [] := List.eq_nil_of_length_eq_zero (by omega)
    subst this
    rw [List.nil_append, base g ln L (by simp at hg; omega)]; rfl
  | succ f ih =>
    intro s g ln L hs hg ho
    cases s with
    | nil => rw [List.nil_append, base g ln L (by simp at hg; omega)]; rfl
    | cons c r =>
      simp only [List.length_cons] at hs hg
      obtain ⟨g, rfl⟩ : ∃ g', g = g' + 1 := ⟨g - 1, by omega⟩
      rw [List.cons_append, tokz_cons]
      rw [tokz_cons] at ho ⊢
      by_cases h1 : c = 10
      · rw [if_pos h1] at ho
        rw [if_pos h1, if_pos h1]; exact ih r g _ L (by omega) (by omega) ho
      rw [if_neg h1] at ho
      rw [if_neg h1, if_neg h1]
      by_cases h2 : (decide (c = 32) || decide (c = 9)) = true
      · rw [if_pos h2] at ho
        rw [if_pos h2, if_pos h2]; exact ih r g _ L (by omega) (by omega) ho
      rw [if_neg h2] at ho
      rw [if_neg h2, if_neg h2]
      by_cases h3 : c = 35
      · rw [if_pos h3] at ho
        rw [if_pos h3, if_pos h3]
        have hl := skip_le r
        rw [skip_cons r h1] at ho ⊢
        rw [skip_cons _ h1, skip_app _ (by decide) r]
        cases h5 : (skip r).2
        · rw [skip_none r h5]
          simp only [Bool.false_eq_true, if_false]
          rw [tokz_nil, tokz_nil]
        · rw [h5] at ho
          simp only [if_true] at ho ⊢
          exact ih _ g _ L (by omega) (by omega) ho
      rw [if_neg h3] at ho
      rw [if_neg h3, if_neg h3]
      by_cases h4 : (next (c :: r)).2.2 = 0
      · have he := next_app (c :: r) [35, 32, 125] (by simp) h4
        rw [List.cons_append] at he
        rw [he]
        rw [if_pos h4] at ho
        rw [if_pos h4, if_pos h4]
        have hl := hn (c :: r) (by simp) h4
        simp only [List.length_cons] at hl
        have hd : ((c :: r).drop (next (c :: r)).2.1).length ≤ r.length := by rw [List.length_drop, List.length_cons]; omega
        rw [← List.cons_append, List.drop_append_of_le_length (by rw [List.length_cons]; omega)]
        exact ih _ g _ _ (by omega) (by omega) ho
      · rw [if_neg h4] at ho
        exact absurd ho h4
end Go.Proofs.YtfnbllchebohcaaGreatDoor.Lx
