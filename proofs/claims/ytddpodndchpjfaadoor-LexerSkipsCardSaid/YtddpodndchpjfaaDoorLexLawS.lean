/- Plain law of LexerSkips: what stands before and behind a source; no program in sight but the length law of next. -/
import Derived.Test.YtddpodndchpjfaaDoorLexLawT
import Derived.Test.YtddpodndchpjfaaDoorLexLawB
namespace Go.Proofs.YtddpodndchpjfaaDoor.Lx
open Go.Lib Fx

def pre : List UInt8 := [9, 35, 32, 34, 120, 10, 32, 10]
theorem nextN : ∀ s : List UInt8, 0 < s.length → (next s).2.2 = 0 → 1 ≤ (next s).2.1 := fun s h0 h1 => (next_len s h0 h1).1
theorem tokz_pre (f : Nat) (s : List UInt8) : tokz (f + 8) 1 [] (pre ++ s) = tokz (f + 4) 3 [] s := by
  show tokz (f + 7 + 1) 1 [] (9 :: 35 :: 32 :: 34 :: 120 :: 10 :: 32 :: 10 :: s) = _
  rw [tokz_cons, if_neg (by decide), if_pos (by decide)]
  show tokz (f + 6 + 1) 1 [] (35 :: 32 :: 34 :: 120 :: 10 :: 32 :: 10 :: s) = _
  rw [tokz_cons, if_neg (by decide), if_neg (by decide), if_pos rfl]
  rw [skip_cons _ (by decide), skip_cons _ (by decide), skip_cons _ (by decide), skip_cons _ (by decide)]
  show tokz (f + 5 + 1) 2 [] (32 :: 10 :: s) = _
  rw [tokz_cons, if_neg (by decide), if_pos (by decide)]
  show tokz (f + 4 + 1) 2 [] (10 :: s) = _
  rw [tokz_cons, if_pos rfl]
  rfl
theorem tokenize_pre (s : List UInt8) (h : s.length ≤ 3000) : tokenize (pre ++ s) = shiftR 2 (tokenize s) := by
  unfold tokenize
  have hl : (pre ++ s).length = s.length + 8 := by rw [List.length_append]; show 8 + _ = _; omega
  rw [hl, if_neg (by omega), if_neg (by omega), tokz_pre]
  rw [tokz_fuel nextN s.length s (Nat.le_refl _) (s.length + 4) s.length 3 [] (by omega) (Nat.le_refl _)]
  exact (tokz_shift 2 s.length 1 [] s).1
theorem tokenize_line0 (s : List UInt8) (h : (tokenize s).2.2 = 0) : (tokenize s).2.1 = 0 := by
  unfold tokenize at h ⊢
  by_cases hb : 16384 < s.length
  · rw [if_pos hb]
  · rw [if_neg hb] at h ⊢
    exact (tokz_shift 2 s.length 1 [] s).2 h
theorem tokenize_suf (s : List UInt8) (h : s.length ≤ 3000) (ho : (tokenize s).2.2 = 0) : tokenize (s ++ [32, 35, 32, 125]) = tokenize s := by
  unfold tokenize at ho ⊢
  have hl : (s ++ [32, 35, 32, 125]).length = s.length + 4 := by rw [List.length_append]; rfl
  rw [if_neg (by omega)] at ho
  rw [hl, if_neg (by omega), if_neg (by omega)]
  exact tokz_behind (fun s h0 h1 => next_len s h0 h1) s.length s (s.length + 4) 1 [] (Nat.le_refl _) (Nat.le_refl _) ho

theorem tokz_lines : ∀ (f : Nat) (s : List UInt8) (ln : Int) (L : List Tok) (M : Int), s.length ≤ f → 0 ≤ ln → ln + s.length ≤ M → (∀ t ∈ L, 0 ≤ t.line ∧ t.line ≤ M) →
    (∀ t ∈ (tokz f ln L s).1, 0 ≤ t.line ∧ t.line ≤ M) ∧ 0 ≤ (tokz f ln L s).2.1 ∧ (tokz f ln L s).2.1 ≤ M
  | 0, s, ln, L, M, _, h0, h1, hL => ⟨hL, Int.le_refl 0, by show (0 : Int) ≤ M; omega⟩
  | f + 1, [], ln, L, M, _, h0, h1, hL => ⟨hL, Int.le_refl 0, by show (0 : Int) ≤ M; simp only [List.length_nil] at h1; omega⟩
  | f + 1, c :: r, ln, L, M, h, h0, h1, hL => by
    simp only [List.length_cons] at h h1
    rw [tokz_cons]
    by_cases g1 : c = 10
    · rw [if_pos g1]; exact tokz_lines f r (ln + 1) L M (by omega) (by omega) (by omega) hL
    rw [if_neg g1]
    by_cases g2 : (decide (c = 32) || decide (c = 9)) = true
    · rw [if_pos g2]; exact tokz_lines f r ln L M (by omega) h0 (by omega) hL
    rw [if_neg g2]
    by_cases g3 : c = 35
    · rw [if_pos g3, skip_cons r g1]
      have hs := skip_len r
      cases hp : (skip r).2
      · rw [hp] at hs
        simp only [Bool.false_eq_true, if_false] at hs ⊢
        exact tokz_lines f _ ln L M (by omega) h0 (by omega) hL
      · rw [hp] at hs
        simp only [if_true] at hs ⊢
        exact tokz_lines f _ (ln + 1) L M (by omega) (by omega) (by omega) hL
    rw [if_neg g3]
    by_cases g4 : (next (c :: r)).2.2 = 0
    · rw [if_pos g4]
      have hl := nextN (c :: r) (by simp) g4
      have hd : ((c :: r).drop (next (c :: r)).2.1).length ≤ r.length := by rw [List.length_drop, List.length_cons]; omega
      refine tokz_lines f _ ln _ M (by omega) h0 (by omega) (fun t ht => ?_)
      rw [List.mem_append, List.mem_singleton] at ht
      rcases ht with ht | rfl
      · exact hL t ht
      · exact ⟨h0, by show ln ≤ M; omega⟩
    · rw [if_neg g4]
      exact ⟨fun t ht => (by cases ht), h0, by show ln ≤ M; omega⟩
theorem tokenize_lines (s : List UInt8) : (∀ t ∈ (tokenize s).1, 0 ≤ t.line ∧ t.line ≤ 16385) ∧ 0 ≤ (tokenize s).2.1 ∧ (tokenize s).2.1 ≤ 16385 := by
  unfold tokenize
  by_cases hb : 16384 < s.length
  · rw [if_pos hb]; exact ⟨fun t ht => (by cases ht), by decide, by decide⟩
  · rw [if_neg hb]
    exact tokz_lines s.length s 1 [] 16385 (Nat.le_refl _) (by decide) (by omega) (fun t ht => (by cases ht))
end Go.Proofs.YtddpodndchpjfaaDoor.Lx
