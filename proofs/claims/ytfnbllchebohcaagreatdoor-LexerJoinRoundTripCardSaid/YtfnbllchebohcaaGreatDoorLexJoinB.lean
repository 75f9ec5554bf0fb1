/- Joined tokens are read back, all on line 1; no program in sight. -/
import Derived.Test.YtfnbllchebohcaaGreatDoorLexJoin
namespace Go.Proofs.YtfnbllchebohcaaGreatDoor.Lx
open Go.Lib Fx

/-- A token as it is written, and whether it is valid. -/
def written (t : Tok) : List UInt8 × Bool :=
  if t.kind = 1 then (t.text, decide (t.n = 0) && nameB t.text)
  else if t.kind = 2 then (t.text, decide (t.n = 0) && kw t.text)
  else if t.kind = 3 then (fmt t.n, t.text.isEmpty && decide (-268435456 ≤ t.n) && decide (t.n ≤ 268435456))
  else if t.kind = 4 then ((quote t.text).1, decide (t.n = 0) && decide ((quote t.text).2 = 0))
  else if t.kind = 5 then (t.text, decide (t.n = 0) && marks.contains t.text)
  else ([], false)
/-- No blank, no line feed, no comment. -/
def headOk (s : List UInt8) : Prop := ∃ b r, s = b :: r ∧ b ≠ 10 ∧ (decide (b = 32) || decide (b = 9)) = false ∧ b ≠ 35
theorem headOk_L {b : UInt8} (r : List UInt8) (h : isL b = true) : headOk (b :: r) := by
  refine ⟨b, r, rfl, ?_, ?_, ?_⟩
  · rintro rfl; exact absurd h (by decide)
  · by_cases h1 : b = 32
    · subst h1; exact absurd h (by decide)
    · by_cases h2 : b = 9
      · subst h2; exact absurd h (by decide)
      · simp [h1, h2]
  · rintro rfl; exact absurd h (by decide)
theorem headOk_D {b : UInt8} (r : List UInt8) (h : isD b = true) : headOk (b :: r) := by
  refine ⟨b, r, rfl, ?_, ?_, ?_⟩
  · rintro rfl; exact absurd h (by decide)
  · by_cases h1 : b = 32
    · subst h1; exact absurd h (by decide)
    · by_cases h2 : b = 9
      · subst h2; exact absurd h (by decide)
      · simp [h1, h2]
  · rintro rfl; exact absurd h (by decide)
theorem headOk_at (b : UInt8) (r : List UInt8) (h : b ≠ 10 ∧ (decide (b = 32) || decide (b = 9)) = false ∧ b ≠ 35) : headOk (b :: r) := ⟨b, r, rfl, h⟩
theorem wordN_pos (l : List UInt8) (h : 0 < wordN l) : ∃ b r, l = b :: r ∧ isL b = true := by
  cases l with
  | nil => exact absurd h (by decide)
  | cons b r =>
    refine ⟨b, r, rfl, ?_⟩
    cases hb : isL b
    · rw [wordN_zero b r hb] at h; exact absurd h (by decide)
    · rfl
theorem next_written (t : Tok) (h : (written t).2 = true) : next (written t).1 = (⟨t.kind, t.text, t.n, 0⟩, (written t).1.length, 0) ∧ headOk (written t).1 := by
  obtain ⟨k, x, n, ln⟩ := t
  unfold written at h ⊢
  dsimp only at h ⊢
  by_cases c1 : k = 1
  · subst c1
    rw [if_pos rfl] at h ⊢
    simp only [Bool.and_eq_true, decide_eq_true_eq] at h
    obtain ⟨rfl, hn⟩ := h
    refine ⟨next_name x hn, ?_⟩
    have h2 := hn
    unfold nameB at h2
    simp only [Bool.and_eq_true, Bool.not_eq_true', decide_eq_true_eq] at h2
    obtain ⟨⟨⟨g1, _⟩, g3⟩, _⟩ := h2
    obtain ⟨b, r, rfl, hb⟩ := wordN_pos x (by rw [g3]; cases x with
      | nil => simp at g1
      | cons a r => simp)
    exact headOk_L r hb
  rw [if_neg c1] at h ⊢
  by_cases c2 : k = 2
  · subst c2
    rw [if_pos rfl] at h ⊢
    simp only [Bool.and_eq_true, decide_eq_true_eq] at h
    obtain ⟨rfl, hn⟩ := h
    refine ⟨next_kw x hn, ?_⟩
    unfold kw at hn
    simp only [Bool.or_eq_true, beq_iff_eq] at hn
    rcases hn with ((((rfl | rfl) | rfl) | rfl) | rfl) | rfl <;> exact headOk_at _ _ (by decide)
  rw [if_neg c2] at h ⊢
  by_cases c3 : k = 3
  · subst c3
    rw [if_pos rfl] at h ⊢
    simp only [Bool.and_eq_true, decide_eq_true_eq] at h
    obtain ⟨⟨hx, h1⟩, h2⟩ := h
    have : x = [] := by simpa using hx
    subst this
    refine ⟨next_fmt n (by omega), ?_⟩
    obtain ⟨b, r, hu, hb, _⟩ := fmtU_bytes n.natAbs
    unfold fmt
    split
    · exact headOk_at _ _ (by decide)
    · rw [hu]; exact headOk_D r hb
  rw [if_neg c3] at h ⊢
  by_cases c4 : k = 4
  · subst c4
    rw [if_pos rfl] at h ⊢
    simp only [Bool.and_eq_true, decide_eq_true_eq] at h
    obtain ⟨rfl, hq⟩ := h
    unfold quote at hq ⊢
    by_cases g1 : 32 < x.length
    · rw [if_pos g1] at hq; exact absurd hq (by decide)
    rw [if_neg g1] at hq ⊢
    cases hp : plainB x
    · rw [hp, if_pos (by decide)] at hq; exact absurd hq (by decide)
    · rw [hp] at hq
      rw [if_neg (by simp)]
      refine ⟨?_, headOk_at _ _ (by decide)⟩
      rw [next_quote x [] hp (by omega)]
      simp
  rw [if_neg c4] at h ⊢
  by_cases c5 : k = 5
  · subst c5
    rw [if_pos rfl] at h ⊢
    simp only [Bool.and_eq_true, decide_eq_true_eq, List.contains_iff_mem] at h
    obtain ⟨rfl, hm⟩ := h
    refine ⟨next_marks x hm, ?_⟩
    simp only [marks, List.mem_cons, List.not_mem_nil, or_false] at hm
    rcases hm with rfl | rfl | rfl | rfl | rfl | rfl | rfl | rfl | rfl | rfl <;> exact headOk_at _ _ (by decide)
  · rw [if_neg c5] at h; exact absurd h (by decide)

/-- The tokens, separated by blanks. -/
def joinT : List Tok → List UInt8
  | [] => []
  | [t] => (written t).1
  | t :: u :: r => (written t).1 ++ 32 :: joinT (u :: r)
def online (t : Tok) : Tok := ⟨t.kind, t.text, t.n, 1⟩
theorem tokz_join : ∀ (l : List Tok), (∀ t ∈ l, (written t).2 = true) → ∀ (f : Nat) (L : List Tok), (joinT l).length ≤ f → tokz f 1 L (joinT l) = (L ++ l.map online, 0, 0)
  | [], _, f, L, _ => by rw [show joinT [] = [] from rfl, tokz_nil]; simp
  | [t], h, f, L, hf => by
    obtain ⟨h1, b, r, h2, n1, n2, n3⟩ := next_written t (h t (by simp))
    have e : joinT [t] = (written t).1 := rfl
    rw [e] at hf ⊢
    obtain ⟨f, rfl⟩ : ∃ f', f = f' + 1 := ⟨f - 1, by rw [h2, List.length_cons] at hf; omega⟩
    rw [h2] at h1 ⊢
    rw [tokz_cons, if_neg n1, if_neg (by rw [n2]; decide), if_neg n3, h1, if_pos rfl]
    show tokz f 1 (L ++ [online t]) ((b :: r).drop (b :: r).length) = _
    rw [List.drop_length, tokz_nil]; rfl
  | t :: u :: r, h, f, L, hf => by
    obtain ⟨h1, b, q, h2, n1, n2, n3⟩ := next_written t (h t (by simp))
    have ih := tokz_join (u :: r) (fun x hx => h x (by simp [hx]))
    have e : joinT (t :: u :: r) = (written t).1 ++ 32 :: joinT (u :: r) := rfl
    rw [e, h2] at hf ⊢
    rw [h2] at h1
    have ha := next_app (b :: q) (joinT (u :: r)) (by simp) (by rw [h1])
    rw [h1] at ha
    generalize joinT (u :: r) = J at *
    simp only [List.length_append, List.length_cons] at hf
    obtain ⟨f, rfl⟩ : ∃ f', f = f' + 2 := ⟨f - 2, by omega⟩
    rw [List.cons_append] at ha ⊢
    rw [tokz_cons, if_neg n1, if_neg (by rw [n2]; decide), if_neg n3, ha, if_pos rfl]
    show tokz (f + 1) 1 (L ++ [online t]) ((b :: (q ++ 32 :: J)).drop (b :: q).length) = _
    rw [← List.cons_append, List.drop_left, tokz_cons, if_neg (by decide), if_pos (by decide), ih f _ (by omega)]
    simp [online]
theorem tokenize_join (l : List Tok) (h : ∀ t ∈ l, (written t).2 = true) (hl : (joinT l).length ≤ 16384) : tokenize (joinT l) = (l.map online, 0, 0) := by
  unfold tokenize
  rw [if_neg (by omega), tokz_join l h _ [] (Nat.le_refl _)]; rfl
end Go.Proofs.YtfnbllchebohcaaGreatDoor.Lx
