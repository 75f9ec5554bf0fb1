/- Plain laws of the tokens: how lines shift, what a comment behind a source changes, blanks; no program in sight. -/
import Derived.Test.YtfnbllchebohcaaGreatDoorLexText
namespace Go.Proofs.YtfnbllchebohcaaGreatDoor.Lx
open Go.Lib Fx

/-- One round, by its first byte. -/
theorem tokz_cons (f : Nat) (ln : Int) (L : List Tok) (c : UInt8) (r : List UInt8) : tokz (f + 1) ln L (c :: r) =
    if c = 10 then tokz f (ln + 1) L r
    else if c = 32 || c = 9 then tokz f ln L r
    else if c = 35 then tokz f (if (skip (c :: r)).2 then ln + 1 else ln) L (skip (c :: r)).1
    else if (next (c :: r)).2.2 = 0 then tokz f ln (L ++ [⟨(next (c :: r)).1.kind, (next (c :: r)).1.text, (next (c :: r)).1.n, ln⟩]) ((c :: r).drop (next (c :: r)).2.1)
    else ([], ln, (next (c :: r)).2.2) := rfl
theorem tokz_nil (f : Nat) (ln : Int) (L : List Tok) : tokz f ln L [] = (L, 0, 0) := by cases f <;> rfl

theorem skip_le : ∀ s : List UInt8, (skip s).1.length ≤ s.length
  | [] => by simp [skip]
  | b :: r => by
    have ih := skip_le r
    unfold skip
    by_cases hb : b = 10
    · rw [if_pos hb]; simp
    · rw [if_neg hb]; simp only [List.length_cons]; omega
theorem skip_cons {c : UInt8} (r : List UInt8) (h : c ≠ 10) : skip (c :: r) = skip r := by
  show (if c = 10 then (r, true) else skip r) = skip r
  rw [if_neg h]
/-- Fuel beyond the length changes nothing. -/
theorem tokz_fuel (hn : ∀ s : List UInt8, 0 < s.length → (next s).2.2 = 0 → 1 ≤ (next s).2.1) : ∀ (k : Nat) (s : List UInt8), s.length ≤ k → ∀ (f g : Nat) (ln : Int) (L : List Tok), s.length ≤ f → s.length ≤ g → tokz f ln L s = tokz g ln L s := by
  intro k
  induction k with
  | zero => 
    intro s hs f g ln L _ _
    have : s = [] := List.eq_nil_of_length_eq_zero (by omega)
    subst this
    rw [tokz_nil, tokz_nil]
  | succ k ih =>
    intro s hs f g ln L hf hg
    cases s with
    | nil => rw [tokz_nil, tokz_nil]
    | cons c r =>
      simp only [List.length_cons] at hs hf hg
      obtain ⟨f, rfl⟩ : ∃ f', f = f' + 1 := ⟨f - 1, by omega⟩
      obtain ⟨g, rfl⟩ : ∃ g', g = g' + 1 := ⟨g - 1, by omega⟩
      rw [tokz_cons, tokz_cons]
      by_cases h1 : c = 10
      · rw [if_pos h1, if_pos h1]; exact ih r (by omega) f g _ L (by omega) (by omega)
      rw [if_neg h1, if_neg h1]
      by_cases h2 : (decide (c = 32) || decide (c = 9)) = true
      · rw [if_pos h2, if_pos h2]; exact ih r (by omega) f g _ L (by omega) (by omega)
      rw [if_neg h2, if_neg h2]
      by_cases h3 : c = 35
      · rw [if_pos h3, if_pos h3]
        have := skip_le r
        rw [skip_cons r h1]
        exact ih _ (by omega) f g _ L (by omega) (by omega)
      rw [if_neg h3, if_neg h3]
      by_cases h4 : (next (c :: r)).2.2 = 0
      · rw [if_pos h4, if_pos h4]
        have := hn (c :: r) (by simp) h4
        have hd : ((c :: r).drop (next (c :: r)).2.1).length ≤ r.length := by rw [List.length_drop, List.length_cons]; omega
        exact ih _ (by omega) f g _ _ (by omega) (by omega)
      · rw [if_neg h4, if_neg h4]

def shiftT (k : Int) (t : Tok) : Tok := ⟨t.kind, t.text, t.n, t.line + k⟩
def shiftR (k : Int) (R : List Tok × Int × Int) : List Tok × Int × Int := (R.1.map (shiftT k), if R.2.2 = 0 then 0 else R.2.1 + k, R.2.2)
theorem tokz_shift (k : Int) : ∀ (f : Nat) (ln : Int) (L : List Tok) (s : List UInt8), tokz f (ln + k) (L.map (shiftT k)) s = shiftR k (tokz f ln L s) ∧ ((tokz f ln L s).2.2 = 0 → (tokz f ln L s).2.1 = 0)
  | 0, ln, L, s => ⟨rfl, fun _ => rfl⟩
  | f + 1, ln, L, [] => ⟨rfl, fun _ => rfl⟩
  | f + 1, ln, L, c :: r => by
    rw [tokz_cons, tokz_cons]
    by_cases h1 : c = 10
    · rw [if_pos h1, if_pos h1]
      have := tokz_shift k f (ln + 1) L r
      rw [show ln + 1 + k = ln + k + 1 by omega] at this
      exact this
    rw [if_neg h1, if_neg h1]
    by_cases h2 : (decide (c = 32) || decide (c = 9)) = true
    · rw [if_pos h2, if_pos h2]; exact tokz_shift k f ln L r
    rw [if_neg h2, if_neg h2]
    by_cases h3 : c = 35
    · rw [if_pos h3, if_pos h3]
      cases h5 : (skip (c :: r)).2
      · exact tokz_shift k f ln L _
      · have := tokz_shift k f (ln + 1) L (skip (c :: r)).1
        rw [show ln + 1 + k = ln + k + 1 by omega] at this
        exact this
    rw [if_neg h3, if_neg h3]
    by_cases h4 : (next (c :: r)).2.2 = 0
    · rw [if_pos h4, if_pos h4]
      have := tokz_shift k f ln (L ++ [⟨(next (c :: r)).1.kind, (next (c :: r)).1.text, (next (c :: r)).1.n, ln⟩]) ((c :: r).drop (next (c :: r)).2.1)
      rw [List.map_append] at this
      exact this
    · rw [if_neg h4, if_neg h4]
      refine ⟨?_, fun h => absurd h h4⟩
      unfold shiftR
      rw [if_neg h4]; rfl

/-- Blanks. -/
theorem tokz_blanks : ∀ (n : Nat) (ln : Int) (L : List Tok), tokz n ln L (List.replicate n 32) = (L, 0, 0)
  | 0, _, _ => rfl
  | n + 1, ln, L => by
    rw [List.replicate_succ, tokz_cons, if_neg (by decide), if_pos (by decide)]
    exact tokz_blanks n ln L
end Go.Proofs.YtfnbllchebohcaaGreatDoor.Lx
