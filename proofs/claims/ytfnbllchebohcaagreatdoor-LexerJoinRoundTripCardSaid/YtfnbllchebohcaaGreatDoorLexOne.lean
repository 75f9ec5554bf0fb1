/- The document's token at the head of a text, as a plain function, and that it is the program's; no program in sight. -/
import Derived.Test.YtfnbllchebohcaaGreatDoorLexText
namespace Go.Proofs.YtfnbllchebohcaaGreatDoor.Lx
open Go.Lib Fx

def isM (l : List UInt8) : Bool := l == [123] || l == [125] || l == [91] || l == [93] || l == [59] || l == [44] || l == [61] || l == [58] || l == [45, 62] || l == [45, 45]
def numR (s : List UInt8) : Nat := if isD (bt s 0) || (bt s 0 == 45 && decide (1 < s.length) && isD (bt s 1)) then numN s else 0
def oneR (s : List UInt8) : Tok × Nat × Int :=
  if 0 < wordN s then
    if kw (s.take (wordN s)) then (⟨2, s.take (wordN s), 0, 0⟩, wordN s, 0)
    else if 16 < wordN s then (⟨0, [], 0, 0⟩, 0, 2)
    else (⟨1, s.take (wordN s), 0, 0⟩, wordN s, 0)
  else if 0 < numR s then (⟨3, [], (parse (s.take (numR s))).1, 0⟩, numR s, (parse (s.take (numR s))).2)
  else if bt s 0 == 34 then
    (⟨4, (contents false [] 0 (s.drop 1)).1, 0, 0⟩, if (contents false [] 0 (s.drop 1)).2.2 = 0 then (contents false [] 0 (s.drop 1)).2.1 + 1 else (contents false [] 0 (s.drop 1)).2.1, (contents false [] 0 (s.drop 1)).2.2)
  else if decide (1 < s.length) && isM (s.take 2) then (⟨5, s.take 2, 0, 0⟩, 2, 0)
  else if isM (s.take 1) then (⟨5, s.take 1, 0, 0⟩, 1, 0)
  else (⟨0, [], 0, 0⟩, 0, 4)

theorem mark_ref (s : List UInt8) (h : 0 < s.length) : (match markOf s marks with | some m => ((⟨5, m, 0, 0⟩ : Tok), m.length, (0 : Int)) | none => (⟨0, [], 0, 0⟩, 0, 4)) =
    if decide (1 < s.length) && isM (s.take 2) then (⟨5, s.take 2, 0, 0⟩, 2, 0) else if isM (s.take 1) then (⟨5, s.take 1, 0, 0⟩, 1, 0) else (⟨0, [], 0, 0⟩, 0, 4) := by
  have single : ∀ (a : UInt8) (r : List UInt8), (∀ y, y = 62 ∨ y = 45 → ([45, y] : List UInt8).isPrefixOf (a :: r) = false) →
      (match markOf (a :: r) marks with | some m => ((⟨5, m, 0, 0⟩ : Tok), m.length, (0 : Int)) | none => (⟨0, [], 0, 0⟩, 0, 4)) = if isM [a] then (⟨5, [a], 0, 0⟩, 1, 0) else (⟨0, [], 0, 0⟩, 0, 4) := by
    intro a r h2
    have e1 := h2 62 (.inl rfl)
    have e2 := h2 45 (.inr rfl)
    have e3 : ∀ b : UInt8, ([b] : List UInt8).isPrefixOf (a :: r) = (b == a) := fun b => by simp [List.isPrefixOf]
    simp only [markOf, marks, e1, e2, e3]
    by_cases c1 : a = 123
    · subst c1; rfl
    by_cases c2 : a = 125
    · subst c2; rfl
    by_cases c3 : a = 91
    · subst c3; rfl
    by_cases c4 : a = 93
    · subst c4; rfl
    by_cases c5 : a = 59
    · subst c5; rfl
    by_cases c6 : a = 44
    · subst c6; rfl
    by_cases c7 : a = 61
    · subst c7; rfl
    by_cases c8 : a = 58
    · subst c8; rfl
    have n : ∀ k : UInt8, a ≠ k → (k == a) = false := fun k hk => by rw [beq_eq_false_iff_ne]; exact fun e => hk e.symm
    simp [isM, n 123 c1, n 125 c2, n 91 c3, n 93 c4, n 59 c5, n 44 c6, n 61 c7, n 58 c8, c1, c2, c3, c4, c5, c6, c7, c8]
  match s, h with
  | [a], _ =>
    rw [single a [] (fun y _ => by simp [List.isPrefixOf])]
    rfl
  | a :: b :: r, _ =>
    show _ = (if decide (1 < (a :: b :: r).length) && isM [a, b] then ((⟨5, [a, b], 0, 0⟩ : Tok), (2 : Nat), (0 : Int)) else if isM [a] then ((⟨5, [a], 0, 0⟩ : Tok), (1 : Nat), (0 : Int)) else ((⟨0, [], 0, 0⟩ : Tok), (0 : Nat), (4 : Int)))
    rw [decide_eq_true (show 1 < (a :: b :: r).length by simp), Bool.true_and]
    by_cases h45 : a = 45
    · subst h45
      by_cases hb : b = 62
      · subst hb; rfl
      by_cases hb2 : b = 45
      · subst hb2; rfl
      have hm : isM [45, b] = false := by simp [isM, hb, hb2]
      rw [hm, single 45 (b :: r) (fun y hy => by
        simp only [List.isPrefixOf, beq_self_eq_true, Bool.true_and, Bool.and_true]
        rcases hy with rfl | rfl
        · rw [beq_eq_false_iff_ne]; exact fun e => hb e.symm
        · rw [beq_eq_false_iff_ne]; exact fun e => hb2 e.symm)]
      rfl
    · have hm : isM [a, b] = false := by simp [isM, h45]
      rw [hm, single a (b :: r) (fun y _ => by
        have : ((45 : UInt8) == a) = false := by rw [beq_eq_false_iff_ne]; exact fun e => h45 e.symm
        simp [List.isPrefixOf, this])]
      rfl
theorem numR_pos (s : List UInt8) : (0 < numR s ↔ (isD (bt s 0) || (bt s 0 == 45 && decide (1 < s.length) && isD (bt s 1))) = true) ∧ (0 < numR s → numR s = numN s) := by
  have h := scan_ge (okN s) (s.length - 1) 1
  unfold numR numN
  constructor
  · constructor
    · intro h1
      split at h1
      · assumption
      · omega
    · intro h1
      rw [if_pos h1]; omega
  · intro h1
    split at h1
    · rename_i h2; rw [if_pos h2]
    · omega
/-- The document's token and the program's: the same error, and without an error the same. -/
theorem oneR_next (s : List UInt8) (h : 0 < s.length) : (oneR s).2.2 = (next s).2.2 ∧ ((next s).2.2 = 0 → oneR s = next s) := by
  unfold oneR next
  rw [← mark_ref s h]
  by_cases h1 : 0 < wordN s
  · rw [if_pos h1, if_pos h1]; exact ⟨rfl, fun _ => rfl⟩
  rw [if_neg h1, if_neg h1]
  by_cases h2 : (isD (bt s 0) || (bt s 0 == 45 && decide (1 < s.length) && isD (bt s 1))) = true
  · have h3 := (numR_pos s).1.2 h2
    rw [if_pos h3, if_pos h2, (numR_pos s).2 h3]
    by_cases h4 : (parse (s.take (numN s))).2 = 0
    · rw [if_pos h4]
      exact ⟨h4, fun _ => by rw [h4]⟩
    · rw [if_neg h4]
      exact ⟨rfl, fun x => absurd x h4⟩
  rw [if_neg (fun x => h2 ((numR_pos s).1.1 x)), if_neg h2]
  by_cases h3 : (bt s 0 == 34) = true
  · rw [if_pos h3, if_pos h3]
    by_cases h4 : (contents false [] 0 (s.drop 1)).2.2 = 0
    · rw [if_pos h4, if_pos h4]
      exact ⟨h4, fun _ => by rw [h4]⟩
    · rw [if_neg h4, if_neg h4]
      exact ⟨rfl, fun x => absurd x h4⟩
  rw [if_neg h3, if_neg h3]
  exact ⟨rfl, fun _ => rfl⟩
end Go.Proofs.YtfnbllchebohcaaGreatDoor.Lx
