/- Quote as a plain function, and that its text is one token; no program in sight. -/
import Derived.Test.YtfnbllchebohcaaGreatDoorLexLaw
namespace Go.Proofs.YtfnbllchebohcaaGreatDoor.Lx
open Go.Lib Fx

def plainB (l : List UInt8) : Bool := l.all (fun b => decide (32 ≤ b.toNat ∧ b.toNat ≤ 126))
def escB (b : UInt8) : List UInt8 := if b = 34 ∨ b = 92 then [92, b] else [b]
def escL (l : List UInt8) : List UInt8 := l.flatMap escB
/-- Quote: the text and the error. -/
def quote (l : List UInt8) : List UInt8 × Int :=
  if 32 < l.length then ([], 2) else if !plainB l then ([], 1) else (34 :: (escL l ++ [34]), 0)

theorem contents_esc (rest : List UInt8) : ∀ (l acc : List UInt8) (i : Nat), plainB l = true → acc.length + l.length ≤ 32 → contents false acc i (escL l ++ 34 :: rest) = (acc ++ l, i + (escL l).length + 1, 0)
  | [], acc, i, _, _ => by
    show contents false acc i (34 :: rest) = _
    unfold contents
    rw [if_neg (by decide), if_neg (by decide), if_pos (by decide)]
    simp [escL]
  | b :: r, acc, i, hp, hl => by
    simp only [plainB, List.all_cons, Bool.and_eq_true, decide_eq_true_eq] at hp
    obtain ⟨⟨h1, h2⟩, hr⟩ := hp
    simp only [List.length_cons] at hl
    have ih := contents_esc rest r (acc ++ [b])
    have e : escL (b :: r) = escB b ++ escL r := rfl
    rw [e]
    have k1 : ¬ b.toNat = 10 := by omega
    have k2 : decide (b.toNat < 32) = false := by simp; omega
    have k3 : decide (126 < b.toNat) = false := by simp; omega
    have k4 : ¬ 32 < acc.length + 1 := by omega
    by_cases hb : b = 34 ∨ b = 92
    · have e2 : escB b = [92, b] := if_pos hb
      rw [e2]
      show contents false acc i (92 :: b :: (escL r ++ 34 :: rest)) = _
      have s1 : contents false acc i (92 :: b :: (escL r ++ 34 :: rest)) = contents true acc (i + 1) (b :: (escL r ++ 34 :: rest)) := by
        show (if (92 : UInt8).toNat = 10 then _ else _) = _
        rw [if_neg (by decide), if_neg (by decide), if_neg (by decide), if_pos (by decide)]
      have s2 : contents true acc (i + 1) (b :: (escL r ++ 34 :: rest)) = contents false (acc ++ [b]) (i + 1 + 1) (escL r ++ 34 :: rest) := by
        show (if b.toNat = 10 then _ else _) = _
        have q : (true && !(b.toNat == 34) && !(b.toNat == 92)) = false := by rcases hb with rfl | rfl <;> rfl
        rw [if_neg k1, q, k2, k3, if_neg (by simp), if_neg (by simp), if_neg (by simp), if_neg k4]
      rw [s1, s2, ih _ hr (by simp; omega)]
      simp; omega
    · have e2 : escB b = [b] := if_neg hb
      rw [e2]
      show contents false acc i (b :: (escL r ++ 34 :: rest)) = _
      have n34 : (b.toNat == 34) = false := by rw [beq_eq_false_iff_ne]; intro e; exact hb (.inl (UInt8.toNat_inj.1 e))
      have n92 : (b.toNat == 92) = false := by rw [beq_eq_false_iff_ne]; intro e; exact hb (.inr (UInt8.toNat_inj.1 e))
      have s2 : contents false acc i (b :: (escL r ++ 34 :: rest)) = contents false (acc ++ [b]) (i + 1) (escL r ++ 34 :: rest) := by
        show (if b.toNat = 10 then _ else _) = _
        rw [if_neg k1, k2, k3, n34, n92, if_neg (by simp), if_neg (by simp), if_neg (by simp), if_neg k4]
      rw [s2, ih _ hr (by simp; omega)]
      simp; omega
theorem wordN_quote (r : List UInt8) : wordN (34 :: r) = 0 := by
  unfold wordN
  rw [List.length_cons]
  show (if okW (34 :: r) 0 then _ else 0) = 0
  rw [show okW (34 :: r) 0 = false from rfl]; rfl
/-- The token at a quoted text. -/
theorem next_quote (l rest : List UInt8) (hp : plainB l = true) (hl : l.length ≤ 32) : next (34 :: (escL l ++ 34 :: rest)) = (⟨4, l, 0, 0⟩, (escL l).length + 2, 0) := by
  unfold next
  rw [wordN_quote, if_neg (by omega)]
  rw [show (isD (bt (34 :: (escL l ++ 34 :: rest)) 0) || (bt (34 :: (escL l ++ 34 :: rest)) 0 == 45 && decide (1 < (34 :: (escL l ++ 34 :: rest)).length) && isD (bt (34 :: (escL l ++ 34 :: rest)) 1))) = false from by
    show (isD 34 || ((34 : UInt8) == 45 && _ && _)) = false
    rw [show isD 34 = false from rfl, show ((34 : UInt8) == 45) = false from rfl]; simp]
  rw [if_neg (by simp), if_pos (by rfl)]
  rw [List.drop_succ_cons, List.drop_zero, contents_esc rest l [] 0 hp (by simpa using hl)]
  rw [if_pos rfl]
  simp
theorem escL_le : ∀ l : List UInt8, (escL l).length ≤ 2 * l.length
  | [] => Nat.le_refl _
  | b :: r => by
    have ih := escL_le r
    have e : escL (b :: r) = escB b ++ escL r := rfl
    have hb : (escB b).length ≤ 2 := by unfold escB; split <;> simp
    rw [e, List.length_append, List.length_cons]; omega
/-- The quoted text is one token. -/
theorem tokenize_quote (l : List UInt8) (hp : plainB l = true) (hl : l.length ≤ 32) : tokenize (34 :: (escL l ++ [34])) = ([⟨4, l, 0, 1⟩], 0, 0) := by
  have he := escL_le l
  have hlen : (34 :: (escL l ++ [34])).length = (escL l).length + 2 := by simp
  unfold tokenize
  rw [hlen, if_neg (by omega)]
  show tokz ((escL l).length + 1 + 1) 1 [] (34 :: (escL l ++ [34])) = _
  rw [tokz_cons, if_neg (by decide), if_neg (by decide), if_neg (by decide), next_quote l [] hp hl, if_pos rfl]
  have : ((34 :: (escL l ++ [34])) : List UInt8).drop ((escL l).length + 2) = [] := by rw [List.drop_eq_nil_iff, hlen]; exact Nat.le_refl _
  show tokz _ 1 ([] ++ [⟨4, l, 0, 1⟩]) (((34 :: (escL l ++ [34])) : List UInt8).drop ((escL l).length + 2)) = _
  rw [this, tokz_nil]; rfl
end Go.Proofs.YtfnbllchebohcaaGreatDoor.Lx
