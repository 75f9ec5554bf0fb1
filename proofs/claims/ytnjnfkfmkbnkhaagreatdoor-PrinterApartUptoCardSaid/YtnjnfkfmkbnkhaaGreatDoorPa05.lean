/- Packed texts: LexLaw, LexQuote, TrePrint -/
import Derived.Test.YtnjnfkfmkbnkhaaGreatDoorPa01
import Derived.Test.YtnjnfkfmkbnkhaaGreatDoorPa04
set_option linter.unusedVariables false
set_option linter.unusedSimpArgs false
/- Plain laws of the tokens: how lines shift, what a comment behind a source changes, blanks; no program in sight. -/
namespace Go.Proofs.YtnjnfkfmkbnkhaaGreatDoor.Lx
open Go.Lib Fx

/-- One round, by its first byte. -/
theorem tokz_cons (f : Nat) (ln : Int) (L : List Tok) (c : UInt8) (r : List UInt8) : tokz (f + 1) ln L (c :: r) =
    if c = 10 then tokz f (ln + 1) L r
    else if c = 32 || c = 9 then tokz f ln L r
    else if c = 35 then tokz f (if (skip (c :: r)).2 then ln + 1 else ln) L (skip (c :: r)).1
    else if (next (c :: r)).2.2 = 0 then tokz f ln (L ++ [⟨(next (c :: r)).1.kind, (next (c :: r)).1.text, (next (c :: r)).1.n, ln⟩]) ((c :: r).drop (next (c :: r)).2.1)
    else ([], ln, (next (c :: r)).2.2) := rfl
theorem tokz_nil (f : Nat) (ln : Int) (L : List Tok) : tokz f ln L [] = (L, 0, 0) := by cases f <;> rfl

theorem skip_le : ∀ s : List UInt8, (skip s).1.length ≤ s.length
  | [] => by simp [skip]
  | b :: r => by
    have ih := skip_le r
    unfold skip
    by_cases hb : b = 10
    · rw [if_pos hb]; simp
    · rw [if_neg hb]; simp only [List.length_cons]; omega
theorem skip_cons {c : UInt8} (r : List UInt8) (h : c ≠ 10) : skip (c :: r) = skip r := by
  show (if c = 10 then (r, true) else skip r) = skip r
  rw [if_neg h]
/-- Fuel beyond the length changes nothing. -/
theorem tokz_fuel (hn : ∀ s : List UInt8, 0 < s.length → (next s).2.2 = 0 → 1 ≤ (next s).2.1) : ∀ (k : Nat) (s : List UInt8), s.length ≤ k → ∀ (f g : Nat) (ln : Int) (L : List Tok), s.length ≤ f → s.length ≤ g → tokz f ln L s = tokz g ln L s := by
  intro k
  induction k with
  | zero => 
    intro s hs f g ln L _ _
    have : s = [] := List.eq_nil_of_length_eq_zero (by omega)
    subst this
    rw [tokz_nil, tokz_nil]
  | succ k ih =>
    intro s hs f g ln L hf hg
    cases s with
    | nil => rw [tokz_nil, tokz_nil]
    | cons c r =>
      simp only [List.length_cons] at hs hf hg
      obtain ⟨f, rfl⟩ : ∃ f', f = f' + 1 := ⟨f - 1, by omega⟩
      obtain ⟨g, rfl⟩ : ∃ g', g = g' + 1 := ⟨g - 1, by omega⟩
      rw [tokz_cons, tokz_cons]
      by_cases h1 : c = 10
      · rw [if_pos h1, if_pos h1]; exact ih r (by omega) f g _ L (by omega) (by omega)
      rw [if_neg h1, if_neg h1]
      by_cases h2 : (decide (c = 32) || decide (c = 9)) = true
      · rw [if_pos h2, if_pos h2]; exact ih r (by omega) f g _ L (by omega) (by omega)
      rw [if_neg h2, if_neg h2]
      by_cases h3 : c = 35
      · rw [if_pos h3, if_pos h3]
        have := skip_le r
        rw [skip_cons r h1]
        exact ih _ (by omega) f g _ L (by omega) (by omega)
      rw [if_neg h3, if_neg h3]
      by_cases h4 : (next (c :: r)).2.2 = 0
      · rw [if_pos h4, if_pos h4]
        have := hn (c :: r) (by simp) h4
        have hd : ((c :: r).drop (next (c :: r)).2.1).length ≤ r.length := by rw [List.length_drop, List.length_cons]; omega
        exact ih _ (by omega) f g _ _ (by omega) (by omega)
      · rw [if_neg h4, if_neg h4]

def shiftT (k : Int) (t : Tok) : Tok := ⟨t.kind, t.text, t.n, t.line + k⟩
def shiftR (k : Int) (R : List Tok × Int × Int) : List Tok × Int × Int := (R.1.map (shiftT k), if R.2.2 = 0 then 0 else R.2.1 + k, R.2.2)
theorem tokz_shift (k : Int) : ∀ (f : Nat) (ln : Int) (L : List Tok) (s : List UInt8), tokz f (ln + k) (L.map (shiftT k)) s = shiftR k (tokz f ln L s) ∧ ((tokz f ln L s).2.2 = 0 → (tokz f ln L s).2.1 = 0)
  | 0, ln, L, s => ⟨rfl, fun _ => rfl⟩
  | f + 1, ln, L, [] => ⟨rfl, fun _ => rfl⟩
  | f + 1, ln, L, c :: r => by
    rw [tokz_cons, tokz_cons]
    by_cases h1 : c = 10
    · rw [if_pos h1, if_pos h1]
      have := tokz_shift k f (ln + 1) L r
      rw [show ln + 1 + k = ln + k + 1 by omega] at this
      exact this
    rw [if_neg h1, if_neg h1]
    by_cases h2 : (decide (c = 32) || decide (c = 9)) = true
    · rw [if_pos h2, if_pos h2]; exact tokz_shift k f ln L r
    rw [if_neg h2, if_neg h2]
    by_cases h3 : c = 35
    · rw [if_pos h3, if_pos h3]
      cases h5 : (skip (c :: r)).2
      · exact tokz_shift k f ln L _
      · have := tokz_shift k f (ln + 1) L (skip (c :: r)).1
        rw [show ln + 1 + k = ln + k + 1 by omega] at this
        exact this
    rw [if_neg h3, if_neg h3]
    by_cases h4 : (next (c :: r)).2.2 = 0
    · rw [if_pos h4, if_pos h4]
      have := tokz_shift k f ln (L ++ [⟨(next (c :: r)).1.kind, (next (c :: r)).1.text, (next (c :: r)).1.n, ln⟩]) ((c :: r).drop (next (c :: r)).2.1)
      rw [List.map_append] at this
      exact this
    · rw [if_neg h4, if_neg h4]
      refine ⟨?_, fun h => absurd h h4⟩
      unfold shiftR
      rw [if_neg h4]; rfl

/-- Blanks. -/
theorem tokz_blanks : ∀ (n : Nat) (ln : Int) (L : List Tok), tokz n ln L (List.replicate n 32) = (L, 0, 0)
  | 0, _, _ => rfl
  | n + 1, ln, L => by
    rw [List.replicate_succ, tokz_cons, if_neg (by decide), if_pos (by decide)]
    exact tokz_blanks n ln L
end Go.Proofs.YtnjnfkfmkbnkhaaGreatDoor.Lx

/- Quote as a plain function, and that its text is one token; no program in sight. -/
namespace Go.Proofs.YtnjnfkfmkbnkhaaGreatDoor.Lx
open Go.Lib Fx

def plainB (l : List UInt8) : Bool := l.all (fun b => decide (32 ≤ b.toNat ∧ b.toNat ≤ 126))
def escB (b : UInt8) : List UInt8 := if b = 34 ∨ b = 92 then [92, b] else [b]
def escL (l : List UInt8) : List UInt8 := l.flatMap escB
/-- Quote: the text and the error. -/
def quote (l : List UInt8) : List UInt8 × Int :=
  if 32 < l.length then ([], 2) else if !plainB l then ([], 1) else (34 :: (escL l ++ [34]), 0)

theorem contents_esc (rest : List UInt8) : ∀ (l acc : List UInt8) (i : Nat), plainB l = true → acc.length + l.length ≤ 32 → contents false acc i (escL l ++ 34 :: rest) = (acc ++ l, i + (escL l).length + 1, 0)
  | [], acc, i, _, _ => by
    show contents false acc i (34 :: rest) = _
    unfold contents
    rw [if_neg (by decide), if_neg (by decide), if_pos (by decide)]
    simp [escL]
  | b :: r, acc, i, hp, hl => by
    simp only [plainB, List.all_cons, Bool.and_eq_true, decide_eq_true_eq] at hp
    obtain ⟨⟨h1, h2⟩, hr⟩ := hp
    simp only [List.length_cons] at hl
    have ih := contents_esc rest r (acc ++ [b])
    have e : escL (b :: r) = escB b ++ escL r := rfl
    rw [e]
    have k1 : ¬ b.toNat = 10 := by omega
    have k2 : decide (b.toNat < 32) = false := by simp; omega
    have k3 : decide (126 < b.toNat) = false := by simp; omega
    have k4 : ¬ 32 < acc.length + 1 := by omega
    by_cases hb : b = 34 ∨ b = 92
    · have e2 : escB b = [92, b] := if_pos hb
      rw [e2]
      show contents false acc i (92 :: b :: (escL r ++ 34 :: rest)) = _
      have s1 : contents false acc i (92 :: b :: (escL r ++ 34 :: rest)) = contents true acc (i + 1) (b :: (escL r ++ 34 :: rest)) := by
        show (if (92 : UInt8).toNat = 10 then _ else _) = _
        rw [if_neg (by decide), if_neg (by decide), if_neg (by decide), if_pos (by decide)]
      have s2 : contents true acc (i + 1) (b :: (escL r ++ 34 :: rest)) = contents false (acc ++ [b]) (i + 1 + 1) (escL r ++ 34 :: rest) := by
        show (if b.toNat = 10 then _ else _) = _
        have q : (true && !(b.toNat == 34) && !(b.toNat == 92)) = false := by rcases hb with rfl | rfl <;> rfl
        rw [if_neg k1, q, k2, k3, if_neg (by simp), if_neg (by simp), if_neg (by simp), if_neg k4]
      rw [s1, s2, ih _ hr (by simp; omega)]
      simp; omega
    · have e2 : escB b = [b] := if_neg hb
      rw [e2]
      show contents false acc i (b :: (escL r ++ 34 :: rest)) = _
      have n34 : (b.toNat == 34) = false := by rw [beq_eq_false_iff_ne]; intro e; exact hb (.inl (UInt8.toNat_inj.1 e))
      have n92 : (b.toNat == 92) = false := by rw [beq_eq_false_iff_ne]; intro e; exact hb (.inr (UInt8.toNat_inj.1 e))
      have s2 : contents false acc i (b :: (escL r ++ 34 :: rest)) = contents false (acc ++ [b]) (i + 1) (escL r ++ 34 :: rest) := by
        show (if b.toNat = 10 then _ else _) = _
        rw [if_neg k1, k2, k3, n34, n92, if_neg (by simp), if_neg (by simp), if_neg (by simp), if_neg k4]
      rw [s2, ih _ hr (by simp; omega)]
      simp; omega
theorem wordN_quote (r : List UInt8) : wordN (34 :: r) = 0 := by
  unfold wordN
  rw [List.length_cons]
  show (if okW (34 :: r) 0 then _ else 0) = 0
  rw [show okW (34 :: r) 0 = false from rfl]; rfl
/-- The token at a quoted text. -/
theorem next_quote (l rest : List UInt8) (hp : plainB l = true) (hl : l.length ≤ 32) : next (34 :: (escL l ++ 34 :: rest)) = (⟨4, l, 0, 0⟩, (escL l).length + 2, 0) := by
  unfold next
  rw [wordN_quote, if_neg (by omega)]
  rw [show (isD (bt (34 :: (escL l ++ 34 :: rest)) 0) || (bt (34 :: (escL l ++ 34 :: rest)) 0 == 45 && decide (1 < (34 :: (escL l ++ 34 :: rest)).length) && isD (bt (34 :: (escL l ++ 34 :: rest)) 1))) = false from by
    show (isD 34 || ((34 : UInt8) == 45 && _ && _)) = false
    rw [show isD 34 = false from rfl, show ((34 : UInt8) == 45) = false from rfl]; simp]
  rw [if_neg (by simp), if_pos (by rfl)]
  rw [List.drop_succ_cons, List.drop_zero, contents_esc rest l [] 0 hp (by simpa using hl)]
  rw [if_pos rfl]
  simp
theorem escL_le : ∀ l : List UInt8, (escL l).length ≤ 2 * l.length
  | [] => Nat.le_refl _
  | b :: r => by
    have ih := escL_le r
    have e : escL (b :: r) = escB b ++ escL r := rfl
    have hb : (escB b).length ≤ 2 := by unfold escB; split <;> simp
    rw [e, List.length_append, List.length_cons]; omega
/-- The quoted text is one token. -/
theorem tokenize_quote (l : List UInt8) (hp : plainB l = true) (hl : l.length ≤ 32) : tokenize (34 :: (escL l ++ [34])) = ([⟨4, l, 0, 1⟩], 0, 0) := by
  have he := escL_le l
  have hlen : (34 :: (escL l ++ [34])).length = (escL l).length + 2 := by simp
  unfold tokenize
  rw [hlen, if_neg (by omega)]
  show tokz ((escL l).length + 1 + 1) 1 [] (34 :: (escL l ++ [34])) = _
  rw [tokz_cons, if_neg (by decide), if_neg (by decide), if_neg (by decide), next_quote l [] hp hl, if_pos rfl]
  have : ((34 :: (escL l ++ [34])) : List UInt8).drop ((escL l).length + 2) = [] := by rw [List.drop_eq_nil_iff, hlen]; exact Nat.le_refl _
  show tokz _ 1 ([] ++ [⟨4, l, 0, 1⟩]) (((34 :: (escL l ++ [34])) : List UInt8).drop ((escL l).length + 2)) = _
  rw [this, tokz_nil]; rfl
end Go.Proofs.YtnjnfkfmkbnkhaaGreatDoor.Lx

/- The text of a tree: plain. -/
namespace Go.Proofs.YtnjnfkfmkbnkhaaGreatDoor.Tr
open Go.Lib Fx Lx

/-- The text of a value. -/
def valueT (s : ByteArray) : List UInt8 := if nameB s.data.toList = true then s.data.toList else if (parse s.data.toList).2 = 0 then s.data.toList else (quote s.data.toList).1
def attrT (q : Two) : List UInt8 := q.1.data.toList ++ 61 :: valueT q.2
/-- Texts with a mark between. -/
def sepT (sep : List UInt8) : List (List UInt8) → List UInt8
  | [] => []
  | [x] => x
  | x :: y :: r => x ++ sep ++ sepT sep (y :: r)
def listedT (a : List Two) : List UInt8 := 91 :: (sepT [44, 32] (a.map attrT) ++ [93])
def tailT (a : List Two) : List UInt8 := if a.isEmpty = true then [59] else 32 :: (listedT a ++ [59])
def refT (r : Two) : List UInt8 := r.1.data.toList ++ (if r.2.size = 0 then [] else 58 :: r.2.data.toList)
def arrow (d : Bool) : List UInt8 := if d then [32, 45, 62, 32] else [32, 45, 45, 32]
def indT (n : Nat) : List UInt8 := List.replicate (4 * n) 32
mutual
def printS (d : Bool) (lev : Nat) : Stm → List UInt8
  | .mk k n r a b =>
    if k = 1 then indT lev ++ n.data.toList ++ tailT a ++ [10]
    else if k = 2 then indT lev ++ sepT (arrow d) (r.map refT) ++ tailT a ++ [10]
    else if k = 3 then indT lev ++ n.data.toList ++ [32] ++ listedT a ++ [59, 10]
    else if k = 4 then indT lev ++ [115, 101, 116, 32] ++ n.data.toList ++ [32, 61, 32] ++ valueT (a.headD (⟨#[]⟩, ⟨#[]⟩)).2 ++ [59, 10]
    else indT lev ++ [99, 108, 117, 115, 116, 101, 114, 32] ++ n.data.toList ++ [32, 123, 10] ++ printL d (lev + 1) b ++ indT lev ++ [125, 10]
def printL (d : Bool) (lev : Nat) : List Stm → List UInt8
  | [] => []
  | x :: r => printS d lev x ++ printL d lev r
end
def printT (d : Bool) (name : ByteArray) (body : List Stm) : List UInt8 :=
  (if d then [100, 105, 103, 114, 97, 112, 104, 32] else [103, 114, 97, 112, 104, 32]) ++ name.data.toList ++ [32, 123, 10] ++ printL d 1 body ++ [125, 10]
theorem printL_nil (d : Bool) (lev : Nat) : printL d lev [] = [] := by rw [printL]
theorem printL_cons (d : Bool) (lev : Nat) (x : Stm) (r : List Stm) : printL d lev (x :: r) = printS d lev x ++ printL d lev r := by rw [printL]
theorem printL_snoc (d : Bool) (lev : Nat) (x : Stm) : ∀ L : List Stm, printL d lev (L ++ [x]) = printL d lev L ++ printS d lev x
  | [] => by rw [List.nil_append, printL_cons, printL_nil, List.append_nil, List.nil_append]
  | y :: r => by rw [List.cons_append, printL_cons, printL_cons, printL_snoc d lev x r, List.append_assoc]
theorem sepT_snoc (sep x : List UInt8) : ∀ L : List (List UInt8), sepT sep (L ++ [x]) = if L.isEmpty = true then x else sepT sep L ++ sep ++ x
  | [] => rfl
  | [y] => by simp [sepT]
  | y :: z :: r => by
    have ih := sepT_snoc sep x (z :: r)
    rw [if_neg (by simp)] at ih ⊢
    show y ++ sep ++ sepT sep (z :: r ++ [x]) = _
    rw [ih]
    show _ = y ++ sep ++ sepT sep (z :: r) ++ sep ++ x
    simp [List.append_assoc]
end Go.Proofs.YtnjnfkfmkbnkhaaGreatDoor.Tr
