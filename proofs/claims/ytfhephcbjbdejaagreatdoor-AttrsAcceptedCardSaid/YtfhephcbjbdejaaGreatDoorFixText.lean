/- The texts of the fixed-point layer as plain functions on lists of bytes: the program's Format and Parse, the document's, and that they are one; no program in sight. -/
import Derived.Lib.ItoaNum
import Derived.Lib.IndexMore
import Derived.Lib.IndexLaws
import Derived.Lib.TrimByte
import Derived.Lib.Strings
namespace Go.Proofs.YtfhephcbjbdejaaGreatDoor.Fx
open Go.Lib

/-- A decimal digit. -/
def isD (b : UInt8) : Bool := decide (48 ≤ b.toNat ∧ b.toNat ≤ 57)
/-- One or more digits. -/
def digs (l : List UInt8) : Bool := l.all isD && !l.isEmpty

/-- The three digits behind the point, without the noughts at the end. -/
def fracT (r : Nat) : List UInt8 := trimRightB ((decDigits (1000 + r)).drop 1) 48
/-- The text of a number's size. -/
def fmtU (u : Nat) : List UInt8 := decDigits (u / 1000) ++ (if 0 < u % 1000 then 46 :: fracT (u % 1000) else [])
/-- Format. -/
def fmt (n : Int) : List UInt8 := if n < 0 then 45 :: fmtU n.natAbs else fmtU n.natAbs

/-- The value of digits behind a value. -/
def valF (acc : Nat) (l : List UInt8) : Nat := l.foldl (fun a b => 10 * a + (b.toNat - 48)) acc

/-- What the program's Parse does with the parts. -/
def parse3 (minus point : Bool) (whole frac : List UInt8) : Int × Int :=
  if !digs whole || (decide (1 < whole.length) && whole[0]?.getD 0 == 48) then (0, 4)
  else if point && (!digs frac || decide (3 < frac.length) || frac[frac.length - 1]?.getD 0 == 48) then (0, 4)
  else if minus && !point && whole == [48] then (0, 4)
  else if 9 < whole.length then (0, 16)
  else if 268435456 < valF 0 (whole ++ (frac ++ [48, 48, 48]).take 3) then (0, 16)
  else (if minus then -(valF 0 (whole ++ (frac ++ [48, 48, 48]).take 3) : Int) else valF 0 (whole ++ (frac ++ [48, 48, 48]).take 3), 0)
/-- The text before the first point, behind it, and whether there is one. -/
def splitDot : List UInt8 → List UInt8 × List UInt8 × Bool
  | [] => ([], [], false)
  | b :: r => if b == 46 then ([], r, true) else (b :: (splitDot r).1, (splitDot r).2)
/-- Parse. -/
def parse (s : List UInt8) : Int × Int :=
  parse3 (hasPrefix s [45]) (splitDot (trimPrefix s [45])).2.2 (splitDot (trimPrefix s [45])).1 (splitDot (trimPrefix s [45])).2.1

/-- The library's Cut at a point is splitDot. -/
theorem cut_dot : ∀ s : List UInt8, cut s [46] = splitDot s
  | [] => by simp [cut, index, splitDot]
  | b :: r => by
    have ih := cut_dot r
    have hg := index_ge r [46]
    unfold cut at ih ⊢
    unfold splitDot index
    by_cases hb : b = 46
    · subst hb; simp [List.isPrefixOf]
    · have hb' : (b == 46) = false := by simpa using hb
      have hb2 : ((46 : UInt8) == b) = false := by simpa using fun h => hb h.symm
      simp only [List.isPrefixOf, hb2, Bool.false_and, Bool.false_eq_true, if_false, hb']
      rw [← ih]
      by_cases h1 : index r [46] = -1
      · simp [h1]
      · have h2 : (index r [46] == -1) = false := by simpa using h1
        have h3 : 0 ≤ index r [46] := by omega
        simp only [h2, Bool.false_eq_true, if_false, h3, if_true]
        rw [if_pos (by omega), show (index r [46] + 1).toNat = (index r [46]).toNat + 1 by omega]
        simp

/-! ### The document's Parse -/
def partOk (p : List UInt8) : Bool := decide (1 ≤ p.length) && decide (p.length ≤ 3) && !(p[p.length - 1]?.getD 0 == 48)
/-- 'form', of the parts: sign, is there a point, before and behind it. -/
def form3 (m pt : Bool) (w p : List UInt8) : Option (Bool × List UInt8 × List UInt8) :=
  if !(w.all isD && p.all isD) then none
  else if pt && !partOk p then none
  else if w.isEmpty || (decide (1 < w.length) && w[0]?.getD 0 == 48) || (m && w == [48] && p.isEmpty) then none
  else some (m, w, p)
def form (s : List UInt8) : Option (Bool × List UInt8 × List UInt8) :=
  form3 (hasPrefix s [45]) (splitDot (trimPrefix s [45])).2.2 (splitDot (trimPrefix s [45])).1 (splitDot (trimPrefix s [45])).2.1
/-- The loop over all digits: the value, or none behind the first that is too great. -/
def valL (acc : Nat) : List UInt8 → Option Nat
  | [] => some acc
  | b :: r => if 268435456 < 10 * acc + (b.toNat - 48) then none else valL (10 * acc + (b.toNat - 48)) r
def pad3 (p : List UInt8) : List UInt8 := p ++ List.replicate (3 - p.length) 48
def valR : Option (Bool × List UInt8 × List UInt8) → Int × Int
  | none => (0, 4)
  | some (m, w, p) => match valL 0 (w ++ pad3 p) with
    | none => (0, 16)
    | some n => (if m then -(n : Int) else n, 0)
def parseR (s : List UInt8) : Int × Int := valR (form s)

theorem valF_ge : ∀ (l : List UInt8) (a : Nat), a ≤ valF a l
  | [], a => Nat.le_refl _
  | b :: r, a => by
    have := valF_ge r (10 * a + (b.toNat - 48))
    show a ≤ valF (10 * a + (b.toNat - 48)) r
    omega
theorem valL_eq : ∀ (l : List UInt8) (a : Nat), a ≤ 268435456 → valL a l = if 268435456 < valF a l then none else some (valF a l)
  | [], a, h => by
    show some a = if 268435456 < a then none else some a
    rw [if_neg (by omega)]
  | b :: r, a, h => by
    show (if 268435456 < 10 * a + (b.toNat - 48) then none else valL (10 * a + (b.toNat - 48)) r) = if 268435456 < valF (10 * a + (b.toNat - 48)) r then none else some (valF (10 * a + (b.toNat - 48)) r)
    have := valF_ge r (10 * a + (b.toNat - 48))
    by_cases h1 : 268435456 < 10 * a + (b.toNat - 48)
    · rw [if_pos h1, if_pos (by omega)]
    · rw [if_neg h1]; exact valL_eq r _ (by omega)
theorem valF_pow : ∀ (l : List UInt8) (a : Nat), a * 10 ^ l.length ≤ valF a l
  | [], a => by simp [valF]
  | b :: r, a => by
    have := valF_pow r (10 * a + (b.toNat - 48))
    show a * 10 ^ (r.length + 1) ≤ valF (10 * a + (b.toNat - 48)) r
    refine Nat.le_trans ?_ this
    rw [Nat.pow_succ, ← Nat.mul_assoc, Nat.mul_right_comm, Nat.mul_comm a 10]
    exact Nat.mul_le_mul_right _ (by omega)
theorem take_pad (p : List UInt8) (h : p.length ≤ 3) : (p ++ [48, 48, 48]).take 3 = pad3 p := by
  unfold pad3
  rw [List.take_append, List.take_of_length_le h]
  congr 1
  have : p.length = 0 ∨ p.length = 1 ∨ p.length = 2 ∨ p.length = 3 := by omega
  rcases this with h | h | h | h <;> rw [h] <;> rfl
theorem splitDot_none (l : List UInt8) (h : (splitDot l).2.2 = false) : (splitDot l).2.1 = [] := by
  induction l with
  | nil => rfl
  | cons b r ih =>
    unfold splitDot at h ⊢
    split
    · rename_i hb; simp [hb] at h
    · rename_i hb; simp [hb] at h; exact ih h

theorem big_over (w q : List UInt8) (hd : w.all isD = true) (h9 : 9 < w.length) (h0 : w[0]?.getD 0 ≠ 48) : 268435456 < valF 0 (w ++ q) := by
  cases w with
  | nil => simp at h9
  | cons b r =>
    simp at h0
    simp [isD] at hd
    have hb : 1 ≤ b.toNat - 48 := by
      have : b.toNat ≠ 48 := fun e => h0 (UInt8.toNat_inj.1 (by simpa using e))
      have := hd.1
      omega
    have h2 := valF_pow (r ++ q) (10 * 0 + (b.toNat - 48))
    have h3 : 10 ^ 9 ≤ 10 ^ (r ++ q).length := Nat.pow_le_pow_right (by omega) (by simp at h9 ⊢; omega)
    have h4 : 1 * 10 ^ 9 ≤ (10 * 0 + (b.toNat - 48)) * 10 ^ (r ++ q).length := Nat.mul_le_mul (by omega) h3
    show 268435456 < valF (10 * 0 + (b.toNat - 48)) (r ++ q)
    omega

theorem parse3_eq (m pt : Bool) (w p : List UInt8) (hn : pt = false → p = []) : parse3 m pt w p = valR (form3 m pt w p) := by
  have fin : w.all isD = true → (9 < w.length → w[0]?.getD 0 ≠ 48) → ∀ q : List UInt8, (if 9 < w.length then ((0 : Int), (16 : Int)) else if 268435456 < valF 0 (w ++ q) then (0, 16) else (if m then -(valF 0 (w ++ q) : Int) else valF 0 (w ++ q), 0)) =
      match valL 0 (w ++ q) with | none => (0, 16) | some n => (if m then -(n : Int) else n, 0) := by
    intro hW hz9 q
    rw [valL_eq _ _ (by omega)]
    by_cases h9 : 9 < w.length
    · rw [if_pos h9, if_pos (big_over w q hW h9 (hz9 h9))]
    · rw [if_neg h9]
      by_cases hv : 268435456 < valF 0 (w ++ q)
      · rw [if_pos hv, if_pos hv]
      · rw [if_neg hv, if_neg hv]
  unfold parse3 form3 digs partOk
  cases hW : w.all isD
  · simp [valR]
  cases hE : w.isEmpty
  rotate_left
  · have : w = [] := by simpa using hE
    subst this
    by_cases h1 : p.all isD <;> cases pt <;> simp [h1, valR]
    all_goals split <;> simp [valR]
  cases hZ : (decide (1 < w.length) && w[0]?.getD 0 == 48)
  rotate_left
  · by_cases h1 : p.all isD <;> cases pt <;> simp [h1, valR]
    all_goals split <;> simp [valR]
  have hz9 : 9 < w.length → w[0]?.getD 0 ≠ 48 := fun h e => by
    rw [e] at hZ; simp at hZ; omega
  have fin := fin hW hz9
  cases pt
  · have hp0 := hn rfl
    subst hp0
    cases h2 : (m && w == [48])
    · simp [h2, valR]; exact fin (pad3 [])
    · simp [h2, valR]
  · cases hP : p.all isD
    · simp [valR]
    cases hPE : p.isEmpty
    rotate_left
    · have : p = [] := by simpa using hPE
      subst this
      simp [valR]
    have hp1 : 1 ≤ p.length := by cases p <;> simp at hPE ⊢
    by_cases h3 : 3 < p.length
    · simp [h3, show ¬ p.length ≤ 3 by omega, valR]
    · cases hL : (p[p.length - 1]?.getD 0 == 48)
      rotate_left
      · simp [valR]
      simp [h3, show p.length ≤ 3 by omega, hp1, valR]
      rw [take_pad p (by omega)]
      exact fin (pad3 p)

theorem parse_eq (s : List UInt8) : parse s = parseR s := parse3_eq _ _ _ _ (splitDot_none _)
end Go.Proofs.YtfhephcbjbdejaaGreatDoor.Fx
