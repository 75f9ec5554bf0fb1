/- The lexer as plain functions on lists of bytes: what the program's functions and the document's return; no program in sight. -/
import Derived.Test.YtfhephcbjbdejaaGreatDoorFixText
namespace Go.Proofs.YtfhephcbjbdejaaGreatDoor.Lx
open Go.Lib Fx

/-- A letter, or '_'. -/
def isL (b : UInt8) : Bool := decide (97 ≤ b.toNat ∧ b.toNat ≤ 122) || decide (65 ≤ b.toNat ∧ b.toNat ≤ 90) || decide (b.toNat = 95)
def bt (s : List UInt8) (n : Nat) : UInt8 := s[n]?.getD 0
/-- The first place from n on, at most f further, at which p fails. -/
def scan (p : Nat → Bool) : Nat → Nat → Nat
  | 0, n => n
  | f + 1, n => if p n then scan p f (n + 1) else n
theorem scan_ge (p : Nat → Bool) : ∀ f n, n ≤ scan p f n
  | 0, _ => Nat.le_refl _
  | f + 1, n => by
    unfold scan
    split
    · have := scan_ge p f (n + 1); omega
    · omega
theorem scan_le (p : Nat → Bool) : ∀ f n, scan p f n ≤ n + f
  | 0, _ => Nat.le_refl _
  | f + 1, n => by
    unfold scan
    split
    · have := scan_le p f (n + 1); omega
    · omega
def okW (s : List UInt8) (n : Nat) : Bool := isL (bt s n) || (decide (0 < n) && isD (bt s n))
/-- The length of the word at the head. -/
def wordN (s : List UInt8) : Nat := scan (okW s) s.length 0
def okN (s : List UInt8) (n : Nat) : Bool := isL (bt s n) || isD (bt s n) || bt s n == 46
/-- The length of the number at the head. -/
def numN (s : List UInt8) : Nat := scan (okN s) (s.length - 1) 1

/-- The keywords. -/
def kw (l : List UInt8) : Bool := l == [100, 105, 103, 114, 97, 112, 104] || l == [103, 114, 97, 112, 104] || l == [110, 111, 100, 101] || l == [101, 100, 103, 101] || l == [115, 101, 116] || l == [99, 108, 117, 115, 116, 101, 114]
def nameB (l : List UInt8) : Bool := !l.isEmpty && decide (l.length ≤ 16) && decide (wordN l = l.length) && !kw l

/-- The contents of a string behind its mark: the contents, its length, the error. -/
def contents (esc : Bool) (acc : List UInt8) (i : Nat) : List UInt8 → List UInt8 × Nat × Int
  | [] => ([], 0, 3)
  | c :: r =>
    if c.toNat = 10 then ([], 0, 3)
    else if (esc && !(c.toNat == 34) && !(c.toNat == 92)) || decide (c.toNat < 32) || decide (126 < c.toNat) then ([], 0, 4)
    else if !esc && c.toNat == 34 then (acc, i + 1, 0)
    else if !esc && c.toNat == 92 then contents true acc (i + 1) r
    else if 32 < acc.length + 1 then ([], 0, 2)
    else contents false (acc ++ [c]) (i + 1) r
/-- A token. -/
structure Tok where
  kind : Int
  text : List UInt8
  n : Int
  line : Int
deriving DecidableEq
def marks : List (List UInt8) := [[45, 62], [45, 45], [123], [125], [91], [93], [59], [44], [61], [58]]
def markOf (s : List UInt8) : List (List UInt8) → Option (List UInt8)
  | [] => none
  | m :: r => if m.isPrefixOf s then some m else markOf s r
/-- The token at the head, its length, the error. -/
def next (s : List UInt8) : Tok × Nat × Int :=
  if 0 < wordN s then
    if kw (s.take (wordN s)) then (⟨2, s.take (wordN s), 0, 0⟩, wordN s, 0)
    else if 16 < wordN s then (⟨0, [], 0, 0⟩, 0, 2)
    else (⟨1, s.take (wordN s), 0, 0⟩, wordN s, 0)
  else if isD (bt s 0) || (bt s 0 == 45 && decide (1 < s.length) && isD (bt s 1)) then
    if (parse (s.take (numN s))).2 = 0 then (⟨3, [], (parse (s.take (numN s))).1, 0⟩, numN s, 0) else (⟨0, [], 0, 0⟩, 0, (parse (s.take (numN s))).2)
  else if bt s 0 == 34 then
    if (contents false [] 0 (s.drop 1)).2.2 = 0 then (⟨4, (contents false [] 0 (s.drop 1)).1, 0, 0⟩, (contents false [] 0 (s.drop 1)).2.1 + 1, 0) else (⟨0, [], 0, 0⟩, 0, (contents false [] 0 (s.drop 1)).2.2)
  else match markOf s marks with
    | some m => (⟨5, m, 0, 0⟩, m.length, 0)
    | none => (⟨0, [], 0, 0⟩, 0, 4)
/-- The text behind the first line feed, and whether there is one. -/
def skip : List UInt8 → List UInt8 × Bool
  | [] => ([], false)
  | c :: r => if c = 10 then (r, true) else skip r
/-- The tokens: 'f' bounds the rounds. -/
def tokz : Nat → Int → List Tok → List UInt8 → List Tok × Int × Int
  | 0, _, out, _ => (out, 0, 0)
  | f + 1, line, out, s =>
    match s with
    | [] => (out, 0, 0)
    | c :: r =>
      if c = 10 then tokz f (line + 1) out r
      else if c = 32 || c = 9 then tokz f line out r
      else if c = 35 then tokz f (if (skip s).2 then line + 1 else line) out (skip s).1
      else if (next s).2.2 = 0 then tokz f line (out ++ [{ (next s).1 with line := line }]) (s.drop (next s).2.1)
      else ([], line, (next s).2.2)
def tokenize (s : List UInt8) : List Tok × Int × Int := if 16384 < s.length then ([], 0, 2) else tokz s.length 1 [] s
end Go.Proofs.YtfhephcbjbdejaaGreatDoor.Lx
