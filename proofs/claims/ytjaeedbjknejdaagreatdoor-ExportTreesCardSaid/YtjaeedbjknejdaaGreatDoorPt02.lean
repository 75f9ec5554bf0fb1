/- Packed texts: FixText, LexText, TreText, AttText -/
import Derived.Lib.ItoaNum
import Derived.Lib.IndexMore
import Derived.Lib.IndexLaws
import Derived.Lib.TrimByte
import Derived.Lib.Strings
import Derived.Lib.Split
import Derived.Lib.SplitLaws
import Derived.Lib.CutLaws
import Derived.Lib.SlicesS
import Derived.Lib.Hide
set_option linter.unusedVariables false
set_option linter.unusedSimpArgs false
set_option maxHeartbeats 16000000
set_option maxRecDepth 100000
namespace Go.Proofs.YtjaeedbjknejdaaGreatDoor.Fx
open Go.Lib
def isD (b : UInt8) : Bool := decide (48 <= b.toNat /\ b.toNat <= 57)
def digs (l : List UInt8) : Bool := l.all isD && !l.isEmpty
def fracT (r : Nat) : List UInt8 := trimRightB ((decDigits (1000 + r)).drop 1) 48
def fmtU (u : Nat) : List UInt8 := decDigits (u / 1000) ++ (if 0 < u % 1000 then 46 :: fracT (u % 1000) else [])
def fmt (n : Int) : List UInt8 := if n < 0 then 45 :: fmtU n.natAbs else fmtU n.natAbs
def valF (acc : Nat) (l : List UInt8) : Nat := l.foldl (fun a b => 10 * a + (b.toNat - 48)) acc
def parse3 (minus point : Bool) (whole frac : List UInt8) : Int × Int :=
  if !digs whole || (decide (1 < whole.length) && whole[0]?.getD 0 == 48) then (0, 4)
  else if point && (!digs frac || decide (3 < frac.length) || frac[frac.length - 1]?.getD 0 == 48) then (0, 4)
  else if minus && !point && whole == [48] then (0, 4)
  else if 9 < whole.length then (0, 16)
  else if 268435456 < valF 0 (whole ++ (frac ++ [48, 48, 48]).take 3) then (0, 16)
  else (if minus then -(valF 0 (whole ++ (frac ++ [48, 48, 48]).take 3) : Int) else valF 0 (whole ++ (frac ++ [48, 48, 48]).take 3), 0)
def splitDot : List UInt8 -> List UInt8 × List UInt8 × Bool
  | [] => ([], [], false)
  | b :: r => if b == 46 then ([], r, true) else (b :: (splitDot r).1, (splitDot r).2)
def parse (s : List UInt8) : Int × Int :=
  parse3 (hasPrefix s [45]) (splitDot (trimPrefix s [45])).2.2 (splitDot (trimPrefix s [45])).1 (splitDot (trimPrefix s [45])).2.1
theorem cut_dot : ∀ s : List UInt8, cut s [46] = splitDot s
  | [] => by simp [cut, index, splitDot]
  | b :: r => by
    have ih := cut_dot r
    have hg := index_ge r [46]
    unfold cut at ih ⊢
    unfold splitDot index
    by_cases hb : b = 46
    · subst hb; simp [List.isPrefixOf]
    · have hb' : (b == 46) = false := by simpa using hb
      have hb2 : ((46 : UInt8) == b) = false := by simpa using fun h => hb h.symm
      simp only [List.isPrefixOf, hb2, Bool.false_and, Bool.false_eq_true, if_false, hb']
      rw [<- ih]
      by_cases h1 : index r [46] = -1
      · simp [h1]
      have h2 : (index r [46] == -1) = false := by simpa using h1
      have h3 : 0 <= index r [46] := by omega
      simp only [h2, Bool.false_eq_true, if_false, h3, if_true]
      rw [if_pos (by omega), show (index r [46] + 1).toNat = (index r [46]).toNat + 1 by omega]
      simp
theorem splitDot_none (l : List UInt8) (h : (splitDot l).2.2 = false) : (splitDot l).2.1 = [] := by
  induction l with
  | nil => rfl
  | cons b r ih =>
    unfold splitDot at h ⊢
    split
    · rename_i hb; simp [hb] at h
    · rename_i hb; simp [hb] at h; exact ih h
end Go.Proofs.YtjaeedbjknejdaaGreatDoor.Fx

namespace Go.Proofs.YtjaeedbjknejdaaGreatDoor.Lx
open Go.Lib Fx
def isL (b : UInt8) : Bool := decide (97 <= b.toNat /\ b.toNat <= 122) || decide (65 <= b.toNat /\ b.toNat <= 90) || decide (b.toNat = 95)
def bt (s : List UInt8) (n : Nat) : UInt8 := s[n]?.getD 0
def scan (p : Nat -> Bool) : Nat -> Nat -> Nat
  | 0, n => n
  | f + 1, n => if p n then scan p f (n + 1) else n
def okW (s : List UInt8) (n : Nat) : Bool := isL (bt s n) || (decide (0 < n) && isD (bt s n))
def wordN (s : List UInt8) : Nat := scan (okW s) s.length 0
def kw (l : List UInt8) : Bool := l == [100, 105, 103, 114, 97, 112, 104] || l == [103, 114, 97, 112, 104] || l == [110, 111, 100, 101] || l == [101, 100, 103, 101] || l == [115, 101, 116] || l == [99, 108, 117, 115, 116, 101, 114]
def nameB (l : List UInt8) : Bool := !l.isEmpty && decide (l.length <= 16) && decide (wordN l = l.length) && !kw l
structure Tok where
  kind : Int
  text : List UInt8
  n : Int
  line : Int
deriving DecidableEq
def skip : List UInt8 -> List UInt8 × Bool
  | [] => ([], false)
  | c :: r => if c = 10 then (r, true) else skip r
end Go.Proofs.YtjaeedbjknejdaaGreatDoor.Lx

namespace Go.Proofs.YtjaeedbjknejdaaGreatDoor.Tr
open Go.Lib Fx Lx
abbrev Two := ByteArray × ByteArray
inductive Stm where
  | mk (kind : Int) (name : ByteArray) (refs attrs : List Two) (body : List Stm) : Stm
def Stm.kind : Stm -> Int | .mk k _ _ _ _ => k
def Stm.name : Stm -> ByteArray | .mk _ n _ _ _ => n
def Stm.refs : Stm -> List Two | .mk _ _ r _ _ => r
def Stm.attrs : Stm -> List Two | .mk _ _ _ a _ => a
def Stm.body : Stm -> List Stm | .mk _ _ _ _ b => b
mutual
def flatS (lev : Nat) : Stm -> List (Stm × Nat)
  | .mk k n r a b => (.mk k n r a b, lev) :: flatL (if k = 5 then lev + 1 else lev) b
def flatL (lev : Nat) : List Stm -> List (Stm × Nat)
  | [] => []
  | x :: r => flatS lev x ++ flatL lev r
end
theorem flatL_cons (lev : Nat) (x : Stm) (r : List Stm) : flatL lev (x :: r) = flatS lev x ++ flatL lev r := by rw [flatL]
theorem flatL_nil (lev : Nat) : flatL lev [] = [] := by rw [flatL]
theorem flatS_mk (lev : Nat) (k : Int) (n : ByteArray) (r a : List Two) (b : List Stm) : flatS lev (.mk k n r a b) = (.mk k n r a b, lev) :: flatL (if k = 5 then lev + 1 else lev) b := by rw [flatS]
theorem flatS_eq (lev : Nat) (x : Stm) : flatS lev x = (x, lev) :: flatL (if x.kind = 5 then lev + 1 else lev) x.body := by
  cases x; rw [flatS]; rfl
theorem flatL_app (lev : Nat) : ∀ L M : List Stm, flatL lev (L ++ M) = flatL lev L ++ flatL lev M
  | [], M => by rw [flatL_nil]; rfl
  | x :: r, M => by rw [List.cons_append, flatL_cons, flatL_cons, flatL_app lev r M, List.append_assoc]
theorem flatL_snoc (lev : Nat) (L : List Stm) (x : Stm) : flatL lev (L ++ [x]) = flatL lev L ++ flatS lev x := by rw [flatL_app, flatL_cons, flatL_nil, List.append_nil]
def sizeTwo : List Two -> Nat
  | [] => 0
  | q :: r => q.1.size + q.2.size + 1 + sizeTwo r
mutual
def sizeS : Stm -> Nat
  | .mk _ n r a b => n.size + sizeTwo r + sizeTwo a + sizeL b + 1
def sizeL : List Stm -> Nat
  | [] => 0
  | x :: r => sizeS x + sizeL r
end
theorem sizeL_cons (x : Stm) (r : List Stm) : sizeL (x :: r) = sizeS x + sizeL r := by rw [sizeL]
theorem sizeL_nil : sizeL [] = 0 := by rw [sizeL]
theorem sizeS_body (x : Stm) : sizeL x.body + x.name.size + sizeTwo x.refs + sizeTwo x.attrs + 1 = sizeS x := by
  cases x; rw [sizeS]; simp only [Stm.body, Stm.name, Stm.refs, Stm.attrs]; omega
theorem sizeL_at : ∀ (L : List Stm) (k : Nat) (h : k < L.length), sizeS L[k] <= sizeL L
  | [], k, h => absurd h (by simp)
  | x :: r, 0, _ => by rw [sizeL_cons]; simp
  | x :: r, k + 1, h => by
    have := sizeL_at r k (by simpa using h)
    rw [sizeL_cons]; simp only [List.getElem_cons_succ]; omega
theorem sizeTwo_len : ∀ L : List Two, L.length <= sizeTwo L
  | [] => by simp [sizeTwo]
  | q :: r => by have := sizeTwo_len r; rw [sizeTwo, List.length_cons]; omega
theorem sizeTwo_at : ∀ (L : List Two) (q : Two), q ∈ L -> q.1.size + q.2.size + 1 <= sizeTwo L
  | x :: r, q, h => by
    rw [sizeTwo]
    rcases List.mem_cons.1 h with rfl | h
    · omega
    · have := sizeTwo_at r q h; omega
mutual
theorem flatS_len (lev : Nat) : ∀ x : Stm, (flatS lev x).length <= sizeS x
  | .mk k n r a b => by
    rw [flatS, sizeS, List.length_cons]
    have := flatL_len (if k = 5 then lev + 1 else lev) b
    omega
theorem flatL_len (lev : Nat) : ∀ L : List Stm, (flatL lev L).length <= sizeL L
  | [] => by rw [flatL, sizeL]; simp
  | x :: r => by
    rw [flatL, sizeL, List.length_append]
    have h1 := flatS_len lev x
    have h2 := flatL_len lev r
    omega
end
theorem sizeL_len : ∀ L : List Stm, L.length <= sizeL L
  | [] => by rw [sizeL]; simp
  | x :: r => by
    have h1 := sizeS_body x
    have h2 := sizeL_len r
    rw [sizeL, List.length_cons]; omega
def okT (b : UInt8) : Bool := decide (32 <= b.toNat) && decide (b.toNat <= 126)
def setB : List Two -> Bool
  | [q] => decide (q.1.size = 0)
  | _ => false
def formB (x : Stm) : Bool :=
  if x.kind = 1 then x.refs.isEmpty && x.body.isEmpty
  else if x.kind = 2 then decide (x.name.size = 0) && x.body.isEmpty && decide (2 <= x.refs.length)
  else if x.kind = 3 then x.refs.isEmpty && x.body.isEmpty && (decide (x.name.data.toList = [110, 111, 100, 101]) || decide (x.name.data.toList = [101, 100, 103, 101]))
  else if x.kind = 4 then x.refs.isEmpty && x.body.isEmpty && setB x.attrs
  else if x.kind = 5 then x.refs.isEmpty && x.attrs.isEmpty
  else false
def attrsGo (kind : Int) : List Two -> List Two -> Int
  | [], _ => 0
  | q :: r, done =>
    if kind ≠ 4 /\ nameB q.1.data.toList = false then 5
    else if done.any (fun p => decide (p.1 = q.1)) = true then 6
    else if 32 < q.2.size then 2
    else if q.2.data.toList.all okT = false then 7
    else attrsGo kind r (done ++ [q])
def attrsE (x : Stm) : Int := if 16 < x.attrs.length then 2 else attrsGo x.kind x.attrs []
def refB (r : Two) : Bool := nameB r.1.data.toList && (decide (r.2.size = 0) || nameB r.2.data.toList)
def stmE (p : Stm × Nat) : Int :=
  if formB p.1 = false then 1
  else if p.1.kind = 5 /\ 6 <= p.2 then 2
  else if (p.1.kind = 1 \/ p.1.kind = 4 \/ p.1.kind = 5) /\ nameB p.1.name.data.toList = false then 5
  else if p.1.refs.all refB = false then 5
  else attrsE p.1
def firstE : List (Stm × Nat) -> Int
  | [] => 0
  | p :: r => if stmE p ≠ 0 then stmE p else firstE r
def validE (name : ByteArray) (body : List Stm) : Int :=
  if nameB name.data.toList = false then 5 else if 512 < (flatL 0 body).length then 2 else firstE (flatL 0 body)
end Go.Proofs.YtjaeedbjknejdaaGreatDoor.Tr

namespace Go.Proofs.YtjaeedbjknejdaaGreatDoor.At
open Go.RowKit Go.Lib Fx Lx
abbrev Prt := ByteArray × Int
def hasN (out : List Prt) (n : ByteArray) : Bool := out.any (fun q => decide (q.1 = n))
end Go.Proofs.YtjaeedbjknejdaaGreatDoor.At
