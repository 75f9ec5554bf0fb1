/- Packed texts: FixRound, AttH, NorTyp, NorText -/
import Derived.Test.YtjaeedbjknejdaaGreatDoorPt06
import Derived.BigQuiet
import Derived.Maps.OwnSet
import Derived.Deep.AppendLies
import Derived.StringKeys
import Derived.Lib.QuietBelow
import Derived.Deep.RegionLaw
import Derived.Deep.CutRange
import Derived.RangeFuncFrom
import Derived.RangeFuncLeaves
import Derived.OwnWalkIn
import Derived.TacticsInMore
import Derived.LoopNIn
import Derived.LoopIn
import Derived.RangeFuncNested
set_option linter.unusedVariables false
set_option linter.unusedSimpArgs false
set_option maxHeartbeats 16000000
set_option maxRecDepth 100000
namespace Go.Proofs.YtjaeedbjknejdaaGreatDoor.Fx
open Go.Lib
theorem trim_props (l : List UInt8) : (trimRightB l 48 = [] \/ (trimRightB l 48)[(trimRightB l 48).length - 1]?.getD 0 ≠ 48) /\ (l.all isD = true -> (trimRightB l 48).all isD = true) /\ (trimRightB l 48).length <= l.length := by
  unfold trimRightB
  refine ⟨?_, fun h => ?_, ?_⟩
  · cases hm : l.reverse.dropWhile (· == 48) with
    | nil => exact Or.inl rfl
    | cons x r =>
      refine Or.inr ?_
      have hx : (x == 48) = false := by
        have := List.head?_dropWhile_not (p := (· == (48 : UInt8))) (l := l.reverse)
        rw [hm] at this; simpa using this
      have hx' : x ≠ 48 := by simpa using hx
      simpa using hx'
  · rw [List.all_eq_true] at h ⊢
    intro x hx
    have h1 : x ∈ l.reverse.dropWhile (· == 48) := by simpa using hx
    have h2 := (List.dropWhile_sublist (· == (48 : UInt8)) (l := l.reverse)).subset h1
    exact h x (by simpa using h2)
  have := (List.dropWhile_sublist (· == (48 : UInt8)) (l := l.reverse)).length_le
  simp at this ⊢; omega
end Go.Proofs.YtjaeedbjknejdaaGreatDoor.Fx

namespace Go.Proofs.YtjaeedbjknejdaaGreatDoor.At
open Go.RowKit Go.Sort Go.Lib Go.Shelf Fx Lx
end Go.Proofs.YtjaeedbjknejdaaGreatDoor.At
namespace Go.Proofs.YtjaeedbjknejdaaGreatDoor.At
open Go.RowKit Go.Sort Go.Lib Go.Shelf Fx Lx
end Go.Proofs.YtjaeedbjknejdaaGreatDoor.At
namespace Go.Proofs.YtjaeedbjknejdaaGreatDoor.At
open Go.RowKit Go.Sort Go.Lib Go.Shelf Fx Lx
attribute [local go_sem] Oper.semAt_some
end Go.Proofs.YtjaeedbjknejdaaGreatDoor.At
namespace Go.Proofs.YtjaeedbjknejdaaGreatDoor.At
open Go.RowKit Go.Sort Go.Lib Go.Shelf Fx Lx
attribute [local go_sem] Oper.semAt_some
end Go.Proofs.YtjaeedbjknejdaaGreatDoor.At
namespace Go.Proofs.YtjaeedbjknejdaaGreatDoor.At
open Go.RowKit Go.Sort Go.Lib Go.Shelf Fx Lx
end Go.Proofs.YtjaeedbjknejdaaGreatDoor.At

namespace Go.Proofs.YtjaeedbjknejdaaGreatDoor.Nm
open Go.Lib Fx Lx At
structure Nd where
  name : ByteArray
  label : ByteArray
  w : Int
  h : Int
  c : Int
  ports : List Prt
structure Ed where
  a : Int
  b : Int
  ap : Int
  bp : Int
  label : ByteArray
  wt : Int
  len : Int
structure Gr where
  name : ByteArray
  dir : Bool
  N : List Nd
  E : List Ed
  C : List (ByteArray × Int)
end Go.Proofs.YtjaeedbjknejdaaGreatDoor.Nm

namespace Go.Proofs.YtjaeedbjknejdaaGreatDoor.Nm
open Go.Lib Fx Lx Tr At
structure Lk where
  a : Nat
  ap : ByteArray
  b : Nat
  bp : ByteArray
  at' : List Two
structure St where
  N : List (ByteArray × Int)
  A : List (List Two)
  C : List (ByteArray × Int)
  K : List Lk
structure Pl where
  c : Int
  n : List Two
  e : List Two
def idxGo (n : ByteArray) : Nat -> List (ByteArray × Int) -> Option Nat
  | _, [] => none
  | k, q :: r => if q.1 = n then some k else idxGo n (k + 1) r
def kLabel : ByteArray := ⟨#[108, 97, 98, 101, 108]⟩
def kWidth : ByteArray := ⟨#[119, 105, 100, 116, 104]⟩
def kHeight : ByteArray := ⟨#[104, 101, 105, 103, 104, 116]⟩
def kPorts : ByteArray := ⟨#[112, 111, 114, 116, 115]⟩
def kWeight : ByteArray := ⟨#[119, 101, 105, 103, 104, 116]⟩
def kLen : ByteArray := ⟨#[108, 101, 110]⟩
def labE (s : ByteArray) : Int := if 32 < s.size then 2 else if s.data.toList.all Tr.okT = false then 7 else 0
def prtGo : List Prt -> List Prt -> Int
  | [], _ => 0
  | q :: r, done => if nameB q.1.data.toList = false then 5 else if done.any (fun p => decide (p.1 = q.1)) = true then 6 else if q.2 < 0 \/ 3 < q.2 then 7 else prtGo r (done ++ [q])
def prtE (l : List Prt) : Int := if 8 < l.length then 2 else prtGo l []
def ndE (nc : Nat) (done : List Nd) (x : Nd) : Int :=
  if nameB x.name.data.toList = false then 5
  else if done.any (fun p => decide (p.name = x.name)) = true then 6
  else if labE x.label ≠ 0 then labE x.label
  else if x.w < 1 \/ 1048576 < x.w \/ x.h < 1 \/ 1048576 < x.h \/ x.c < -1 \/ (nc : Int) <= x.c then 3
  else prtE x.ports
def ndsE (nc : Nat) : List Nd -> List Nd -> Int
  | [], _ => 0
  | x :: r, done => if ndE nc done x ≠ 0 then ndE nc done x else ndsE nc r (done ++ [x])
def depT (C : List (ByteArray × Int)) : Nat -> Int -> Nat
  | 0, _ => 0
  | f + 1, c => if c < 0 then 0 else 1 + depT C f ((C[c.toNat]?.map Prod.snd).getD (-1))
def clE (N : List Nd) (C : List (ByteArray × Int)) (i : Nat) (x : ByteArray × Int) : Int :=
  if nameB x.1.data.toList = false then 5
  else if N.any (fun p => decide (p.name = x.1)) = true \/ (C.take i).any (fun p => decide (p.1 = x.1)) = true then 6
  else if x.2 < -1 \/ (i : Int) <= x.2 then 3
  else if 6 < depT C (i + 1) i then 2 else 0
def clsE (N : List Nd) (C : List (ByteArray × Int)) : Nat -> List (ByteArray × Int) -> Int
  | _, [] => 0
  | i, x :: r => if clE N C i x ≠ 0 then clE N C i x else clsE N C (i + 1) r
def portsOf (N : List Nd) (v : Int) : Nat := ((N[v.toNat]?.map Nd.ports).getD []).length
def edE (N : List Nd) (x : Ed) : Int :=
  if x.a < 0 \/ x.b < 0 \/ (N.length : Int) <= x.a \/ (N.length : Int) <= x.b \/ x.ap < -1 \/ x.bp < -1 \/ (portsOf N x.a : Int) <= x.ap \/ (portsOf N x.b : Int) <= x.bp then 3
  else if labE x.label ≠ 0 then labE x.label
  else if x.wt < 1 \/ 1000 < x.wt \/ x.len < 1 \/ 64 < x.len then 7 else 0
def edsE (N : List Nd) : List Ed -> Int
  | [] => 0
  | x :: r => if edE N x ≠ 0 then edE N x else edsE N r
def grE (g : Gr) : Int :=
  if 64 < g.N.length \/ 256 < g.E.length \/ 16 < g.C.length then 2
  else if nameB g.name.data.toList = false then 5
  else if ndsE g.C.length g.N [] ≠ 0 then ndsE g.C.length g.N []
  else if clsE g.N g.C 0 g.C ≠ 0 then clsE g.N g.C 0 g.C
  else edsE g.N g.E
structure Op5 where
  mode : Int
  ns : Int
  rs : Int
  mg : Int
  rd : Int
def kMode : ByteArray := ⟨#[109, 111, 100, 101]⟩
def kNs : ByteArray := ⟨#[110, 111, 100, 101, 115, 101, 112]⟩
def kRs : ByteArray := ⟨#[114, 97, 110, 107, 115, 101, 112]⟩
def kMg : ByteArray := ⟨#[109, 97, 114, 103, 105, 110]⟩
def kRd : ByteArray := ⟨#[114, 111, 117, 110, 100, 115]⟩
end Go.Proofs.YtjaeedbjknejdaaGreatDoor.Nm
