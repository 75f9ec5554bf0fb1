/- Packed texts: FixText, LexText, TreText, TreMem, Shelf, FixFmt -/
import Derived.Test.YtjaeedbjknejdaaGreatDoorPd01
import Derived.Lib.ItoaNum
import Derived.Lib.IndexMore
import Derived.Lib.IndexLaws
import Derived.Lib.TrimByte
import Derived.Lib.Strings
import Derived.Shelf.Strings.Builder1
import Derived.Shelf.Strings.Builder2
import Derived.Shelf.Strings.OnBuilder
import Derived.Shelf.Strings.Trim
import Derived.Shelf.Small.Utf8
import Derived.Shelf.Small.Bits
import Derived.Shelf.Small.Strs
import Derived.Shelf.Small.Wraps
import Derived.Shelf.Strings.BuilderF
import Derived.Shelf.Strings.BuilderK
import Derived.Shelf.Strconv.Atoi
import Derived.Shelf.Strconv.Itoa0
import Derived.Shelf.Strconv.Itoa1
import Derived.Shelf.LaysM
import Derived.Shelf.Strconv.Itoa2
import Derived.Shelf.Strconv.Itoa3
import Derived.Shelf.Strings.Search1
import Derived.Shelf.Strings.Search2
import Derived.Shelf.Strings.Search3
import Derived.Shelf.Strings.Cut
import Derived.Shelf.Strings.Count
import Derived.Shelf.Strings.Prefix
import Derived.Shelf.Strings.Split
import Derived.Shelf.Slices.Turned
import Derived.Shelf.Spec.SlicesGrow
import Derived.Shelf.SlSortCmp.WholeK
import Derived.Ground.SlsfProg
import Derived.Test.YtjaeedbjknejdaaGreatDoorProg
import Derived.Lib.Walk
import Derived.Lib.ItoaMem
import Derived.Lib.ItoaLen
import Derived.BigCall
import Derived.BigGuard
set_option linter.unusedVariables false
set_option linter.unusedSimpArgs false
set_option maxHeartbeats 16000000
set_option maxRecDepth 100000
namespace Go.Proofs.YtjaeedbjknejdaaGreatDoor.Fx
open Go.Lib
def isD (b:UInt8):Bool:=decide (48<=b.toNat/\b.toNat<=57)
def digs (l:List UInt8):Bool:=l.all isD && !l.isEmpty
def fracT (r:Nat):List UInt8:=trimRightB ((decDigits (1000+r)).drop 1) 48
def fmtU (u:Nat):List UInt8:=decDigits (u / 1000)++(if 0 < u % 1000 then 46::fracT (u % 1000) else [])
def fmt (n:Int):List UInt8:=if n < 0 then 45::fmtU n.natAbs else fmtU n.natAbs
def valF (acc:Nat)(l:List UInt8):Nat:=l.foldl (fun a b=>10 * a+(b.toNat - 48)) acc
def parse3 (minus point:Bool)(whole frac:List UInt8):Int × Int :=
 if !digs whole || (decide (1 < whole.length) && whole[0]?.getD 0 == 48) then (0,4)
 else if point && (!digs frac || decide (3 < frac.length) || frac[frac.length - 1]?.getD 0 == 48) then (0,4)
 else if minus && !point && whole == [48] then (0,4)
 else if 9 < whole.length then (0,16)
 else if 268435456 < valF 0 (whole++(frac++[48,48,48]).take 3) then (0,16)
 else (if minus then -(valF 0 (whole++(frac++[48,48,48]).take 3):Int) else valF 0 (whole++(frac++[48,48,48]).take 3),0)
def splitDot : List UInt8->List UInt8 × List UInt8 × Bool
 | []=>([],[],false)
 | b::r=>if b == 46 then ([],r,true) else (b::(splitDot r).1,(splitDot r).2)
def parse (s:List UInt8):Int × Int :=
 parse3 (hasPrefix s [45]) (splitDot (trimPrefix s [45])).2.2 (splitDot (trimPrefix s [45])).1 (splitDot (trimPrefix s [45])).2.1
theorem cut_dot : ∀ s:List UInt8,cut s [46]=splitDot s
 | []=>by simp[cut,index,splitDot]
 | b::r=>by
  have ih:=cut_dot r;have hg:=index_ge r [46];unfold cut at ih ⊢;unfold splitDot index;by_cases hb:b=46
  ·subst hb;simp[List.isPrefixOf]
  ·have hb':(b == 46)=false:=by simpa using hb
   have hb2:((46:UInt8) == b)=false:=by simpa using fun h=>hb h.symm
   simp only[List.isPrefixOf,hb2,Bool.false_and,Bool.false_eq_true,if_false,hb'];rw[<-ih];by_cases h1:index r [46] = -1
   ·simp[h1]
   have h2:(index r [46] == -1)=false:=by simpa using h1
   have h3:0<=index r [46]:=by omega
   simp only[h2,Bool.false_eq_true,if_false,h3,if_true];rw[if_pos (by omega),show(index r [46]+1).toNat=(index r [46]).toNat+1 by omega];simp
def partOk (p:List UInt8):Bool:=decide (1<=p.length) && decide (p.length<=3) && !(p[p.length - 1]?.getD 0 == 48)
def form3 (m pt:Bool)(w p:List UInt8):Option (Bool × List UInt8 × List UInt8) :=
 if !(w.all isD && p.all isD) then none
 else if pt && !partOk p then none
 else if w.isEmpty || (decide (1 < w.length) && w[0]?.getD 0 == 48) || (m && w == [48] && p.isEmpty) then none
 else some (m,w,p)
def form (s:List UInt8):Option (Bool × List UInt8 × List UInt8) :=
 form3 (hasPrefix s [45]) (splitDot (trimPrefix s [45])).2.2 (splitDot (trimPrefix s [45])).1 (splitDot (trimPrefix s [45])).2.1
def valL (acc:Nat):List UInt8->Option Nat
 | []=>some acc
 | b::r=>if 268435456 < 10 * acc+(b.toNat - 48) then none else valL (10 * acc+(b.toNat - 48)) r
def pad3 (p:List UInt8):List UInt8:=p++List.replicate (3 - p.length) 48
def valR : Option (Bool × List UInt8 × List UInt8)->Int × Int
 | none=>(0,4)
 | some (m,w,p)=>match valL 0 (w++pad3 p) with
  | none=>(0,16)
  | some n=>(if m then -(n:Int) else n,0)
def parseR (s:List UInt8):Int × Int:=valR (form s)
theorem valF_ge : ∀ (l:List UInt8) (a:Nat),a<=valF a l
 | [],a=>Nat.le_refl _
 | b::r,a=>by
  have:=valF_ge r (10 * a+(b.toNat - 48));show a<=valF (10 * a+(b.toNat - 48)) r;omega
theorem valL_eq : ∀ (l:List UInt8) (a:Nat),a<=268435456->valL a l=if 268435456 < valF a l then none else some (valF a l)
 | [],a,h=>by
  show some a=if 268435456 < a then none else some a;rw[if_neg (by omega)]
 | b::r,a,h=>by
  show(if 268435456 < 10 * a+(b.toNat - 48) then none else valL (10 * a+(b.toNat - 48)) r)=if 268435456 < valF (10 * a+(b.toNat - 48)) r then none else some (valF (10 * a+(b.toNat - 48)) r);have:=valF_ge r (10 * a+(b.toNat - 48));by_cases h1:268435456 < 10 * a+(b.toNat - 48)
  ·rw[if_pos h1,if_pos (by omega)]
  ·rw[if_neg h1];exact valL_eq r _ (by omega)
theorem valF_pow : ∀ (l:List UInt8) (a:Nat),a * 10 ^ l.length<=valF a l
 | [],a=>by simp[valF]
 | b::r,a=>by
  have:=valF_pow r (10 * a+(b.toNat - 48));show a * 10 ^ (r.length+1)<=valF (10 * a+(b.toNat - 48)) r;refine Nat.le_trans ?_ this;rw[Nat.pow_succ,<- Nat.mul_assoc,Nat.mul_right_comm,Nat.mul_comm a 10];exact Nat.mul_le_mul_right _ (by omega)
theorem take_pad (p:List UInt8)(h:p.length<=3):(p++[48,48,48]).take 3=pad3 p:=by
 unfold pad3;rw[List.take_append,List.take_of_length_le h]
 congr 1
 have:p.length=0\/p.length=1\/p.length=2\/p.length=3:=by omega
 rcases this with h | h | h | h <;> rw[h] <;> rfl
theorem splitDot_none (l:List UInt8)(h:(splitDot l).2.2=false):(splitDot l).2.1=[]:=by
 induction l with
 | nil=>rfl
 | cons b r ih =>
  unfold splitDot at h ⊢;split
  ·rename_i hb;simp[hb] at h
  ·rename_i hb;simp[hb] at h;exact ih h
theorem big_over (w q:List UInt8)(hd:w.all isD=true)(h9:9 < w.length)(h0:w[0]?.getD 0 ≠ 48):268435456 < valF 0 (w++q):=by
 cases w with
 | nil=>simp at h9
 | cons b r =>
  simp at h0;simp[isD] at hd
  have hb:1<=b.toNat - 48:=by
   have:b.toNat ≠ 48:=fun e=>h0 (UInt8.toNat_inj.1 (by simpa using e))
   have:=hd.1;omega
  have h2:=valF_pow (r++q) (10 * 0+(b.toNat - 48));have h3:10 ^ 9<=10 ^ (r++q).length:=Nat.pow_le_pow_right (by omega) (by simp at h9 ⊢;omega);have h4:1 * 10 ^ 9<=(10 * 0+(b.toNat - 48)) * 10 ^ (r++q).length:=Nat.mul_le_mul (by omega) h3;show 268435456 < valF (10 * 0+(b.toNat - 48)) (r++q);omega
theorem parse3_eq (m pt:Bool)(w p:List UInt8)(hn:pt=false->p=[]):parse3 m pt w p=valR (form3 m pt w p):=by
 have fin:w.all isD=true->(9 < w.length->w[0]?.getD 0 ≠ 48)->∀ q:List UInt8,(if 9 < w.length then ((0:Int),(16:Int)) else if 268435456 < valF 0 (w++q) then (0,16) else (if m then -(valF 0 (w++q):Int) else valF 0 (w++q),0)) =
   match valL 0 (w++q) with | none=>(0,16) | some n=>(if m then -(n:Int) else n,0):=by
  intro hW hz9 q;rw[valL_eq _ _ (by omega)];by_cases h9:9 < w.length
  ·rw[if_pos h9,if_pos (big_over w q hW h9 (hz9 h9))]
  rw[if_neg h9];by_cases hv:268435456 < valF 0 (w++q)
  ·rw[if_pos hv,if_pos hv]
  rw[if_neg hv,if_neg hv]
 unfold parse3 form3 digs partOk;cases hW:w.all isD
 ·simp[valR]
 cases hE:w.isEmpty;rotate_left
 ·have:w=[]:=by simpa using hE
  subst this;by_cases h1:p.all isD <;> cases pt <;> simp[h1,valR]
  all_goals split <;> simp[valR]
 cases hZ:(decide (1 < w.length) && w[0]?.getD 0 == 48);rotate_left
 ·by_cases h1:p.all isD <;> cases pt <;> simp[h1,valR]
  all_goals split <;> simp[valR]
 have hz9:9 < w.length->w[0]?.getD 0 ≠ 48:=fun h e=>by
  rw[e] at hZ;simp at hZ;omega
 have fin:=fin hW hz9;cases pt
 ·have hp0:=hn rfl;subst hp0;cases h2:(m && w == [48])
  ·simp[h2,valR];exact fin (pad3 [])
  simp[h2,valR]
 cases hP:p.all isD
 ·simp[valR]
 cases hPE:p.isEmpty;rotate_left
 ·have:p=[]:=by simpa using hPE
  subst this;simp[valR]
 have hp1:1<=p.length:=by cases p <;> simp at hPE ⊢
 by_cases h3:3 < p.length
 ·simp[h3,show ¬ p.length<=3 by omega,valR]
 cases hL:(p[p.length - 1]?.getD 0 == 48);rotate_left
 ·simp[valR]
 simp[h3,show p.length<=3 by omega,hp1,valR];rw[take_pad p (by omega)];exact fin (pad3 p)
theorem parse_eq (s:List UInt8):parse s=parseR s:=parse3_eq _ _ _ _ (splitDot_none _)
end Go.Proofs.YtjaeedbjknejdaaGreatDoor.Fx

namespace Go.Proofs.YtjaeedbjknejdaaGreatDoor.Lx
open Go.Lib Fx
def isL (b:UInt8):Bool:=decide (97<=b.toNat/\b.toNat<=122) || decide (65<=b.toNat/\b.toNat<=90) || decide (b.toNat=95)
def bt (s:List UInt8)(n:Nat):UInt8:=s[n]?.getD 0
def scan (p:Nat->Bool):Nat->Nat->Nat
 | 0,n=>n
 | f+1,n=>if p n then scan p f (n+1) else n
def okW (s:List UInt8)(n:Nat):Bool:=isL (bt s n) || (decide (0 < n) && isD (bt s n))
def wordN (s:List UInt8):Nat:=scan (okW s) s.length 0
def kw (l:List UInt8):Bool:=l == [100,105,103,114,97,112,104] || l == [103,114,97,112,104] || l == [110,111,100,101] || l == [101,100,103,101] || l == [115,101,116] || l == [99,108,117,115,116,101,114]
def nameB (l:List UInt8):Bool := !l.isEmpty && decide (l.length<=16) && decide (wordN l=l.length) && !kw l
structure Tok where
 kind:Int
 text:List UInt8
 n:Int
 line:Int
deriving DecidableEq
def skip : List UInt8->List UInt8 × Bool
 | []=>([],false)
 | c::r=>if c=10 then (r,true) else skip r
end Go.Proofs.YtjaeedbjknejdaaGreatDoor.Lx

namespace Go.Proofs.YtjaeedbjknejdaaGreatDoor.Tr
open Go.Lib Fx Lx
abbrev Two := ByteArray × ByteArray
inductive Stm where
 | mk (kind:Int) (name:ByteArray) (refs attrs:List Two) (body:List Stm):Stm
def Stm.kind : Stm->Int | .mk k _ _ _ _=>k
def Stm.name : Stm->ByteArray | .mk _ n _ _ _=>n
def Stm.refs : Stm->List Two | .mk _ _ r _ _=>r
def Stm.attrs : Stm->List Two | .mk _ _ _ a _=>a
def Stm.body : Stm->List Stm | .mk _ _ _ _ b=>b
mutual
def flatS (lev:Nat):Stm->List (Stm × Nat)
 | .mk k n r a b=>(.mk k n r a b,lev)::flatL (if k=5 then lev+1 else lev) b
def flatL (lev:Nat):List Stm->List (Stm × Nat)
 | []=>[]
 | x::r=>flatS lev x++flatL lev r
end
theorem flatL_cons (lev:Nat)(x:Stm)(r:List Stm):flatL lev (x::r)=flatS lev x++flatL lev r:=by rw[flatL]
theorem flatL_nil (lev:Nat):flatL lev []=[]:=by rw[flatL]
theorem flatS_mk (lev:Nat)(k:Int)(n:ByteArray)(r a:List Two)(b:List Stm):flatS lev (.mk k n r a b)=(.mk k n r a b,lev)::flatL (if k=5 then lev+1 else lev) b:=by rw[flatS]
theorem flatS_eq (lev:Nat)(x:Stm):flatS lev x=(x,lev)::flatL (if x.kind=5 then lev+1 else lev) x.body:=by
 cases x;rw[flatS];rfl
theorem flatL_app (lev:Nat):∀ L M:List Stm,flatL lev (L++M)=flatL lev L++flatL lev M
 | [],M=>by rw[flatL_nil];rfl
 | x::r,M=>by rw[List.cons_append,flatL_cons,flatL_cons,flatL_app lev r M,List.append_assoc]
theorem flatL_snoc (lev:Nat)(L:List Stm)(x:Stm):flatL lev (L++[x])=flatL lev L++flatS lev x:=by rw[flatL_app,flatL_cons,flatL_nil,List.append_nil]
def sizeTwo : List Two->Nat
 | []=>0
 | q::r=>q.1.size+q.2.size+1+sizeTwo r
mutual
def sizeS : Stm->Nat
 | .mk _ n r a b=>n.size+sizeTwo r+sizeTwo a+sizeL b+1
def sizeL : List Stm->Nat
 | []=>0
 | x::r=>sizeS x+sizeL r
end
theorem sizeL_cons (x:Stm)(r:List Stm):sizeL (x::r)=sizeS x+sizeL r:=by rw[sizeL]
theorem sizeL_nil : sizeL []=0:=by rw[sizeL]
theorem sizeS_body (x:Stm):sizeL x.body+x.name.size+sizeTwo x.refs+sizeTwo x.attrs+1=sizeS x:=by
 cases x;rw[sizeS];simp only[Stm.body,Stm.name,Stm.refs,Stm.attrs];omega
theorem sizeL_at : ∀ (L:List Stm) (k:Nat) (h:k < L.length),sizeS L[k]<=sizeL L
 | [],k,h=>absurd h (by simp)
 | x::r,0,_=>by rw[sizeL_cons];simp
 | x::r,k+1,h=>by
  have:=sizeL_at r k (by simpa using h);rw[sizeL_cons];simp only[List.getElem_cons_succ];omega
theorem sizeTwo_len : ∀ L:List Two,L.length<=sizeTwo L
 | []=>by simp[sizeTwo]
 | q::r=>by have:=sizeTwo_len r;rw[sizeTwo,List.length_cons];omega
theorem sizeTwo_at : ∀ (L:List Two) (q:Two),q ∈ L->q.1.size+q.2.size+1<=sizeTwo L
 | x::r,q,h=>by
  rw[sizeTwo];rcases List.mem_cons.1 h with rfl | h
  ·omega
  ·have:=sizeTwo_at r q h;omega
mutual
theorem flatS_len (lev:Nat):∀ x:Stm,(flatS lev x).length<=sizeS x
 | .mk k n r a b=>by
  rw[flatS,sizeS,List.length_cons];have:=flatL_len (if k=5 then lev+1 else lev) b;omega
theorem flatL_len (lev:Nat):∀ L:List Stm,(flatL lev L).length<=sizeL L
 | []=>by rw[flatL,sizeL];simp
 | x::r=>by
  rw[flatL,sizeL,List.length_append];have h1:=flatS_len lev x;have h2:=flatL_len lev r;omega
end
theorem sizeL_len : ∀ L:List Stm,L.length<=sizeL L
 | []=>by rw[sizeL];simp
 | x::r=>by
  have h1:=sizeS_body x;have h2:=sizeL_len r;rw[sizeL,List.length_cons];omega
def okT (b:UInt8):Bool:=decide (32<=b.toNat) && decide (b.toNat<=126)
def setB : List Two->Bool
 | [q]=>decide (q.1.size=0)
 | _=>false
def formB (x:Stm):Bool :=
 if x.kind=1 then x.refs.isEmpty && x.body.isEmpty
 else if x.kind=2 then decide (x.name.size=0) && x.body.isEmpty && decide (2<=x.refs.length)
 else if x.kind=3 then x.refs.isEmpty && x.body.isEmpty && (decide (x.name.data.toList=[110,111,100,101]) || decide (x.name.data.toList=[101,100,103,101]))
 else if x.kind=4 then x.refs.isEmpty && x.body.isEmpty && setB x.attrs
 else if x.kind=5 then x.refs.isEmpty && x.attrs.isEmpty
 else false
def attrsGo (kind:Int):List Two->List Two->Int
 | [],_=>0
 | q::r,done =>
  if kind ≠ 4/\nameB q.1.data.toList=false then 5
  else if done.any (fun p=>decide (p.1=q.1))=true then 6
  else if 32 < q.2.size then 2
  else if q.2.data.toList.all okT=false then 7
  else attrsGo kind r (done++[q])
def attrsE (x:Stm):Int:=if 16 < x.attrs.length then 2 else attrsGo x.kind x.attrs []
def refB (r:Two):Bool:=nameB r.1.data.toList && (decide (r.2.size=0) || nameB r.2.data.toList)
def stmE (p:Stm × Nat):Int :=
 if formB p.1=false then 1
 else if p.1.kind=5/\6<=p.2 then 2
 else if(p.1.kind=1\/p.1.kind=4\/p.1.kind=5)/\nameB p.1.name.data.toList=false then 5
 else if p.1.refs.all refB=false then 5
 else attrsE p.1
def firstE : List (Stm × Nat)->Int
 | []=>0
 | p::r=>if stmE p ≠ 0 then stmE p else firstE r
def validE (name:ByteArray)(body:List Stm):Int :=
 if nameB name.data.toList=false then 5 else if 512 < (flatL 0 body).length then 2 else firstE (flatL 0 body)
end Go.Proofs.YtjaeedbjknejdaaGreatDoor.Tr

namespace Go.Proofs.YtjaeedbjknejdaaGreatDoor.Tr
open Go.RowKit Go.Lib Fx Lx
def TwoAt (n:Nat)(w:World)(a:Option Addr)(L:List Two):Prop :=
 ∀ k (h:k < L.length),∃ g o,a=some ⟨g,o,none⟩/\g < n/\w.cell? ⟨g,o+k * 2,none⟩=some (.string L[k].1)/\w.cell? ⟨g,o+k * 2+1,none⟩=some (.string L[k].2)
theorem TwoAt.below {n:Nat}{w w':World}{a:Option Addr}{L:List Two}(h:TwoAt n w a L)(x:Below n w w'):TwoAt n w' a L:=fun k hk=>by
 obtain⟨g,o,ha,hg,h0,h1⟩:=h k hk;exact⟨g,o,ha,hg,(x.cell (p:=⟨g,o+k * 2,none⟩) hg).trans h0,(x.cell (p:=⟨g,o+k * 2+1,none⟩) hg).trans h1⟩
theorem TwoAt.mono {n m:Nat}{w:World}{a:Option Addr}{L:List Two}(h:TwoAt n w a L)(hm:n<=m):TwoAt m w a L:=fun k hk=>by
 obtain⟨g,o,ha,hg,r⟩:=h k hk;exact⟨g,o,ha,by omega,r⟩
mutual
def StmAt (n:Nat)(w:World)(g o:Nat):Stm->Prop
 | .mk k nm rs al body=>∃ r rc a ac b bc,w.cell? ⟨g,o,none⟩=some (.int .i64 k)/\w.cell? ⟨g,o+1,none⟩=some (.string nm) /\
   w.cell? ⟨g,o+2,none⟩=some (.slice r rs.length rc)/\w.cell? ⟨g,o+3,none⟩=some (.slice a al.length ac)/\w.cell? ⟨g,o+4,none⟩=some (.slice b body.length bc) /\
   TwoAt n w r rs/\TwoAt n w a al/\StmsAt n w b body/\rs.length<=rc/\al.length<=ac/\rc<=maxLen/\ac<=maxLen/\body.length<=maxLen
def StmsAt (n:Nat)(w:World)(b:Option Addr):List Stm->Prop
 | []=>True
 | x::r=>∃ g o,b=some ⟨g,o,none⟩/\g < n/\StmAt n w g o x/\StmsAt n w (some ⟨g,o+5,none⟩) r
end
mutual
theorem StmAt.below {n:Nat}{w w':World}(x:Below n w w'):∀ {g o:Nat} (s:Stm),g < n->StmAt n w g o s->StmAt n w' g o s
 | g,o,.mk k nm rs al body,hg,h=>by
  rw[StmAt] at h ⊢;obtain⟨r,rc,a,ac,b,bc,h0,h1,h2,h3,h4,hr,ha,hb,hl⟩:=h;exact⟨r,rc,a,ac,b,bc,(x.cell (p:=⟨g,o,none⟩) hg).trans h0,(x.cell (p:=⟨g,o+1,none⟩) hg).trans h1,(x.cell (p:=⟨g,o+2,none⟩) hg).trans h2,(x.cell (p:=⟨g,o+3,none⟩) hg).trans h3,(x.cell (p:=⟨g,o+4,none⟩) hg).trans h4,hr.below x,ha.below x,StmsAt.below x body hb,hl⟩
theorem StmsAt.below {n:Nat}{w w':World}(x:Below n w w'):∀ {b:Option Addr} (L:List Stm),StmsAt n w b L->StmsAt n w' b L
 | _,[],_=>by rw[StmsAt];trivial
 | b,s::r,h=>by
  rw[StmsAt] at h ⊢;obtain⟨g,o,hb,hg,hs,hr⟩:=h;exact⟨g,o,hb,hg,StmAt.below x s hg hs,StmsAt.below x r hr⟩
end
mutual
theorem StmAt.mono {n m:Nat}{w:World}(hm:n<=m):∀ {g o:Nat} (s:Stm),StmAt n w g o s->StmAt m w g o s
 | g,o,.mk k nm rs al body,h=>by
  rw[StmAt] at h ⊢;obtain⟨r,rc,a,ac,b,bc,h0,h1,h2,h3,h4,hr,ha,hb,hl⟩:=h;exact⟨r,rc,a,ac,b,bc,h0,h1,h2,h3,h4,hr.mono hm,ha.mono hm,StmsAt.mono hm body hb,hl⟩
theorem StmsAt.mono {n m:Nat}{w:World}(hm:n<=m):∀ {b:Option Addr} (L:List Stm),StmsAt n w b L->StmsAt m w b L
 | _,[],_=>by rw[StmsAt];trivial
 | b,s::r,h=>by
  rw[StmsAt] at h ⊢;obtain⟨g,o,hb,hg,hs,hr⟩:=h;exact⟨g,o,hb,by omega,StmAt.mono hm s hs,StmsAt.mono hm r hr⟩
end
theorem StmsAt.at {n:Nat}{w:World}:∀ {b:Option Addr} (L:List Stm),StmsAt n w b L->∀ k (hk:k < L.length),∃ g o,b=some ⟨g,o,none⟩/\g < n/\StmAt n w g (o+k * 5) L[k]
 | _,[],_,k,hk=>absurd hk (by simp)
 | b,s::r,h,0,_=>by
  rw[StmsAt] at h;obtain⟨g,o,hb,hg,hs,_⟩:=h;exact⟨g,o,hb,hg,by rw[Nat.zero_mul,Nat.add_zero];exact hs⟩
 | b,s::r,h,k+1,hk=>by
  rw[StmsAt] at h;obtain⟨g,o,hb,hg,_,hr⟩:=h;obtain⟨g',o',hb',hg',hs'⟩:=StmsAt.at r hr k (by simpa using hk);injection hb' with hb';injection hb' with e1 e2 _;subst e1;subst e2;refine⟨g,o,hb,hg,?_⟩;rw[show o+(k+1) * 5=o+5+k * 5 by omega];exact hs'
theorem StmsAt.of {n:Nat}{w:World}:∀ (g o:Nat) (L:List Stm),g < n->(∀ k (hk:k < L.length),StmAt n w g (o+k * 5) L[k])->StmsAt n w (some ⟨g,o,none⟩) L
 | g,o,[],_,_=>by rw[StmsAt];trivial
 | g,o,s::r,hg,h=>by
  rw[StmsAt];refine⟨g,o,rfl,hg,(by have h0:=h 0 (Nat.zero_lt_succ _);rw[Nat.zero_mul,Nat.add_zero] at h0;exact h0),StmsAt.of g (o+5) r hg fun k hk=>?_⟩;have:=h (k+1) (by simpa using hk);rw[show o+5+k * 5=o+(k+1) * 5 by omega];exact this
end Go.Proofs.YtjaeedbjknejdaaGreatDoor.Tr

namespace Go.Proofs
open Go.Shelf
def Tryz.lays169_ren : Go.Shelf.Ren:=⟨fun | 169=>82 | n=>n,fun | 70=>147 | 9=>9 | 0=>0 | 72=>150 | 37=>148 | 127=>211 | 3=>3 | 5=>5 | n=>n,fun | n=>n⟩
theorem Tryz.Builder_Extra_169 : Builder.Extra Tryz.prog Tryz.lays169_ren:={
 sizeBuilder:=by kernel_rfl
 liesBuilder:=by kernel_rfl
 t5:=Tryz.underlying5
 a5:=Tryz.isAgg5
 z5:=Tryz.sizeOf5
 v5:=Tryz.zeroValue5
 infoByte:=by kernel_rfl
 cellsByte:=by kernel_rfl
 sizeByte:=by kernel_rfl
 neB5:=by decide }
def Tryz.lays156_ren : Go.Shelf.Ren:=⟨fun | 156=>133 | 165=>189 | 166=>190 | 169=>82 | 240=>236 | 241=>237 | 276=>275 | 277=>276 | n=>n,fun | 31=>43 | 9=>9 | 3=>3 | 4=>4 | 0=>0 | 20=>20 | 72=>150 | 76=>235 | 70=>147 | 37=>148 | 75=>234 | 127=>211 | 164=>308 | 5=>5 | 80=>154 | n=>n,fun | n=>n⟩
theorem Tryz.lays156 : Go.Proofs.Lays.n156 Tryz.prog Tryz.lays156_ren:={
 mixed:=by kernel_rfl
 f156:=Tryz.func133.trans (congrArg some (by kernel_rfl))
 f165:=Tryz.func189.trans (congrArg some (by kernel_rfl))
 f166:=Tryz.func190.trans (congrArg some (by kernel_rfl))
 f169:=Tryz.func82.trans (congrArg some (by kernel_rfl))
 f240:=Tryz.func236.trans (congrArg some (by kernel_rfl))
 f241:=Tryz.func237.trans (congrArg some (by kernel_rfl))
 f276:=Tryz.func275.trans (congrArg some (by kernel_rfl))
 f277:=Tryz.func276.trans (congrArg some (by kernel_rfl))
 t0:=Tryz.underlying0
 a0:=Tryz.isAgg0
 z0:=Tryz.sizeOf0
 v0:=Tryz.zeroValue0
 t3:=Tryz.underlying3
 a3:=Tryz.isAgg3
 z3:=Tryz.sizeOf3
 v3:=Tryz.zeroValue3
 t4:=Tryz.underlying4
 a4:=Tryz.isAgg4
 z4:=Tryz.sizeOf4
 v4:=Tryz.zeroValue4
 t9:=Tryz.underlying9
 a9:=Tryz.isAgg9
 z9:=Tryz.sizeOf9
 v9:=Tryz.zeroValue9
 t20:=Tryz.underlying20
 a20:=Tryz.isAgg20
 z20:=Tryz.sizeOf20
 v20:=Tryz.zeroValue20
 t31:=Tryz.underlying43
 a31:=Tryz.isAgg43
 z31:=Tryz.sizeOf43
 v31:=Tryz.zeroValue43
 t37:=Tryz.underlying148
 a37:=Tryz.isAgg148
 z37:=Tryz.sizeOf148
 v37:=Tryz.zeroValue148
 t70:=Tryz.underlying147
 a70:=Tryz.isAgg147
 z70:=Tryz.sizeOf147
 v70:=Tryz.zeroValue147
 t72:=Tryz.underlying150
 a72:=Tryz.isAgg150
 z72:=Tryz.sizeOf150
 v72:=Tryz.zeroValue150
 t75:=Tryz.underlying234
 a75:=Tryz.isAgg234
 z75:=Tryz.sizeOf234
 v75:=Tryz.zeroValue234
 t76:=Tryz.underlying235
 a76:=Tryz.isAgg235
 z76:=Tryz.sizeOf235
 v76:=Tryz.zeroValue235
 t127:=Tryz.underlying211
 a127:=Tryz.isAgg211
 z127:=Tryz.sizeOf211
 v127:=Tryz.zeroValue211
 t164:=Tryz.underlying308
 a164:=Tryz.isAgg308
 z164:=Tryz.sizeOf308
 v164:=Tryz.zeroValue308 }
theorem Tryz.Builder_Extra_156 : Builder.Extra Tryz.prog Tryz.lays156_ren:={
 sizeBuilder:=by kernel_rfl
 liesBuilder:=by kernel_rfl
 t5:=Tryz.underlying5
 a5:=Tryz.isAgg5
 z5:=Tryz.sizeOf5
 v5:=Tryz.zeroValue5
 infoByte:=by kernel_rfl
 cellsByte:=by kernel_rfl
 sizeByte:=by kernel_rfl
 neB5:=by decide }
open Go.RowKit in
theorem Tryz.strings_Join_none (a:Option Addr)(c:Nat)(sep:ByteArray)(w:World):
  Calls Tryz.prog 133 #[.slice a 0 c,.string sep] w fun e w'=>e=.returned (.string ⟨#[]⟩)/\w'=w:=Any.strings_Join_none Tryz.lays156 Tryz.Builder_Extra_156 a c sep w
open Go.RowKit in
theorem Tryz.strings_Join (bk o c:Nat)(xs:List ByteArray)(sep:ByteArray)(w:World)(hcells:∀ (j:Nat) x,xs[j]? = some x->w.cell? ⟨bk,o+j,none⟩=some (.string x))(hbk:bk < w.heap.size)(hN:xs.length<=140737488355328)(hcap:xs.length<=c)(hlen:(Lib.join (xs.map (·.data.toList)) sep.data.toList).length<=140737488355328):
  Calls Tryz.prog 133 #[.slice (some ⟨bk,o,none⟩) xs.length c,.string sep] w fun e w'=>e=.returned (.string ⟨(Lib.join (xs.map (·.data.toList)) sep.data.toList).toArray⟩)/\Below w.heap.size w w':=Any.strings_Join Tryz.lays156 Tryz.Builder_Extra_156 bk o c xs sep w hcells hbk hN hcap hlen
def Tryz.lays162_ren : Go.Shelf.Ren:=⟨fun | 162=>129 | 232=>183 | 227=>184 | 234=>185 | 236=>186 | 228=>233 | 271=>234 | 151=>235 | 120=>273 | 197=>263 | 152=>274 | 260=>287 | 137=>292 | 119=>293 | 224=>267 | 225=>266 | 217=>265 | 266=>288 | n=>n,fun | 9=>9 | 4=>4 | 3=>3 | 5=>5 | 117=>246 | 116=>245 | 0=>0 | 124=>249 | 21=>21 | 105=>279 | 46=>271 | 119=>334 | 139=>337 | 138=>336 | n=>n,fun | 3=>4 | 4=>5 | n=>n⟩
theorem Tryz.lays162 : Go.Proofs.Lays.n162 Tryz.prog Tryz.lays162_ren:={
 mixed:=by kernel_rfl
 f119:=Tryz.func293.trans (congrArg some (by kernel_rfl))
 f120:=Tryz.func273.trans (congrArg some (by kernel_rfl))
 f137:=Tryz.func292.trans (congrArg some (by kernel_rfl))
 f151:=Tryz.func235.trans (congrArg some (by kernel_rfl))
 f152:=Tryz.func274.trans (congrArg some (by kernel_rfl))
 f162:=Tryz.func129.trans (congrArg some (by kernel_rfl))
 f197:=Tryz.func263.trans (congrArg some (by kernel_rfl))
 f217:=Tryz.func265.trans (congrArg some (by kernel_rfl))
 f224:=Tryz.func267.trans (congrArg some (by kernel_rfl))
 f225:=Tryz.func266.trans (congrArg some (by kernel_rfl))
 f227:=Tryz.func184.trans (congrArg some (by kernel_rfl))
 f228:=Tryz.func233.trans (congrArg some (by kernel_rfl))
 f232:=Tryz.func183.trans (congrArg some (by kernel_rfl))
 f234:=Tryz.func185.trans (congrArg some (by kernel_rfl))
 f236:=Tryz.func186.trans (congrArg some (by kernel_rfl))
 f260:=Tryz.func287.trans (congrArg some (by kernel_rfl))
 f266:=Tryz.func288.trans (congrArg some (by kernel_rfl))
 f271:=Tryz.func234.trans (congrArg some (by kernel_rfl))
 t0:=Tryz.underlying0
 a0:=Tryz.isAgg0
 z0:=Tryz.sizeOf0
 v0:=Tryz.zeroValue0
 t3:=Tryz.underlying3
 a3:=Tryz.isAgg3
 z3:=Tryz.sizeOf3
 v3:=Tryz.zeroValue3
 t4:=Tryz.underlying4
 a4:=Tryz.isAgg4
 z4:=Tryz.sizeOf4
 v4:=Tryz.zeroValue4
 t5:=Tryz.underlying5
 a5:=Tryz.isAgg5
 z5:=Tryz.sizeOf5
 v5:=Tryz.zeroValue5
 t9:=Tryz.underlying9
 a9:=Tryz.isAgg9
 z9:=Tryz.sizeOf9
 v9:=Tryz.zeroValue9
 t21:=Tryz.underlying21
 a21:=Tryz.isAgg21
 z21:=Tryz.sizeOf21
 v21:=Tryz.zeroValue21
 t46:=Tryz.underlying271
 a46:=Tryz.isAgg271
 z46:=Tryz.sizeOf271
 v46:=Tryz.zeroValue271
 t105:=Tryz.underlying279
 a105:=Tryz.isAgg279
 z105:=Tryz.sizeOf279
 v105:=Tryz.zeroValue279
 t116:=Tryz.underlying245
 a116:=Tryz.isAgg245
 z116:=Tryz.sizeOf245
 t117:=Tryz.underlying246
 a117:=Tryz.isAgg246
 z117:=Tryz.sizeOf246
 v117:=Tryz.zeroValue246
 t119:=Tryz.underlying334
 a119:=Tryz.isAgg334
 z119:=Tryz.sizeOf334
 t124:=Tryz.underlying249
 a124:=Tryz.isAgg249
 z124:=Tryz.sizeOf249
 v124:=Tryz.zeroValue249
 t138:=Tryz.underlying336
 a138:=Tryz.isAgg336
 z138:=Tryz.sizeOf336
 v138:=Tryz.zeroValue336
 t139:=Tryz.underlying337
 a139:=Tryz.isAgg337
 z139:=Tryz.sizeOf337
 v139:=Tryz.zeroValue337
 g3:=by kernel_rfl
 g4:=by kernel_rfl }
open Go.RowKit in
theorem Tryz.strings_TrimRight_one (s:ByteArray)(c:UInt8)(hc:c.toNat < 128)(w:World)(hs:s.size<=9223372036854775807):
  Calls Tryz.prog 129 #[.string s,.string ⟨#[c]⟩] w fun e w'=>e=.returned (.string ⟨(Lib.trimRightB s.data.toList c).toArray⟩)/\w'=w:=Any.strings_TrimRight_one Tryz.lays162 s c hc w hs
def Tryz.lays103_ren : Go.Shelf.Ren:=⟨fun | 103=>169 | 210=>222 | 206=>245 | n=>n,fun | 9=>9 | 4=>4 | 24=>119 | 3=>3 | n=>n,fun | n=>n⟩
theorem Tryz.lays103 : Go.Proofs.Lays.n103 Tryz.prog Tryz.lays103_ren:={
 mixed:=by kernel_rfl
 f103:=Tryz.func169.trans (congrArg some (by kernel_rfl))
 f206:=Tryz.func245.trans (congrArg some (by kernel_rfl))
 f210:=Tryz.func222.trans (congrArg some (by kernel_rfl))
 t3:=Tryz.underlying3
 a3:=Tryz.isAgg3
 z3:=Tryz.sizeOf3
 v3:=Tryz.zeroValue3
 t4:=Tryz.underlying4
 a4:=Tryz.isAgg4
 z4:=Tryz.sizeOf4
 v4:=Tryz.zeroValue4
 t9:=Tryz.underlying9
 a9:=Tryz.isAgg9
 z9:=Tryz.sizeOf9
 v9:=Tryz.zeroValue9
 t24:=Tryz.underlying119
 a24:=Tryz.isAgg119
 z24:=Tryz.sizeOf119
 v24:=Tryz.zeroValue119 }
open Go.RowKit in
theorem Tryz.strings_CutPrefix (s p:ByteArray)(w:World):
  Calls Tryz.prog 169 #[.string s,.string p] w fun e w'=>e=.returned (.tuple #[.string ⟨(Lib.trimPrefix s.data.toList p.data.toList).toArray⟩,.bool (Lib.hasPrefix s.data.toList p.data.toList)])/\w'=w:=Any.strings_CutPrefix Tryz.lays103 s p w
def Tryz.lays172_ren : Go.Shelf.Ren:=⟨fun | 172=>171 | 244=>223 | 245=>224 | 247=>257 | 279=>258 | 280=>259 | 281=>260 | 282=>261 | 287=>284 | 316=>285 | 171=>64 | 205=>286 | 321=>298 | 322=>299 | 243=>130 | 246=>187 | 283=>229 | 284=>230 | 285=>231 | 286=>232 | 129=>255 | 317=>269 | 318=>270 | 319=>271 | 320=>272 | 337=>290 | 338=>291 | n=>n,fun | 9=>9 | 3=>3 | 75=>234 | 76=>235 | 4=>4 | 5=>5 | 167=>296 | 37=>148 | 0=>0 | 85=>297 | 2=>2 | 168=>299 | 53=>200 | 175=>317 | 46=>271 | 210=>320 | 127=>211 | 145=>333 | 143=>331 | 21=>21 | 171=>274 | 173=>277 | 212=>305 | 51=>295 | 20=>20 | 213=>306 | 232=>338 | 233=>339 | 80=>154 | n=>n,fun | 15=>2 | 16=>3 | 17=>1 | 18=>6 | 19=>7 | n=>n⟩
theorem Tryz.lays172 : Go.Proofs.Lays.n172 Tryz.prog Tryz.lays172_ren:={
 mixed:=by kernel_rfl
 f129:=Tryz.func255.trans (congrArg some (by kernel_rfl))
 f171:=Tryz.func64.trans (congrArg some (by kernel_rfl))
 f172:=Tryz.func171.trans (congrArg some (by kernel_rfl))
 f205:=Tryz.func286.trans (congrArg some (by kernel_rfl))
 f243:=Tryz.func130.trans (congrArg some (by kernel_rfl))
 f244:=Tryz.func223.trans (congrArg some (by kernel_rfl))
 f245:=Tryz.func224.trans (congrArg some (by kernel_rfl))
 f246:=Tryz.func187.trans (congrArg some (by kernel_rfl))
 f247:=Tryz.func257.trans (congrArg some (by kernel_rfl))
 f279:=Tryz.func258.trans (congrArg some (by kernel_rfl))
 f280:=Tryz.func259.trans (congrArg some (by kernel_rfl))
 f281:=Tryz.func260.trans (congrArg some (by kernel_rfl))
 f282:=Tryz.func261.trans (congrArg some (by kernel_rfl))
 f283:=Tryz.func229.trans (congrArg some (by kernel_rfl))
 f284:=Tryz.func230.trans (congrArg some (by kernel_rfl))
 f285:=Tryz.func231.trans (congrArg some (by kernel_rfl))
 f286:=Tryz.func232.trans (congrArg some (by kernel_rfl))
 f287:=Tryz.func284.trans (congrArg some (by kernel_rfl))
 f316:=Tryz.func285.trans (congrArg some (by kernel_rfl))
 f317:=Tryz.func269.trans (congrArg some (by kernel_rfl))
 f318:=Tryz.func270.trans (congrArg some (by kernel_rfl))
 f319:=Tryz.func271.trans (congrArg some (by kernel_rfl))
 f320:=Tryz.func272.trans (congrArg some (by kernel_rfl))
 f321:=Tryz.func298.trans (congrArg some (by kernel_rfl))
 f322:=Tryz.func299.trans (congrArg some (by kernel_rfl))
 f337:=Tryz.func290.trans (congrArg some (by kernel_rfl))
 f338:=Tryz.func291.trans (congrArg some (by kernel_rfl))
 t0:=Tryz.underlying0
 a0:=Tryz.isAgg0
 z0:=Tryz.sizeOf0
 v0:=Tryz.zeroValue0
 t2:=Tryz.underlying2
 a2:=Tryz.isAgg2
 z2:=Tryz.sizeOf2
 v2:=Tryz.zeroValue2
 t3:=Tryz.underlying3
 a3:=Tryz.isAgg3
 z3:=Tryz.sizeOf3
 v3:=Tryz.zeroValue3
 t4:=Tryz.underlying4
 a4:=Tryz.isAgg4
 z4:=Tryz.sizeOf4
 v4:=Tryz.zeroValue4
 t5:=Tryz.underlying5
 a5:=Tryz.isAgg5
 z5:=Tryz.sizeOf5
 v5:=Tryz.zeroValue5
 t9:=Tryz.underlying9
 a9:=Tryz.isAgg9
 z9:=Tryz.sizeOf9
 v9:=Tryz.zeroValue9
 t20:=Tryz.underlying20
 a20:=Tryz.isAgg20
 z20:=Tryz.sizeOf20
 v20:=Tryz.zeroValue20
 t21:=Tryz.underlying21
 a21:=Tryz.isAgg21
 z21:=Tryz.sizeOf21
 v21:=Tryz.zeroValue21
 t37:=Tryz.underlying148
 a37:=Tryz.isAgg148
 z37:=Tryz.sizeOf148
 v37:=Tryz.zeroValue148
 t46:=Tryz.underlying271
 a46:=Tryz.isAgg271
 z46:=Tryz.sizeOf271
 v46:=Tryz.zeroValue271
 t51:=Tryz.underlying295
 a51:=Tryz.isAgg295
 z51:=Tryz.sizeOf295
 v51:=Tryz.zeroValue295
 t53:=Tryz.underlying200
 a53:=Tryz.isAgg200
 z53:=Tryz.sizeOf200
 v53:=Tryz.zeroValue200
 t75:=Tryz.underlying234
 a75:=Tryz.isAgg234
 z75:=Tryz.sizeOf234
 v75:=Tryz.zeroValue234
 t76:=Tryz.underlying235
 a76:=Tryz.isAgg235
 z76:=Tryz.sizeOf235
 v76:=Tryz.zeroValue235
 t85:=Tryz.underlying297
 a85:=Tryz.isAgg297
 z85:=Tryz.sizeOf297
 v85:=Tryz.zeroValue297
 t127:=Tryz.underlying211
 a127:=Tryz.isAgg211
 z127:=Tryz.sizeOf211
 v127:=Tryz.zeroValue211
 t143:=Tryz.underlying331
 a143:=Tryz.isAgg331
 z143:=Tryz.sizeOf331
 v143:=Tryz.zeroValue331
 t145:=Tryz.underlying333
 a145:=Tryz.isAgg333
 z145:=Tryz.sizeOf333
 v145:=Tryz.zeroValue333
 t167:=Tryz.underlying296
 a167:=Tryz.isAgg296
 z167:=Tryz.sizeOf296
 v167:=Tryz.zeroValue296
 t168:=Tryz.underlying299
 a168:=Tryz.isAgg299
 z168:=Tryz.sizeOf299
 v168:=Tryz.zeroValue299
 t171:=Tryz.underlying274
 a171:=Tryz.isAgg274
 z171:=Tryz.sizeOf274
 v171:=Tryz.zeroValue274
 t173:=Tryz.underlying277
 a173:=Tryz.isAgg277
 z173:=Tryz.sizeOf277
 v173:=Tryz.zeroValue277
 t175:=Tryz.underlying317
 a175:=Tryz.isAgg317
 z175:=Tryz.sizeOf317
 v175:=Tryz.zeroValue317
 t210:=Tryz.underlying320
 a210:=Tryz.isAgg320
 z210:=Tryz.sizeOf320
 v210:=Tryz.zeroValue320
 t212:=Tryz.underlying305
 a212:=Tryz.isAgg305
 z212:=Tryz.sizeOf305
 v212:=Tryz.zeroValue305
 t213:=Tryz.underlying306
 a213:=Tryz.isAgg306
 z213:=Tryz.sizeOf306
 t232:=Tryz.underlying338
 a232:=Tryz.isAgg338
 z232:=Tryz.sizeOf338
 v232:=Tryz.zeroValue338
 t233:=Tryz.underlying339
 a233:=Tryz.isAgg339
 z233:=Tryz.sizeOf339
 v233:=Tryz.zeroValue339
 g15:=by kernel_rfl
 g16:=by kernel_rfl
 g17:=by kernel_rfl
 g18:=by kernel_rfl
 g19:=by kernel_rfl }
open Go.RowKit in
theorem Tryz.strconv_Atoi (s:ByteArray)(n:Int)(hl:s.size<=18)(h:Lib.atoi s.data.toList=some n)(w:World):
  Calls Tryz.prog 171 #[.string s] w fun e w'=>e=.returned (.tuple #[.int .i64 n,.nilIface])/\∃ t,w'=Lib.bytesWorld w 5 t:=Any.strconv_Atoi Tryz.lays172 s n hl h w
def Tryz.lays283_ren : Go.Shelf.Ren:=⟨fun | 283=>229 | n=>n,fun | 3=>3 | 9=>9 | 4=>4 | n=>n,fun | n=>n⟩
theorem Tryz.lays283 : Go.Proofs.Lays.n283 Tryz.prog Tryz.lays283_ren:={
 mixed:=by kernel_rfl
 f283:=Tryz.func229.trans (congrArg some (by kernel_rfl))
 t3:=Tryz.underlying3
 a3:=Tryz.isAgg3
 z3:=Tryz.sizeOf3
 v3:=Tryz.zeroValue3
 t4:=Tryz.underlying4
 a4:=Tryz.isAgg4
 z4:=Tryz.sizeOf4
 v4:=Tryz.zeroValue4
 t9:=Tryz.underlying9
 a9:=Tryz.isAgg9
 z9:=Tryz.sizeOf9
 v9:=Tryz.zeroValue9 }
open Go.Lib in
theorem Tryz.internal_strconv_small (i:Nat)(h:i < 100)(w:World):
  Calls Tryz.prog 229 #[.int .i64 i] w fun e w'=>e=.returned (.string ⟨(Lib.decDigits i).toArray⟩)/\w'=w:=Any.internal_strconv_small Tryz.lays283 i h w
def Tryz.laysM284_ren : Go.Shelf.Ren:=⟨fun | 284=>230 | 129=>255 | 317=>269 | 318=>270 | n=>n,fun | 53=>200 | 3=>3 | 212=>305 | 0=>0 | 4=>4 | 46=>271 | 5=>5 | 9=>9 | n=>n,fun | 17=>1 | n=>n⟩
theorem Tryz.laysM284 : Go.Proofs.LaysM.n284 Tryz.prog Tryz.laysM284_ren:={
 mixed:=by kernel_rfl
 f129:=Tryz.func255.trans (congrArg some (by kernel_rfl))
 f284:=Tryz.func230.trans (congrArg some (by kernel_rfl))
 f317:=Tryz.func269.trans (congrArg some (by kernel_rfl))
 f318:=Tryz.func270.trans (congrArg some (by kernel_rfl))
 t0:=Tryz.underlying0
 a0:=Tryz.isAgg0
 z0:=Tryz.sizeOf0
 v0:=Tryz.zeroValue0
 t3:=Tryz.underlying3
 a3:=Tryz.isAgg3
 z3:=Tryz.sizeOf3
 v3:=Tryz.zeroValue3
 t4:=Tryz.underlying4
 a4:=Tryz.isAgg4
 z4:=Tryz.sizeOf4
 v4:=Tryz.zeroValue4
 t5:=Tryz.underlying5
 a5:=Tryz.isAgg5
 z5:=Tryz.sizeOf5
 v5:=Tryz.zeroValue5
 t9:=Tryz.underlying9
 a9:=Tryz.isAgg9
 z9:=Tryz.sizeOf9
 v9:=Tryz.zeroValue9
 t46:=Tryz.underlying271
 a46:=Tryz.isAgg271
 z46:=Tryz.sizeOf271
 v46:=Tryz.zeroValue271
 t53:=Tryz.underlying200
 a53:=Tryz.isAgg200
 z53:=Tryz.sizeOf200
 v53:=Tryz.zeroValue200
 t212:=Tryz.underlying305
 a212:=Tryz.isAgg305
 z212:=Tryz.sizeOf305
 v212:=Tryz.zeroValue305
 g17:=by kernel_rfl
 i0:=by kernel_rfl
 i3:=by kernel_rfl
 i4:=by kernel_rfl
 i5:=by kernel_rfl
 i9:=by kernel_rfl
 i46:=by kernel_rfl
 i53:=by kernel_rfl
 i212:=by kernel_rfl
 m17:=by kernel_rfl }
open Go.Lib in
theorem Tryz.internal_strconv_numDigits (u : Nat) (h1 : 1 <= u) (h2 : u < 18446744073709551616) (w : World) (htab : Lib.TabIs Tryz.prog w "internal/strconv.uint64pow10" .u64 Lib.pow10Tab) :
    Calls Tryz.prog 230 #[.int .u64 u] w fun e w'=>e=.returned (.int .i64 (Lib.nDigits u))/\w'=w:=Any.internal_strconv_numDigits Tryz.laysM284 u h1 h2 w htab
def Tryz.lays285_ren : Go.Shelf.Ren:=⟨fun | 285=>231 | n=>n,fun | 37=>148 | 53=>200 | 3=>3 | 4=>4 | 51=>295 | 9=>9 | 5=>5 | 0=>0 | n=>n,fun | n=>n⟩
theorem Tryz.lays285 : Go.Proofs.Lays.n285 Tryz.prog Tryz.lays285_ren:={
 mixed:=by kernel_rfl
 f285:=Tryz.func231.trans (congrArg some (by kernel_rfl))
 t0:=Tryz.underlying0
 a0:=Tryz.isAgg0
 z0:=Tryz.sizeOf0
 v0:=Tryz.zeroValue0
 t3:=Tryz.underlying3
 a3:=Tryz.isAgg3
 z3:=Tryz.sizeOf3
 v3:=Tryz.zeroValue3
 t4:=Tryz.underlying4
 a4:=Tryz.isAgg4
 z4:=Tryz.sizeOf4
 v4:=Tryz.zeroValue4
 t5:=Tryz.underlying5
 a5:=Tryz.isAgg5
 z5:=Tryz.sizeOf5
 v5:=Tryz.zeroValue5
 t9:=Tryz.underlying9
 a9:=Tryz.isAgg9
 z9:=Tryz.sizeOf9
 v9:=Tryz.zeroValue9
 t37:=Tryz.underlying148
 a37:=Tryz.isAgg148
 z37:=Tryz.sizeOf148
 v37:=Tryz.zeroValue148
 t51:=Tryz.underlying295
 a51:=Tryz.isAgg295
 z51:=Tryz.sizeOf295
 v51:=Tryz.zeroValue295
 t53:=Tryz.underlying200
 a53:=Tryz.isAgg200
 z53:=Tryz.sizeOf200
 v53:=Tryz.zeroValue200 }
open Go.RowKit Go.Sort Go.Lib in
theorem Tryz.internal_strconv_formatBase10 (blk off cap:Nat)(u:Nat)(d:Array UInt8)(w:World)(hH:Holds (fun(b:UInt8)=>Value.int .u8 (b.toNat:Int)) w blk off d)(hu:u < 10 ^ d.size)(hu64:u < 18446744073709551616)(hsz:d.size < 4611686018427387904):
  Calls Tryz.prog 231 #[.slice (some ⟨blk,off,none⟩) d.size cap,.int .u64 u] w fun e w' =>
   e=.returned (.tuple #[])/\∃ (n v':Nat) (dk:Array UInt8),w'=(putRow (fun(b:UInt8)=>Value.int .u8 (b.toNat:Int)) w blk off dk).drewN n/\FmtInv d.size u 0 v' dk:=Any.internal_strconv_formatBase10 Tryz.lays285 blk off cap u d w hH hu hu64 hsz
def Tryz.laysM246_ren : Go.Shelf.Ren:=⟨fun | 246=>187 | 283=>229 | 284=>230 | 285=>231 | 286=>232 | 129=>255 | 317=>269 | 318=>270 | 319=>271 | 320=>272 | 337=>290 | 338=>291 | n=>n,fun | 2=>2 | 3=>3 | 9=>9 | 4=>4 | 171=>274 | 0=>0 | 53=>200 | 37=>148 | 5=>5 | 173=>277 | 212=>305 | 51=>295 | 20=>20 | 213=>306 | 46=>271 | 232=>338 | 233=>339 | n=>n,fun | 17=>1 | 18=>6 | 19=>7 | n=>n⟩
def Tryz.laysM243_ren : Go.Shelf.Ren:=⟨fun | 243=>130 | 246=>187 | 283=>229 | 284=>230 | 285=>231 | 286=>232 | 129=>255 | 317=>269 | 318=>270 | 319=>271 | 320=>272 | 337=>290 | 338=>291 | n=>n,fun | 3=>3 | 9=>9 | 2=>2 | 4=>4 | 171=>274 | 0=>0 | 53=>200 | 37=>148 | 5=>5 | 173=>277 | 212=>305 | 51=>295 | 20=>20 | 213=>306 | 46=>271 | 232=>338 | 233=>339 | n=>n,fun | 17=>1 | 18=>6 | 19=>7 | n=>n⟩
def Tryz.laysM171_ren : Go.Shelf.Ren:=⟨fun | 171=>64 | 243=>130 | 246=>187 | 283=>229 | 284=>230 | 285=>231 | 286=>232 | 129=>255 | 317=>269 | 318=>270 | 319=>271 | 320=>272 | 337=>290 | 338=>291 | n=>n,fun | 3=>3 | 9=>9 | 2=>2 | 4=>4 | 171=>274 | 0=>0 | 53=>200 | 37=>148 | 5=>5 | 173=>277 | 212=>305 | 51=>295 | 20=>20 | 213=>306 | 46=>271 | 232=>338 | 233=>339 | n=>n,fun | 17=>1 | 18=>6 | 19=>7 | n=>n⟩
theorem Tryz.laysM171 : Go.Proofs.LaysM.n171 Tryz.prog Tryz.laysM171_ren:={
 mixed:=by kernel_rfl
 f129:=Tryz.func255.trans (congrArg some (by kernel_rfl))
 f171:=Tryz.func64.trans (congrArg some (by kernel_rfl))
 f243:=Tryz.func130.trans (congrArg some (by kernel_rfl))
 f246:=Tryz.func187.trans (congrArg some (by kernel_rfl))
 f283:=Tryz.func229.trans (congrArg some (by kernel_rfl))
 f284:=Tryz.func230.trans (congrArg some (by kernel_rfl))
 f285:=Tryz.func231.trans (congrArg some (by kernel_rfl))
 f286:=Tryz.func232.trans (congrArg some (by kernel_rfl))
 f317:=Tryz.func269.trans (congrArg some (by kernel_rfl))
 f318:=Tryz.func270.trans (congrArg some (by kernel_rfl))
 f319:=Tryz.func271.trans (congrArg some (by kernel_rfl))
 f320:=Tryz.func272.trans (congrArg some (by kernel_rfl))
 f337:=Tryz.func290.trans (congrArg some (by kernel_rfl))
 f338:=Tryz.func291.trans (congrArg some (by kernel_rfl))
 t0:=Tryz.underlying0
 a0:=Tryz.isAgg0
 z0:=Tryz.sizeOf0
 v0:=Tryz.zeroValue0
 t2:=Tryz.underlying2
 a2:=Tryz.isAgg2
 z2:=Tryz.sizeOf2
 v2:=Tryz.zeroValue2
 t3:=Tryz.underlying3
 a3:=Tryz.isAgg3
 z3:=Tryz.sizeOf3
 v3:=Tryz.zeroValue3
 t4:=Tryz.underlying4
 a4:=Tryz.isAgg4
 z4:=Tryz.sizeOf4
 v4:=Tryz.zeroValue4
 t5:=Tryz.underlying5
 a5:=Tryz.isAgg5
 z5:=Tryz.sizeOf5
 v5:=Tryz.zeroValue5
 t9:=Tryz.underlying9
 a9:=Tryz.isAgg9
 z9:=Tryz.sizeOf9
 v9:=Tryz.zeroValue9
 t20:=Tryz.underlying20
 a20:=Tryz.isAgg20
 z20:=Tryz.sizeOf20
 v20:=Tryz.zeroValue20
 t37:=Tryz.underlying148
 a37:=Tryz.isAgg148
 z37:=Tryz.sizeOf148
 v37:=Tryz.zeroValue148
 t46:=Tryz.underlying271
 a46:=Tryz.isAgg271
 z46:=Tryz.sizeOf271
 v46:=Tryz.zeroValue271
 t51:=Tryz.underlying295
 a51:=Tryz.isAgg295
 z51:=Tryz.sizeOf295
 v51:=Tryz.zeroValue295
 t53:=Tryz.underlying200
 a53:=Tryz.isAgg200
 z53:=Tryz.sizeOf200
 v53:=Tryz.zeroValue200
 t171:=Tryz.underlying274
 a171:=Tryz.isAgg274
 z171:=Tryz.sizeOf274
 v171:=Tryz.zeroValue274
 t173:=Tryz.underlying277
 a173:=Tryz.isAgg277
 z173:=Tryz.sizeOf277
 v173:=Tryz.zeroValue277
 t212:=Tryz.underlying305
 a212:=Tryz.isAgg305
 z212:=Tryz.sizeOf305
 v212:=Tryz.zeroValue305
 t213:=Tryz.underlying306
 a213:=Tryz.isAgg306
 z213:=Tryz.sizeOf306
 t232:=Tryz.underlying338
 a232:=Tryz.isAgg338
 z232:=Tryz.sizeOf338
 v232:=Tryz.zeroValue338
 t233:=Tryz.underlying339
 a233:=Tryz.isAgg339
 z233:=Tryz.sizeOf339
 v233:=Tryz.zeroValue339
 g17:=by kernel_rfl
 g18:=by kernel_rfl
 g19:=by kernel_rfl
 i0:=by kernel_rfl
 i2:=by kernel_rfl
 i3:=by kernel_rfl
 i4:=by kernel_rfl
 i5:=by kernel_rfl
 i9:=by kernel_rfl
 i20:=by kernel_rfl
 i37:=by kernel_rfl
 i46:=by kernel_rfl
 i51:=by kernel_rfl
 i53:=by kernel_rfl
 i171:=by kernel_rfl
 i173:=by kernel_rfl
 i212:=by kernel_rfl
 i232:=by kernel_rfl
 i233:=by kernel_rfl
 m17:=by kernel_rfl
 m18:=by kernel_rfl
 m19:=by kernel_rfl }
open Go.RowKit Go.Sort Go.Lib in
theorem Tryz.strconv_Itoa (n : Int) (h0 : -9223372036854775808 <= n) (h1 : n <= 9223372036854775807) (w : World) (htab : Lib.TabIs Tryz.prog w "internal/strconv.uint64pow10" .u64 Lib.pow10Tab) :
    Calls Tryz.prog 64 #[.int .i64 n] w fun e w'=>e=.returned (.string ⟨(Lib.itoa n).toArray⟩)/\∃ k os,w'=grow (w.drewN k) os:=Any.strconv_Itoa Tryz.laysM171 n h0 h1 w htab
def Tryz.lays219_ren : Go.Shelf.Ren:=⟨fun | 219=>228 | 217=>265 | 225=>266 | 224=>267 | 267=>268 | 266=>288 | 314=>289 | n=>n,fun | 9=>9 | 3=>3 | 4=>4 | 5=>5 | 46=>271 | 146=>322 | 51=>295 | n=>n,fun | 1=>0 | n=>n⟩
def Tryz.lays145_ren : Go.Shelf.Ren:=⟨fun | 145=>113 | 220=>174 | 219=>228 | 217=>265 | 225=>266 | 224=>267 | 267=>268 | 266=>288 | 314=>289 | n=>n,fun | 9=>9 | 4=>4 | 59=>189 | 3=>3 | 5=>5 | 46=>271 | 146=>322 | 51=>295 | n=>n,fun | 1=>0 | n=>n⟩
theorem Tryz.lays145 : Go.Proofs.Lays.n145 Tryz.prog Tryz.lays145_ren:={
 mixed:=by kernel_rfl
 f145:=Tryz.func113.trans (congrArg some (by kernel_rfl))
 f217:=Tryz.func265.trans (congrArg some (by kernel_rfl))
 f219:=Tryz.func228.trans (congrArg some (by kernel_rfl))
 f220:=Tryz.func174.trans (congrArg some (by kernel_rfl))
 f224:=Tryz.func267.trans (congrArg some (by kernel_rfl))
 f225:=Tryz.func266.trans (congrArg some (by kernel_rfl))
 f266:=Tryz.func288.trans (congrArg some (by kernel_rfl))
 f267:=Tryz.func268.trans (congrArg some (by kernel_rfl))
 f314:=Tryz.func289.trans (congrArg some (by kernel_rfl))
 t3:=Tryz.underlying3
 a3:=Tryz.isAgg3
 z3:=Tryz.sizeOf3
 v3:=Tryz.zeroValue3
 t4:=Tryz.underlying4
 a4:=Tryz.isAgg4
 z4:=Tryz.sizeOf4
 v4:=Tryz.zeroValue4
 t5:=Tryz.underlying5
 a5:=Tryz.isAgg5
 z5:=Tryz.sizeOf5
 v5:=Tryz.zeroValue5
 t9:=Tryz.underlying9
 a9:=Tryz.isAgg9
 z9:=Tryz.sizeOf9
 v9:=Tryz.zeroValue9
 t46:=Tryz.underlying271
 a46:=Tryz.isAgg271
 z46:=Tryz.sizeOf271
 v46:=Tryz.zeroValue271
 t51:=Tryz.underlying295
 a51:=Tryz.isAgg295
 z51:=Tryz.sizeOf295
 v51:=Tryz.zeroValue295
 t59:=Tryz.underlying189
 a59:=Tryz.isAgg189
 z59:=Tryz.sizeOf189
 v59:=Tryz.zeroValue189
 t146:=Tryz.underlying322
 a146:=Tryz.isAgg322
 z146:=Tryz.sizeOf322
 v146:=Tryz.zeroValue322
 g1:=by kernel_rfl }
open Go.RowKit Go.Lib in
theorem Tryz.strings_Cut (s sep:ByteArray)(m:Int)(w:World)(hs:s.size < 4294967281)(hm:w.cell? ⟨0,0,none⟩=some (.int .i64 m)):
  Calls Tryz.prog 113 #[.string s,.string sep] w fun e w'=>e=.returned (.tuple #[.string ⟨(Lib.cut s.data.toList sep.data.toList).1.toArray⟩,.string ⟨(Lib.cut s.data.toList sep.data.toList).2.1.toArray⟩,.bool (Lib.cut s.data.toList sep.data.toList).2.2])/\∃ n,w'=w.drewN n:=Any.strings_Cut Tryz.lays145 s sep m w hs hm
def Tryz.lays138_ren : Go.Shelf.Ren:=⟨fun | 138=>226 | 195=>262 | 218=>264 | 143=>227 | 219=>228 | 217=>265 | 225=>266 | 224=>267 | 267=>268 | 266=>288 | 314=>289 | n=>n,fun | 9=>9 | 3=>3 | 4=>4 | 5=>5 | 0=>0 | 46=>271 | 146=>322 | 51=>295 | n=>n,fun | 1=>0 | n=>n⟩
theorem Tryz.lays138 : Go.Proofs.Lays.n138 Tryz.prog Tryz.lays138_ren:={
 mixed:=by kernel_rfl
 f138:=Tryz.func226.trans (congrArg some (by kernel_rfl))
 f143:=Tryz.func227.trans (congrArg some (by kernel_rfl))
 f195:=Tryz.func262.trans (congrArg some (by kernel_rfl))
 f217:=Tryz.func265.trans (congrArg some (by kernel_rfl))
 f218:=Tryz.func264.trans (congrArg some (by kernel_rfl))
 f219:=Tryz.func228.trans (congrArg some (by kernel_rfl))
 f224:=Tryz.func267.trans (congrArg some (by kernel_rfl))
 f225:=Tryz.func266.trans (congrArg some (by kernel_rfl))
 f266:=Tryz.func288.trans (congrArg some (by kernel_rfl))
 f267:=Tryz.func268.trans (congrArg some (by kernel_rfl))
 f314:=Tryz.func289.trans (congrArg some (by kernel_rfl))
 t0:=Tryz.underlying0
 a0:=Tryz.isAgg0
 z0:=Tryz.sizeOf0
 v0:=Tryz.zeroValue0
 t3:=Tryz.underlying3
 a3:=Tryz.isAgg3
 z3:=Tryz.sizeOf3
 v3:=Tryz.zeroValue3
 t4:=Tryz.underlying4
 a4:=Tryz.isAgg4
 z4:=Tryz.sizeOf4
 v4:=Tryz.zeroValue4
 t5:=Tryz.underlying5
 a5:=Tryz.isAgg5
 z5:=Tryz.sizeOf5
 v5:=Tryz.zeroValue5
 t9:=Tryz.underlying9
 a9:=Tryz.isAgg9
 z9:=Tryz.sizeOf9
 v9:=Tryz.zeroValue9
 t46:=Tryz.underlying271
 a46:=Tryz.isAgg271
 z46:=Tryz.sizeOf271
 v46:=Tryz.zeroValue271
 t51:=Tryz.underlying295
 a51:=Tryz.isAgg295
 z51:=Tryz.sizeOf295
 v51:=Tryz.zeroValue295
 t146:=Tryz.underlying322
 a146:=Tryz.isAgg322
 z146:=Tryz.sizeOf322
 v146:=Tryz.zeroValue322
 g1:=by kernel_rfl }
open Go.RowKit Go.Lib in
theorem Tryz.strings_Count_one (s:ByteArray)(c:UInt8)(w:World):
  Calls Tryz.prog 226 #[.string s,.string ⟨#[c]⟩] w fun e w'=>e=.returned (.int .i64 (Lib.countByte s.data.toList c))/\w'=w:=Any.strings_Count_one Tryz.lays138 s c w
def Tryz.lays107_ren : Go.Shelf.Ren:=⟨fun | 107=>132 | 108=>188 | n=>n,fun | 28=>48 | 3=>3 | 4=>4 | 0=>0 | n=>n,fun | n=>n⟩
theorem Tryz.lays107 : Go.Proofs.Lays.n107 Tryz.prog Tryz.lays107_ren:={
 mixed:=by kernel_rfl
 f107:=Tryz.func132.trans (congrArg some (by kernel_rfl))
 f108:=Tryz.func188.trans (congrArg some (by kernel_rfl))
 t0:=Tryz.underlying0
 a0:=Tryz.isAgg0
 z0:=Tryz.sizeOf0
 v0:=Tryz.zeroValue0
 t3:=Tryz.underlying3
 a3:=Tryz.isAgg3
 z3:=Tryz.sizeOf3
 v3:=Tryz.zeroValue3
 t4:=Tryz.underlying4
 a4:=Tryz.isAgg4
 z4:=Tryz.sizeOf4
 v4:=Tryz.zeroValue4
 t28:=Tryz.underlying48
 a28:=Tryz.isAgg48
 z28:=Tryz.sizeOf48
 v28:=Tryz.zeroValue48 }
open Go.Lib in
theorem Tryz.slices_Contains_int (b off n c:Nat)(zs:List Int)(x:Int)(w:World)(hz:n<=zs.length)(hbig:n<=9223372036854775807)(hc:∀ j,j < zs.length->w.cell? ⟨b,off+j,none⟩=some (.int .i64 (zs.getD j 0))):
  Calls Tryz.prog 132 #[.slice (some ⟨b,off,none⟩) n c,.int .i64 x] w fun e w'=>e=.returned (.bool ((zs.take n).contains x))/\w'=w:=Any.slices_Contains_int Tryz.lays107 b off n c zs x w hz hbig hc
open Go.Lib in
theorem Tryz.slices_Contains_int_empty (a:Option Addr)(c:Nat)(x:Int)(w:World):
  Calls Tryz.prog 132 #[.slice a 0 c,.int .i64 x] w fun e w'=>e=.returned (.bool false)/\w'=w:=Any.slices_Contains_int_empty Tryz.lays107 a c x w
end Go.Proofs

namespace Go.Proofs.YtjaeedbjknejdaaGreatDoor.Fx
open Go.RowKit Go.Sort Go.Lib Go.Shelf
def Pows (w : World) : Prop := Lib.TabIs Tryz.prog w "internal/strconv.uint64pow10" .u64 Lib.pow10Tab
theorem Pows.ext {w w':World}(h:Pows w)(k:Ext w w'):Pows w':=Ext.tab k h
theorem holds_zero0 (w:World)(T:TypeId)(nd:Nat)(hs:nd<=24):Holds (fun(b:UInt8)=>Value.int .u8 (b.toNat:Int)) (w.alloc (.cells zeros24 T)) w.heap.size 0 (Array.replicate nd (0:UInt8)):=fun j hj=>by
 have hj':j < nd:=by simpa using hj
 refine⟨?_,World.frozen?_alloc_new _ _ _ _⟩;rw[World.cell?_alloc_new,zeros24_at _ (by omega),getElem!_pos _ j hj];simp
theorem fin_pos0 (w:World)(o:Obj)(dk:Array UInt8)(k:Nat):Ext w ((putRow (fun(b:UInt8)=>Value.int .u8 (b.toNat:Int)) (w.alloc o) w.heap.size 0 dk).drewN k):=by
 rw[alloc_eq_grow];obtain⟨os',_,e⟩:=putRow_grow_new (fun(b:UInt8)=>Value.int .u8 (b.toNat:Int)) w #[o] w.heap.size 0 dk (Nat.le_refl _);rw[e];exact((Ext.refl _).grow _).drewN _
theorem iformatUint_any (u:Nat)(hu64:u < 18446744073709551616)(w:World)(htab:Pows w):
  Calls Tryz.prog 182 #[.int .u64 u,.int .i64 10] w fun e w'=>e=.returned (.string ⟨(Lib.decDigits u).toArray⟩)/\Ext w w':=by
 by_cases hs:u < 100
 ·go_enter Tryz.func182,Tryz.ntmps182;go_wp2_with (go_at_call 229;refine(Tryz.internal_strconv_small u hs _).mono ?_;rintro e w ⟨rfl,rfl⟩);go_ret;exact⟨rfl,Ext.refl _⟩
 have hu1:1<=u:=by omega
 have hnd20:Lib.nDigits u<=20:=Lib.nDigits_le20 u hu64;have hb3:Lib.nDigits u<=24:=by omega
 have hal:Tryz.prog.arrayLen 274=24:=by simp[Program.arrayLen,Tryz.underlying274]
 have hsl1:∀ W,(Instr.sliceAt 274 (.pointer (some ⟨w.heap.size,0,none⟩)) none (some (.int .i64 (Lib.nDigits u:Int))) none).run Tryz.prog W=.ok (.slice (some ⟨w.heap.size,0,none⟩) (Lib.nDigits u) 24) W:=fun W=>by
  rw[run_sliceAt_array_h W 274 ⟨w.heap.size,0,none⟩ (by simp[Program.arrayLen,Program.elem,Tryz.underlying274]) .i64 (Lib.nDigits u:Int) (by omega) (by rw[hal];omega)];go_simp
 have hH0:=holds_zero0 w 274 (Lib.nDigits u) hb3;have hfmt:=Tryz.internal_strconv_formatBase10 w.heap.size 0 24 u (Array.replicate (Lib.nDigits u) 0) (w.alloc (.cells Lib.zeros24 274)) hH0 (by rw[Array.size_replicate];exact Lib.lt_pow_nDigits u) hu64 (by rw[Array.size_replicate];omega);rw[Array.size_replicate] at hfmt;have HH0:=hid hH0;clear hH0 hal;go_enter Tryz.func182,Tryz.ntmps182;go_wp2_with (go_at_call 230;refine(Tryz.internal_strconv_numDigits u hu1 hu64 _ (Lib.tabIs_alloc htab _)).mono ?_;rintro e w1 ⟨rfl,rfl⟩)
 go_at_call 231
 refine hfmt.mono ?_;rintro e w' ⟨rfl,k,v',dk,rfl,hF⟩
 have hcv:(convert 148 9 (.slice (some ⟨w.heap.size,0,none⟩) (Lib.nDigits u) 24)).run Tryz.prog ((putRow (fun(b:UInt8)=>Value.int .u8 (b.toNat:Int)) (w.alloc (.cells Lib.zeros24 274)) w.heap.size 0 dk).drewN k)=.ok (.string ⟨(Lib.decDigits u).toArray⟩) ((putRow (fun(b:UInt8)=>Value.int .u8 (b.toNat:Int)) (w.alloc (.cells Lib.zeros24 274)) w.heap.size 0 dk).drewN k):=by
  have h:=run_convert_bytes_back (P:=Tryz.prog) ((putRow (fun(b:UInt8)=>Value.int .u8 (b.toNat:Int)) (w.alloc (.cells Lib.zeros24 274)) w.heap.size 0 dk).drewN k) 148 9 5 ⟨w.heap.size,0,none⟩ 24 (Lib.decDigits u) Tryz.underlying148 Tryz.underlying5 Tryz.underlying9 (fun j hj=>by
   rw[Lib.row_is_numeral hF j hj,Lib.add_plain,World.cell?_drewN]
   exact cell?_putRow (fun(b:UInt8)=>Value.int .u8 (b.toNat:Int)) _ w.heap.size 0 _ dk HH0.out (by rw[hF.size,Array.size_replicate]) j (by rw[hF.size];rw[Lib.decDigits_length] at hj;exact hj))
  rw[Lib.decDigits_length] at h;exact h
 go_wp2;go_ret;exact⟨rfl,fin_pos0 w _ dk k⟩
theorem formatUint_any (u:Nat)(hu64:u < 18446744073709551616)(w:World)(htab:Pows w):
  Calls Tryz.prog 128 #[.int .u64 u,.int .i64 10] w fun e w'=>e=.returned (.string ⟨(Lib.decDigits u).toArray⟩)/\Ext w w':=by
 go_enter Tryz.func128,Tryz.ntmps128;go_wp2_with (go_at_call 182;refine(iformatUint_any u hu64 _ htab).mono ?_;rintro e w1 ⟨rfl,hx⟩);go_ret;exact⟨rfl,hx⟩
end Go.Proofs.YtjaeedbjknejdaaGreatDoor.Fx
