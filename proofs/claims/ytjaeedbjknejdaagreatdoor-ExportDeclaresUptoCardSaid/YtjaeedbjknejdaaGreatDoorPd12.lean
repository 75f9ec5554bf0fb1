/- Packed texts: ExpEql, NorRowP, NorMem, NorRow, ExpText, ExpVal -/
import Derived.Test.YtjaeedbjknejdaaGreatDoorPd11
import Derived.Maps.Ext
import Derived.Maps.RangeWalk
import Derived.Maps.StringElems
import Derived.Lib.Bytealg
import Derived.Lib.Join
set_option linter.unusedVariables false
set_option linter.unusedSimpArgs false
set_option maxHeartbeats 16000000
set_option maxRecDepth 100000
namespace Go.Proofs.YtjaeedbjknejdaaGreatDoor.Ex
open Go.RowKit Go.Sort Go.Lib Go.Shelf Fx Lx Tr At Go.Proofs.YtjaeedbjknejdaaGreatDoor.Nm
theorem cntL_len : ∀ L:List Stm,L.length<=cntL L
 | []=>by rw[cntL_nil];exact Nat.le_refl _
 | x::r=>by
  have h1:=cntS_body x;have h2:=cntL_len r;rw[cntL_cons,List.length_cons];omega
end Go.Proofs.YtjaeedbjknejdaaGreatDoor.Ex

namespace Go.Proofs.YtjaeedbjknejdaaGreatDoor.Nm
open Go.RowKit Go.Sort Go.Lib Go.Shelf Fx Lx Tr At Pa
def OkB (nn B:Nat)(v:Value):Nat->Prop:=fun g=>g < nn\/(B<=g/\some g ≠ v.ownBlock)
structure BarAt (B nn:Nat)(K:List Stm)(ov:Value)(wr:World):Prop where
 own:∃ X,wr.ownsRow B 67 5 ov K.length X/\StmsC (OkB nn B ov) wr K X
theorem info_stm : (Tryz.prog.info? 67).map (fun i=>(i.zero,i.size,i.bytes))=some (some (.agg #[.int .i64 0,.string ⟨#[]⟩,.slice none 0 0,.slice none 0 0,.slice none 0 0]),5,96):=by kernel_rfl
theorem size_setC (w:World)(b j:Nat)(u:Value):(w.setCell ⟨b,j,none⟩ u).heap.size=w.heap.size:=by simp[World.setCell]
end Go.Proofs.YtjaeedbjknejdaaGreatDoor.Nm

namespace Go.Proofs.YtjaeedbjknejdaaGreatDoor.Nm
open Go.RowKit Go.Lib Fx Lx At
def NdIn (w:World)(a:Option Addr)(L:List Nd):Prop :=
 ∀ k (h:k < L.length),∃ g o p c,a=some ⟨g,o,none⟩/\w.cell? ⟨g,o+k * 6,none⟩=some (.string L[k].name)/\w.cell? ⟨g,o+k * 6+1,none⟩=some (.string L[k].label) /\
  w.cell? ⟨g,o+k * 6+2,none⟩=some (.int .i64 L[k].w)/\w.cell? ⟨g,o+k * 6+3,none⟩=some (.int .i64 L[k].h)/\w.cell? ⟨g,o+k * 6+4,none⟩=some (.int .i64 L[k].c) /\
  w.cell? ⟨g,o+k * 6+5,none⟩=some (.slice p L[k].ports.length c)/\PrtIn w p L[k].ports
def EdIn (w:World)(a:Option Addr)(L:List Ed):Prop :=
 ∀ k (h:k < L.length),∃ g o,a=some ⟨g,o,none⟩/\w.cell? ⟨g,o+k * 7,none⟩=some (.int .i64 L[k].a)/\w.cell? ⟨g,o+k * 7+1,none⟩=some (.int .i64 L[k].b) /\
  w.cell? ⟨g,o+k * 7+2,none⟩=some (.int .i64 L[k].ap)/\w.cell? ⟨g,o+k * 7+3,none⟩=some (.int .i64 L[k].bp)/\w.cell? ⟨g,o+k * 7+4,none⟩=some (.string L[k].label) /\
  w.cell? ⟨g,o+k * 7+5,none⟩=some (.int .i64 L[k].wt)/\w.cell? ⟨g,o+k * 7+6,none⟩=some (.int .i64 L[k].len)
def ClIn (w:World)(a:Option Addr)(L:List (ByteArray × Int)):Prop :=
 ∀ k (h:k < L.length),∃ g o,a=some ⟨g,o,none⟩/\w.cell? ⟨g,o+k * 2,none⟩=some (.string L[k].1)/\w.cell? ⟨g,o+k * 2+1,none⟩=some (.int .i64 L[k].2)
theorem NdIn.ext {w w':World}{a:Option Addr}{L:List Nd}(h:NdIn w a L)(x:Ext w w'):NdIn w' a L:=fun k hk=>by
 obtain⟨g,o,p,c,ha,h0,h1,h2,h3,h4,h5,h6⟩:=h k hk;exact⟨g,o,p,c,ha,x.cell h0,x.cell h1,x.cell h2,x.cell h3,x.cell h4,x.cell h5,h6.ext x⟩
theorem EdIn.ext {w w':World}{a:Option Addr}{L:List Ed}(h:EdIn w a L)(x:Ext w w'):EdIn w' a L:=fun k hk=>by
 obtain⟨g,o,ha,h0,h1,h2,h3,h4,h5,h6⟩:=h k hk;exact⟨g,o,ha,x.cell h0,x.cell h1,x.cell h2,x.cell h3,x.cell h4,x.cell h5,x.cell h6⟩
theorem ClIn.ext {w w':World}{a:Option Addr}{L:List (ByteArray × Int)}(h:ClIn w a L)(x:Ext w w'):ClIn w' a L:=fun k hk=>by
 obtain⟨g,o,ha,h0,h1⟩:=h k hk;exact⟨g,o,ha,x.cell h0,x.cell h1⟩
def GrIn (w:World)(v:Value)(g:Gr):Prop :=
 ∃ n nc e ec c cc,v=.agg #[.string g.name,.bool g.dir,.slice n g.N.length nc,.slice e g.E.length ec,.slice c g.C.length cc]/\NdIn w n g.N/\EdIn w e g.E/\ClIn w c g.C
theorem GrIn.ext {w w':World}{v:Value}{g:Gr}(h:GrIn w v g)(x:Ext w w'):GrIn w' v g:=by
 obtain⟨n,nc,e,ec,c,cc,hv,h1,h2,h3⟩:=h;exact⟨n,nc,e,ec,c,cc,hv,h1.ext x,h2.ext x,h3.ext x⟩
end Go.Proofs.YtjaeedbjknejdaaGreatDoor.Nm

namespace Go.Proofs.YtjaeedbjknejdaaGreatDoor.Nm
open Go.RowKit Go.Sort Go.Lib Fx Lx Tr At
def tyO : Obj->Option TypeId
 | .cells _ T _=>some T
 | _=>none
def TyOf (w:World)(row:Option Nat)(t:Option TypeId):Prop:=∀ g,row=some g->∃ o,w.heap[g]? = some o/\tyO o=t
theorem blk_keep {w w':World}{row:Option Nat}{t:Option TypeId}{b:Nat}{o:Obj}(h:w.heap[b]? = some o)(hg:w.grownBy w' row)(ht:TyOf w row t)(hne:tyO o ≠ t):w'.heap[b]? = some o :=
 (hg.block b (Array.getElem?_eq_some_iff.1 h).1 (fun e=>by
  obtain⟨o',h1,h2⟩:=ht b e.symm;rw[h] at h1;injection h1 with h1;subst h1
  exact hne h2)).trans h
theorem cel_keep {w w':World}{row:Option Nat}{t:Option TypeId}{b:Nat}{cs:Array Value}{T:TypeId}{fl:Nat × Nat}(h:w.heap[b]? = some (.cells cs T fl))(hg:w.grownBy w' row)(ht:TyOf w row t)(hne:some T ≠ t):w'.heap[b]? = some (.cells cs T fl):=blk_keep h hg ht hne
theorem cel_ty {w:World}{b:Nat}{cs:Array Value}{T:TypeId}{fl:Nat × Nat}(h:w.heap[b]? = some (.cells cs T fl)):TyOf w (some b) (some T):=fun g hg=>by
 injection hg with hg;subst hg;exact⟨_,h,rfl⟩
theorem row_ty {w:World}{B:Nat}{T:TypeId}{sz:Nat}{v:Value}{n:Nat}{xs:List Value}(h:w.ownsRow B T sz v n xs):TyOf w v.ownBlock (some T):=fun g hg=>by
 rcases h.2 with⟨rfl,_⟩ | ⟨g',cap,cur,rfl,_,hc,_⟩
 ·cases hg
 injection hg with hg;subst hg;exact⟨_,hc,rfl⟩
theorem row_val {w:World}{B:Nat}{T:TypeId}{sz:Nat}{v:Value}{n:Nat}{xs:List Value}(h:w.ownsRow B T sz v n xs):∃ a c,v=.slice a n c/\n<=c/\c<=maxLen:=by
 rcases h.2 with⟨rfl,rfl⟩ | ⟨g',cap,cur,rfl,_,_,h1,h2,_⟩
 ·exact⟨_,_,rfl,Nat.le_refl _,Nat.zero_le _⟩
 exact⟨_,_,rfl,h1,h2⟩
theorem row_keep {w w':World}{row:Option Nat}{t:Option TypeId}{B:Nat}{T:TypeId}{sz:Nat}{v:Value}{n:Nat}{xs:List Value}(h:w.ownsRow B T sz v n xs)(hg:w.grownBy w' row)(ht:TyOf w row t)(hne:some T ≠ t):w'.ownsRow B T sz v n xs:=by
 refine⟨h.1,?_⟩;rcases h.2 with h1 | ⟨g,cap,cur,hv,hb,hc,r⟩
 ·exact .inl h1
 exact .inr ⟨g,cap,cur,hv,hb,blk_keep hc hg ht hne,r⟩
theorem set_grown (w:World)(b j:Nat)(u:Value):w.grownBy (w.setCell ⟨b,j,none⟩ u) (some b) :=
 ⟨rfl,rfl,rfl,by simp[World.setCell],fun k _ hk=>Below.heap_setCell _ _ _ _ (fun e=>hk (by rw[e]))⟩
theorem blk_set {w:World}{B:Nat}{cs:Array Value}{T:TypeId}(h:w.heap[B]? = some (.cells cs T (0,0)))(i:Nat)(v:Value):
  (w.setCell ⟨B,i,none⟩ v).heap[B]? = some (.cells (cs.setIfInBounds i v) T (0,0)):=by
 unfold World.setCell;simp[Array.getElem?_modify,h]
theorem row_set {w:World}{B:Nat}{T:TypeId}{sz g n c:Nat}{xs:List Value}(h:w.ownsRow B T sz (.slice (some ⟨g,0,none⟩) n c) n xs)(j:Nat)(hj:j < xs.length)(u:Value):(w.setCell ⟨g,j,none⟩ u).ownsRow B T sz (.slice (some ⟨g,0,none⟩) n c) n (xs.set j u):=by
 refine⟨by rw[List.length_set];exact h.1,.inr ?_⟩;rcases h.2 with⟨h1,_⟩ | ⟨g',cap,cur,hv,hb,hc,h1,h2,h3,h4⟩
 ·cases h1
 injection hv with hv _ hv2;injection hv with hv;injection hv with hv;subst hv;subst hv2;refine⟨g,c,cur.setIfInBounds j u,rfl,hb,blk_set hc j u,h1,h2,by simpa using h3,?_⟩;rw[<-h4];simp[List.take_set]
theorem fm_get {α : Type}{f : α -> List Value}{s:Nat}(hf:∀ x,(f x).length=s):∀ (L:List α) (k:Nat) (h:k < L.length) (j:Nat),j < s->(L.flatMap f)[k * s+j]? = (f L[k])[j]?
 | [],k,h,_,_=>absurd h (by simp)
 | x::r,0,_,j,hj=>by
  rw[List.flatMap_cons,Nat.zero_mul,Nat.zero_add,List.getElem?_append_left (by rw[hf];exact hj)];rfl
 | x::r,k+1,h,j,hj=>by
  rw[List.flatMap_cons,Nat.succ_mul,List.getElem?_append_right (by rw[hf];omega),hf,show k * s+s+j - s=k * s+j by omega];exact fm_get hf r k (by simpa using h) j hj
def ndC (q:ByteArray × Int):List Value:=[.string q.1,.string ⟨#[]⟩,.int .i64 0,.int .i64 0,.int .i64 q.2,.slice none 0 0]
def clC (q:ByteArray × Int):List Value:=[.string q.1,.int .i64 q.2]
def ndsC (L:List (ByteArray × Int)):List Value:=L.flatMap ndC
def clsC (L:List (ByteArray × Int)):List Value:=L.flatMap clC
theorem ndsC_snoc (L:List (ByteArray × Int))(q:ByteArray × Int):ndsC (L++[q])=ndsC L++ndC q:=by unfold ndsC;simp
theorem clsC_snoc (L:List (ByteArray × Int))(q:ByteArray × Int):clsC (L++[q])=clsC L++clC q:=by unfold clsC;simp
theorem add0 (g j:Nat):(⟨g,0,none⟩:Addr).add j=⟨g,j,none⟩:=by
 simp[Addr.add];exact fun h=>h.symm
def AtL (w:World)(v:Value)(L:List Two):Prop:=∃ p c,v=.slice p L.length c/\AtrIn w p L/\NzA w p c
theorem AtL.ext {w w':World}{v:Value}{L:List Two}(h:AtL w v L)(x:Ext w w'):AtL w' v L:=by
 obtain⟨p,c,h1,h2,h3⟩:=h;exact⟨p,c,h1,h2.ext x,h3.ext x⟩
theorem AtL.nil (w:World):AtL w (.slice none 0 0) []:=⟨none,0,rfl,fun k hk=>absurd hk (by simp),NzA.none w⟩
theorem AtL.keep {w w':World}{row:Option Nat}{t:Option TypeId}{v:Value}{L:List Two}(h:AtL w v L)(hg:w.grownBy w' row)(ht:TyOf w row t)(hne:some 69 ≠ t):AtL w' v L:=by
 obtain⟨p,c,h1,h2,h3⟩:=h;refine⟨p,c,h1,fun k hk=>?_,h3.1,fun q e=>?_⟩
 ·obtain⟨g,o,ha,c0,c1⟩:=h2 k hk;obtain⟨cs,hb⟩:=h3.2 _ ha;have hb':=blk_keep hb hg ht hne;refine⟨g,o,ha,?_,?_⟩
  ·rw[Lib.cell_of_heap hb'];rw[Lib.cell_of_heap hb] at c0;exact c0
  rw[Lib.cell_of_heap hb'];rw[Lib.cell_of_heap hb] at c1;exact c1
 obtain⟨cs,hb⟩:=h3.2 q e;exact⟨cs,blk_keep hb hg ht hne⟩
def AtLs (w:World)(aw:List Value)(A:List (List Two)):Prop:=aw.length=A.length/\∀ (i:Nat) (v:Value) (L:List Two),aw[i]? = some v->A[i]? = some L->AtL w v L
theorem AtLs.ext {w w':World}{aw:List Value}{A:List (List Two)}(h:AtLs w aw A)(x:Ext w w'):AtLs w' aw A:=⟨h.1,fun i v L h1 h2=>(h.2 i v L h1 h2).ext x⟩
theorem AtLs.keep {w w':World}{row:Option Nat}{t:Option TypeId}{aw:List Value}{A:List (List Two)}(h:AtLs w aw A)(hg:w.grownBy w' row)(ht:TyOf w row t)(hne:some 69 ≠ t):AtLs w' aw A:=⟨h.1,fun i v L h1 h2=>(h.2 i v L h1 h2).keep hg ht hne⟩
theorem AtLs.nil (w:World):AtLs w [] []:=⟨rfl,fun i v L h=>by simp at h⟩
theorem AtLs.snoc {w:World}{aw:List Value}{A:List (List Two)}(h:AtLs w aw A){v:Value}{L:List Two}(hv:AtL w v L):AtLs w (aw++[v]) (A++[L]):=by
 refine⟨by simp[h.1],fun i u M h1 h2=>?_⟩;rcases Nat.lt_or_ge i aw.length with hi | hi
 ·rw[List.getElem?_append_left hi] at h1;rw[List.getElem?_append_left (by rw[<-h.1];exact hi)] at h2;exact h.2 i u M h1 h2
 have e:i=aw.length:=by
  have:=(List.getElem?_eq_some_iff.1 h1).1;simp at this;omega
 subst e;rw[List.getElem?_append_right (Nat.le_refl _),Nat.sub_self] at h1;rw[h.1,List.getElem?_append_right (Nat.le_refl _),Nat.sub_self] at h2;injection h1 with h1;injection h2 with h2;subst h1;subst h2;exact hv
theorem AtLs.at {w:World}{aw:List Value}{A:List (List Two)}(h:AtLs w aw A){i:Nat}(hi:i < A.length):∃ p c,aw[i]? = some (.slice p A[i].length c)/\AtrIn w p A[i]/\NzA w p c:=by
 have hi':i < aw.length:=by rw[h.1];exact hi
 obtain⟨p,c,h1,h2,h3⟩:=h.2 i aw[i] A[i] (List.getElem?_eq_getElem hi') (List.getElem?_eq_getElem hi);exact⟨p,c,by rw[List.getElem?_eq_getElem hi',h1],h2,h3⟩
end Go.Proofs.YtjaeedbjknejdaaGreatDoor.Nm

namespace Go.Proofs.YtjaeedbjknejdaaGreatDoor.Ex
open Go.Lib Fx Lx Tr At Go.Proofs.YtjaeedbjknejdaaGreatDoor.Nm
def sideT (n:Int):ByteArray:=if n=0 then ⟨#[116,111,112]⟩ else if n=1 then ⟨#[114,105,103,104,116]⟩ else if n=2 then ⟨#[98,111,116,116,111,109]⟩ else ⟨#[108,101,102,116]⟩
def portTx (p:Prt):List UInt8:=p.1.data.toList++[32]++(sideT p.2).data.toList
def portsTx (l:List Prt):ByteArray:=⟨(Lib.join (l.map portTx) [44,32]).toArray⟩
def fmtB (n:Int):ByteArray:=⟨(fmt n).toArray⟩
def nodeA (x:Nd):List Two :=
 (if x.h=10000 then [] else [(kHeight,fmtB x.h)])++(if x.label=x.name then [] else [(kLabel,x.label)])++(if x.ports=[] then [] else [(kPorts,portsTx x.ports)])++(if x.w=20000 then [] else [(kWidth,fmtB x.w)])
def nodeS (x:Nd):Stm:=.mk 1 x.name [] (nodeA x) []
def endT (N:List Nd)(v p:Int):Two :=
 match N[v.toNat]? with
 | none=>(⟨#[]⟩,⟨#[]⟩)
 | some x=>(x.name,if p < 0 then ⟨#[]⟩ else ((x.ports[p.toNat]?).map Prod.fst).getD ⟨#[]⟩)
def edgeA (x:Ed):List Two :=
 (if x.label=⟨#[]⟩ then [] else [(kLabel,x.label)])++(if x.len=1 then [] else [(kLen,fmtB (1000 * x.len))])++(if x.wt=1 then [] else [(kWeight,fmtB (1000 * x.wt))])
def edgeS (N:List Nd)(x:Ed):Stm:=.mk 2 ⟨#[]⟩ [endT N x.a x.ap,endT N x.b x.bp] (edgeA x) []
def setS (k v:ByteArray):Stm:=.mk 4 k [] [(⟨#[]⟩,v)] []
def modeT (m:Int):ByteArray:=if m=0 then ⟨#[108,97,121,101,114,101,100]⟩ else if m=1 then ⟨#[111,114,116,104,111,103,111,110,97,108]⟩ else if m=2 then ⟨#[115,116,114,97,105,103,104,116]⟩ else if m=3 then ⟨#[116,105,100,121]⟩ else ⟨#[114,97,100,105,97,108]⟩
def optsL (o:Op5):List Stm :=
 (if o.mode=0 then [] else [setS kMode (modeT o.mode)])++(if o.ns=10000 then [] else [setS kNs (fmtB o.ns)])++(if o.rs=20000 then [] else [setS kRs (fmtB o.rs)])++(if o.mg=5000 then [] else [setS kMg (fmtB o.mg)])++(if o.rd=8 then [] else [setS kRd (fmtB (1000 * o.rd))])
def chnT (C:List (ByteArray × Int)):Nat->Int->List Int
 | 0,_=>[]
 | f+1,c=>if c < 0 then [] else c::chnT C f ((C[c.toNat]?.map Prod.snd).getD (-1))
def hasC (C:List (ByteArray × Int))(c k:Int):Bool:=(chnT C (C.length+1) k).contains c
def memT (g:Gr)(c:Int):List Nat:=(List.range g.N.length).filter fun v=>hasC g.C c ((g.N[v]?.map Nd.c).getD (-1))
def readyT (g:Gr)(p:Int)(n k:Nat):Bool :=
 match g.C[k]? with
 | none=>false
 | some q=>decide (q.2=p) && ((memT g k).isEmpty || (memT g k).contains n)
def blockT (g:Gr):Nat->Int->Nat->Nat->List Stm × Nat × Nat
 | 0,_,n,k=>([],n,k)
 | f+1,p,n,k =>
  if readyT g p n k=true then
   (.mk 5 ((g.C[k]?.map Prod.fst).getD ⟨#[]⟩) [] [] (blockT g f k n (k+1)).1::(blockT g f p (blockT g f k n (k+1)).2.1 (blockT g f k n (k+1)).2.2).1,(blockT g f p (blockT g f k n (k+1)).2.1 (blockT g f k n (k+1)).2.2).2)
  else match g.N[n]? with
   | none=>([],n,k)
   | some x=>if x.c=p then (nodeS x::(blockT g f p (n+1) k).1,(blockT g f p (n+1) k).2) else ([],n,k)
def msr (g:Gr)(n k:Nat):Nat:=(g.N.length - n)+(g.C.length - k)
theorem ready_lt {g:Gr}{p:Int}{n k:Nat}(h:readyT g p n k=true):k < g.C.length:=by
 unfold readyT at h;cases e:g.C[k]? with
 | none=>rw[e] at h;cases h
 | some q=>exact(List.getElem?_eq_some_iff.1 e).1
theorem block_mono (g:Gr):∀ (f:Nat) (p:Int) (n k:Nat),n<=(blockT g f p n k).2.1/\k<=(blockT g f p n k).2.2
 | 0,_,n,k=>⟨Nat.le_refl _,Nat.le_refl _⟩
 | f+1,p,n,k=>by
  rw[blockT];split
  ·have h1:=block_mono g f k n (k+1);have h2:=block_mono g f p (blockT g f k n (k+1)).2.1 (blockT g f k n (k+1)).2.2;exact⟨Nat.le_trans h1.1 h2.1,Nat.le_trans (Nat.le_trans (Nat.le_succ k) h1.2) h2.2⟩
  ·split
   ·exact⟨Nat.le_refl _,Nat.le_refl _⟩
   split
   ·have h1:=block_mono g f p (n+1) k;exact⟨Nat.le_trans (Nat.le_succ n) h1.1,h1.2⟩
   exact⟨Nat.le_refl _,Nat.le_refl _⟩
theorem block_fuel (g:Gr):∀ (M f f':Nat) (p:Int) (n k:Nat),msr g n k<=M->M < f->M < f'->blockT g f p n k=blockT g f' p n k
 | M,0,_,_,_,_,_,h,_=>absurd h (by omega)
 | M,_+1,0,_,_,_,_,_,h=>absurd h (by omega)
 | M,f+1,f'+1,p,n,k,hm,h1,h2=>by
  rw[blockT,blockT];by_cases hr:readyT g p n k=true
  ·rw[if_pos hr,if_pos hr];have hk:=ready_lt hr;have hm':1<=M:=by unfold msr at hm;omega
   have e1:blockT g f k n (k+1)=blockT g f' k n (k+1):=block_fuel g (M - 1) f f' k n (k+1) (by unfold msr at hm ⊢;omega) (by omega) (by omega);rw[e1];have hmo:=block_mono g f' k n (k+1);have e2:=block_fuel g (M - 1) f f' p (blockT g f' k n (k+1)).2.1 (blockT g f' k n (k+1)).2.2 (by unfold msr at hm ⊢;have:=hmo.1;have:=hmo.2;omega) (by omega) (by omega);rw[e2]
  ·rw[if_neg hr,if_neg hr];cases e:g.N[n]? with
   | none=>rfl
   | some x =>
    have hn:=(List.getElem?_eq_some_iff.1 e).1;dsimp only;by_cases hc:x.c=p
    ·rw[if_pos hc,if_pos hc];have hm':1<=M:=by unfold msr at hm;omega
     rw[block_fuel g (M - 1) f f' p (n+1) k (by unfold msr at hm ⊢;omega) (by omega) (by omega)]
    ·rw[if_neg hc,if_neg hc]
def blkT (g:Gr)(p:Int)(n k:Nat):List Stm × Nat × Nat:=blockT g (msr g n k+1) p n k
theorem blk_of (g:Gr)(f:Nat)(p:Int)(n k:Nat)(h:msr g n k < f):blockT g f p n k=blkT g p n k:=block_fuel g _ _ _ p n k (Nat.le_refl _) h (Nat.lt_succ_self _)
theorem blk_clu {g:Gr}{p:Int}{n k:Nat}(h:readyT g p n k=true):blkT g p n k=(.mk 5 ((g.C[k]?.map Prod.fst).getD ⟨#[]⟩) [] [] (blkT g k n (k+1)).1::(blkT g p (blkT g k n (k+1)).2.1 (blkT g k n (k+1)).2.2).1,(blkT g p (blkT g k n (k+1)).2.1 (blkT g k n (k+1)).2.2).2):=by
 have hk:=ready_lt h;have e1:blockT g (msr g n k) k n (k+1)=blkT g k n (k+1):=blk_of g _ _ _ _ (by unfold msr;omega);have hmo:=block_mono g (msr g n (k+1)+1) k n (k+1)
 have e2:blockT g (msr g n k) p (blkT g k n (k+1)).2.1 (blkT g k n (k+1)).2.2=blkT g p (blkT g k n (k+1)).2.1 (blkT g k n (k+1)).2.2:=blk_of g _ _ _ _ (by
  have h1:n<=(blkT g k n (k+1)).2.1:=hmo.1;have h2:k+1<=(blkT g k n (k+1)).2.2:=hmo.2
  unfold msr;omega)
 show blockT g (msr g n k+1) p n k=_;rw[blockT,if_pos h,e1,e2]
theorem blk_node {g:Gr}{p:Int}{n k:Nat}(h:¬ readyT g p n k=true){x:Nd}(hx:g.N[n]? = some x)(hc:x.c=p):blkT g p n k=(nodeS x::(blkT g p (n+1) k).1,(blkT g p (n+1) k).2):=by
 have hn:=(List.getElem?_eq_some_iff.1 hx).1;have e1:blockT g (msr g n k) p (n+1) k=blkT g p (n+1) k:=blk_of g _ _ _ _ (by unfold msr;omega);show blockT g (msr g n k+1) p n k=_;rw[blockT,if_neg h,hx];dsimp only;rw[if_pos hc,e1]
theorem blk_end {g:Gr}{p:Int}{n k:Nat}(h:¬ readyT g p n k=true)(hx:∀ x,g.N[n]? = some x->x.c ≠ p):blkT g p n k=([],n,k):=by
 show blockT g (msr g n k+1) p n k=_;rw[blockT,if_neg h];cases e:g.N[n]? with
 | none=>rfl
 | some x=>dsimp only;rw[if_neg (hx x e)]
theorem blk_mono (g:Gr)(p:Int)(n k:Nat):n<=(blkT g p n k).2.1/\k<=(blkT g p n k).2.2:=block_mono g _ p n k
def bodyT (g:Gr)(o:Op5):List Stm:=optsL o++(blkT g (-1) 0 0).1++g.E.map (edgeS g.N)
def inR5 (o:Op5):Bool:=decide (0<=o.mode) && decide (o.mode<=4) && decide (0<=o.ns) && decide (o.ns<=1048576) && decide (0<=o.rs) && decide (o.rs<=1048576) && decide (0<=o.mg) && decide (o.mg<=1048576) && decide (0<=o.rd) && decide (o.rd<=100)
def treeT (g:Gr)(o:Op5):Except Int (List Stm) :=
 if grE g ≠ 0\/inR5 o=false then .error 1
 else if(blkT g (-1) 0 0).2.1 < g.N.length\/(blkT g (-1) 0 0).2.2 < g.C.length then .error 1
 else if validE g.name (bodyT g o) ≠ 0 then .error (validE g.name (bodyT g o))
 else .ok (bodyT g o)
end Go.Proofs.YtjaeedbjknejdaaGreatDoor.Ex

namespace Go.Proofs.YtjaeedbjknejdaaGreatDoor.Ex
open Go.Lib Fx Lx Tr At Go.Proofs.YtjaeedbjknejdaaGreatDoor.Nm
theorem nds_all {nc:Nat}:∀ (L D:List Nd),ndsE nc L D=0->∀ (k:Nat) (h:k < L.length),ndE nc (D++L.take k) L[k]=0
 | [],_,_,k,h=>absurd h (by simp)
 | x::r,D,h,0,_=>by
  unfold ndsE at h;simp only[List.take_zero,List.append_nil,List.getElem_cons_zero];by_cases h1:ndE nc D x=0
  ·exact h1
  ·rw[if_pos h1] at h;exact absurd h h1
 | x::r,D,h,k+1,hk=>by
  unfold ndsE at h;by_cases h1:ndE nc D x=0
  ·rw[if_neg (by simpa using h1)] at h;have:=nds_all r (D++[x]) h k (by simpa using hk)
   simpa using this
  ·rw[if_pos h1] at h;exact absurd h h1
theorem nd_ok {nc:Nat}{D:List Nd}{x:Nd}(h:ndE nc D x=0):nameB x.name.data.toList=true/\(D.any fun p=>decide (p.name=x.name))=false/\labE x.label=0/\1<=x.w/\x.w<=1048576/\1<=x.h/\x.h<=1048576 /\ -1<=x.c/\x.c < nc/\prtE x.ports=0:=by
 unfold ndE at h;split at h
 ·exact absurd h (by decide)
 split at h
 ·exact absurd h (by decide)
 split at h
 ·rename_i h3;exact absurd h h3
 split at h
 ·exact absurd h (by decide)
 rename_i h1 h2 h3 h4;exact⟨by simpa using h1,by simpa using h2,by simpa using h3,by omega,by omega,by omega,by omega,by omega,by omega,h⟩
theorem cls_all {N:List Nd}{C:List (ByteArray × Int)}:∀ (L:List (ByteArray × Int)) (i:Nat),clsE N C i L=0->∀ (k:Nat) (h:k < L.length),clE N C (i+k) L[k]=0
 | [],_,_,k,h=>absurd h (by simp)
 | x::r,i,h,0,_=>by
  unfold clsE at h;by_cases h1:clE N C i x=0
  ·exact h1
  ·rw[if_pos h1] at h;exact absurd h h1
 | x::r,i,h,k+1,hk=>by
  unfold clsE at h;by_cases h1:clE N C i x=0
  ·rw[if_neg (by simpa using h1)] at h;have:=cls_all r (i+1) h k (by simpa using hk);rw[show i+(k+1)=i+1+k by omega]
   simpa using this
  ·rw[if_pos h1] at h;exact absurd h h1
theorem cl_ok {N:List Nd}{C:List (ByteArray × Int)}{i:Nat}{x:ByteArray × Int}(h:clE N C i x=0):nameB x.1.data.toList=true/\(N.any fun p=>decide (p.name=x.1))=false/\((C.take i).any fun p=>decide (p.1=x.1))=false /\ -1<=x.2/\x.2 < i/\depT C (i+1) i<=6:=by
 unfold clE at h;split at h
 ·exact absurd h (by decide)
 split at h
 ·exact absurd h (by decide)
 split at h
 ·exact absurd h (by decide)
 split at h
 ·exact absurd h (by decide)
 rename_i h1 h2 h3 h4;have h2':¬ ((N.any fun p=>decide (p.name=x.1))=true)/\¬ (((C.take i).any fun p=>decide (p.1=x.1))=true):=⟨fun e=>h2 (.inl e),fun e=>h2 (.inr e)⟩;exact⟨by simpa using h1,Bool.eq_false_iff.2 h2'.1,Bool.eq_false_iff.2 h2'.2,by omega,by omega,by omega⟩
theorem eds_all {N:List Nd}:∀ (L:List Ed),edsE N L=0->∀ x ∈ L,edE N x=0
 | [],_,_,h=>by cases h
 | y::r,h,x,hx=>by
  unfold edsE at h;by_cases h1:edE N y=0
  ·rw[if_neg (by simpa using h1)] at h;rcases List.mem_cons.1 hx with rfl | hx
   ·exact h1
   exact eds_all r h x hx
  ·rw[if_pos h1] at h;exact absurd h h1
theorem ed_ok {N:List Nd}{x:Ed}(h:edE N x=0):0<=x.a/\x.a < N.length/\0<=x.b/\x.b < N.length /\ -1<=x.ap/\x.ap < portsOf N x.a /\ -1<=x.bp/\x.bp < portsOf N x.b/\labE x.label=0/\1<=x.wt/\x.wt<=1000/\1<=x.len/\x.len<=64:=by
 unfold edE at h;split at h
 ·exact absurd h (by decide)
 split at h
 ·rename_i h3;exact absurd h h3
 split at h
 ·exact absurd h (by decide)
 rename_i h1 h2 h3;refine⟨by omega,by omega,by omega,by omega,by omega,by omega,by omega,by omega,by simpa using h2,by omega,by omega,by omega,by omega⟩
structure GrOk (g:Gr):Prop where
 nl:g.N.length<=64
 el:g.E.length<=256
 cl:g.C.length<=16
 nm:nameB g.name.data.toList=true
 nd:∀ (k:Nat) (h:k < g.N.length),ndE g.C.length (g.N.take k) g.N[k]=0
 cs:∀ (k:Nat) (h:k < g.C.length),clE g.N g.C k g.C[k]=0
 ed:∀ x ∈ g.E,edE g.N x=0
theorem gr_ok {g:Gr}(h:grE g=0):GrOk g:=by
 unfold grE at h;split at h
 ·exact absurd h (by decide)
 split at h
 ·exact absurd h (by decide)
 split at h
 ·rename_i h3;exact absurd h h3
 split at h
 ·rename_i h3;exact absurd h h3
 rename_i h1 h2 h3 h4;refine⟨by omega,by omega,by omega,by simpa using h2,fun k hk=>?_,fun k hk=>?_,eds_all _ h⟩
 ·have:=nds_all g.N [] (by simpa using h3) k hk
  simpa using this
 have:=cls_all g.C 0 (by simpa using h4) k hk
 simpa using this
theorem prt_all : ∀ (L D:List Prt),prtGo L D=0->∀ (k:Nat) (h:k < L.length),nameB L[k].1.data.toList=true/\((D++L.take k).any fun p=>decide (p.1=L[k].1))=false/\0<=L[k].2/\L[k].2<=3
 | [],_,_,k,h=>absurd h (by simp)
 | x::r,D,h,k,hk=>by
  unfold prtGo at h;split at h
  ·exact absurd h (by decide)
  ·split at h
   ·exact absurd h (by decide)
   split at h
   ·exact absurd h (by decide)
   ·rename_i h1 h2 h3;cases k with
    | zero=>exact⟨by simpa using h1,by rw[List.take_zero,List.append_nil];exact Bool.eq_false_iff.2 h2,by simp only[List.getElem_cons_zero];omega,by simp only[List.getElem_cons_zero];omega⟩
    | succ k =>
     have:=prt_all r (D++[x]) h k (by simpa using hk)
     simpa using this
theorem prt_ok {L:List Prt}(h:prtE L=0):L.length<=8/\∀ (k:Nat) (hk:k < L.length),nameB L[k].1.data.toList=true/\((L.take k).any fun p=>decide (p.1=L[k].1))=false/\0<=L[k].2/\L[k].2<=3:=by
 unfold prtE at h;split at h
 ·exact absurd h (by decide)
 refine⟨by omega,fun k hk=>?_⟩;have:=prt_all L [] h k hk
 simpa using this
theorem lab_size {s:ByteArray}(h:labE s=0):s.size<=32/\s.data.toList.all Tr.okT=true:=by
 unfold labE at h;split at h
 ·exact absurd h (by decide)
 split at h
 ·exact absurd h (by decide)
 rename_i h1 h2;exact⟨by omega,by simpa using h2⟩
end Go.Proofs.YtjaeedbjknejdaaGreatDoor.Ex
