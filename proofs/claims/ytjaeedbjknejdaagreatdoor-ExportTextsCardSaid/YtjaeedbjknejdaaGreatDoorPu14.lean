/- Packed texts: NorRow, NorBld, TreMem, LexDrop, TreHas -/
import Derived.Test.YtjaeedbjknejdaaGreatDoorPu13
import Derived.Maps.Ext
import Derived.Maps.RangeWalk
import Derived.Maps.StringElems
import Derived.Lib.Bytealg
set_option linter.unusedVariables false
set_option linter.unusedSimpArgs false
set_option maxHeartbeats 16000000
set_option maxRecDepth 100000
namespace Go.Proofs.YtjaeedbjknejdaaGreatDoor.Nm
open Go.RowKit Go.Sort Go.Lib Fx Lx Tr At
def tyO : Obj->Option TypeId
  | .cells _ T _=>some T
  | _=>none
def TyOf (w:World)(row:Option Nat)(t:Option TypeId):Prop:=∀ g,row=some g->∃ o,w.heap[g]? = some o/\tyO o=t
theorem blk_keep {w w':World}{row:Option Nat}{t:Option TypeId}{b:Nat}{o:Obj}(h:w.heap[b]? = some o)(hg:w.grownBy w' row)(ht:TyOf w row t)(hne:tyO o ≠ t):w'.heap[b]? = some o :=
  (hg.block b (Array.getElem?_eq_some_iff.1 h).1 (fun e=>by
    obtain⟨o',h1,h2⟩:=ht b e.symm;rw[h] at h1;injection h1 with h1;subst h1
    exact hne h2)).trans h
theorem cel_keep {w w':World}{row:Option Nat}{t:Option TypeId}{b:Nat}{cs:Array Value}{T:TypeId}{fl:Nat × Nat}(h:w.heap[b]? = some (.cells cs T fl))(hg:w.grownBy w' row)(ht:TyOf w row t)(hne:some T ≠ t):w'.heap[b]? = some (.cells cs T fl):=blk_keep h hg ht hne
theorem cel_ty {w:World}{b:Nat}{cs:Array Value}{T:TypeId}{fl:Nat × Nat}(h:w.heap[b]? = some (.cells cs T fl)):TyOf w (some b) (some T):=fun g hg=>by
  injection hg with hg;subst hg;exact⟨_,h,rfl⟩
theorem row_ty {w:World}{B:Nat}{T:TypeId}{sz:Nat}{v:Value}{n:Nat}{xs:List Value}(h:w.ownsRow B T sz v n xs):TyOf w v.ownBlock (some T):=fun g hg=>by
  rcases h.2 with⟨rfl,_⟩ | ⟨g',cap,cur,rfl,_,hc,_⟩
  · cases hg
  injection hg with hg;subst hg;exact⟨_,hc,rfl⟩
theorem row_val {w:World}{B:Nat}{T:TypeId}{sz:Nat}{v:Value}{n:Nat}{xs:List Value}(h:w.ownsRow B T sz v n xs):∃ a c,v=.slice a n c/\n<=c/\c<=maxLen:=by
  rcases h.2 with⟨rfl,rfl⟩ | ⟨g',cap,cur,rfl,_,_,h1,h2,_⟩
  · exact⟨_,_,rfl,Nat.le_refl _,Nat.zero_le _⟩
  exact⟨_,_,rfl,h1,h2⟩
theorem row_keep {w w':World}{row:Option Nat}{t:Option TypeId}{B:Nat}{T:TypeId}{sz:Nat}{v:Value}{n:Nat}{xs:List Value}(h:w.ownsRow B T sz v n xs)(hg:w.grownBy w' row)(ht:TyOf w row t)(hne:some T ≠ t):w'.ownsRow B T sz v n xs:=by
  refine⟨h.1,?_⟩;rcases h.2 with h1 | ⟨g,cap,cur,hv,hb,hc,r⟩
  · exact .inl h1
  exact .inr ⟨g,cap,cur,hv,hb,blk_keep hc hg ht hne,r⟩
theorem set_grown (w:World)(b j:Nat)(u:Value):w.grownBy (w.setCell ⟨b,j,none⟩ u) (some b) :=
  ⟨rfl,rfl,rfl,by simp[World.setCell],fun k _ hk=>Below.heap_setCell _ _ _ _ (fun e=>hk (by rw[e]))⟩
theorem blk_set {w:World}{B:Nat}{cs:Array Value}{T:TypeId}(h:w.heap[B]? = some (.cells cs T (0,0)))(i:Nat)(v:Value):
    (w.setCell ⟨B,i,none⟩ v).heap[B]? = some (.cells (cs.setIfInBounds i v) T (0,0)):=by
  unfold World.setCell;simp[Array.getElem?_modify,h]
theorem row_set {w:World}{B:Nat}{T:TypeId}{sz g n c:Nat}{xs:List Value}(h:w.ownsRow B T sz (.slice (some ⟨g,0,none⟩) n c) n xs)(j:Nat)(hj:j < xs.length)(u:Value):(w.setCell ⟨g,j,none⟩ u).ownsRow B T sz (.slice (some ⟨g,0,none⟩) n c) n (xs.set j u):=by
  refine⟨by rw[List.length_set];exact h.1,.inr ?_⟩;rcases h.2 with⟨h1,_⟩ | ⟨g',cap,cur,hv,hb,hc,h1,h2,h3,h4⟩
  · cases h1
  injection hv with hv _ hv2;injection hv with hv;injection hv with hv;subst hv;subst hv2;refine⟨g,c,cur.setIfInBounds j u,rfl,hb,blk_set hc j u,h1,h2,by simpa using h3,?_⟩;rw[<-h4];simp[List.take_set]
theorem add0 (g j:Nat):(⟨g,0,none⟩:Addr).add j=⟨g,j,none⟩:=by
  simp[Addr.add];exact fun h=>h.symm
end Go.Proofs.YtjaeedbjknejdaaGreatDoor.Nm

namespace Go.Proofs.YtjaeedbjknejdaaGreatDoor.Nm
open Go.RowKit Go.Sort Go.Lib Fx Lx Tr At
variable {w0 w w2:World} {bb m1 m2 B:Nat} {nv av cv lv:Value} {aw:List Value} {ks:List (Lk × Value)} {S:St} {I T:List (ByteArray × Int)}
theorem ext_grown {w0 w w':World}{row:Option Nat}(x:Ext w0 w)(hg:w.grownBy w' row)(hr:∀ k,row=some k->w0.heap.size<=k):Ext w0 w':=Below.grown x hg x.size hr
theorem nope {a b:Nat}(h:a ≠ b):some a ≠ some b:=fun e=>h (by injection e)
end Go.Proofs.YtjaeedbjknejdaaGreatDoor.Nm

namespace Go.Proofs.YtjaeedbjknejdaaGreatDoor.Tr
open Go.RowKit Go.Lib Fx Lx
def TwoAt (n:Nat)(w:World)(a:Option Addr)(L:List Two):Prop :=
  ∀ k (h:k < L.length),∃ g o,a=some ⟨g,o,none⟩/\g < n/\w.cell? ⟨g,o+k * 2,none⟩=some (.string L[k].1)/\w.cell? ⟨g,o+k * 2+1,none⟩=some (.string L[k].2)
theorem TwoAt.below {n:Nat}{w w':World}{a:Option Addr}{L:List Two}(h:TwoAt n w a L)(x:Below n w w'):TwoAt n w' a L:=fun k hk=>by
  obtain⟨g,o,ha,hg,h0,h1⟩:=h k hk;exact⟨g,o,ha,hg,(x.cell (p:=⟨g,o+k * 2,none⟩) hg).trans h0,(x.cell (p:=⟨g,o+k * 2+1,none⟩) hg).trans h1⟩
theorem TwoAt.mono {n m:Nat}{w:World}{a:Option Addr}{L:List Two}(h:TwoAt n w a L)(hm:n<=m):TwoAt m w a L:=fun k hk=>by
  obtain⟨g,o,ha,hg,r⟩:=h k hk;exact⟨g,o,ha,by omega,r⟩
mutual
def StmAt (n:Nat)(w:World)(g o:Nat):Stm->Prop
  | .mk k nm rs al body=>∃ r rc a ac b bc,w.cell? ⟨g,o,none⟩=some (.int .i64 k)/\w.cell? ⟨g,o+1,none⟩=some (.string nm) /\
      w.cell? ⟨g,o+2,none⟩=some (.slice r rs.length rc)/\w.cell? ⟨g,o+3,none⟩=some (.slice a al.length ac)/\w.cell? ⟨g,o+4,none⟩=some (.slice b body.length bc) /\
      TwoAt n w r rs/\TwoAt n w a al/\StmsAt n w b body/\rs.length<=rc/\al.length<=ac/\rc<=maxLen/\ac<=maxLen/\body.length<=maxLen
def StmsAt (n:Nat)(w:World)(b:Option Addr):List Stm->Prop
  | []=>True
  | x::r=>∃ g o,b=some ⟨g,o,none⟩/\g < n/\StmAt n w g o x/\StmsAt n w (some ⟨g,o+5,none⟩) r
end
mutual
theorem StmAt.below {n:Nat}{w w':World}(x:Below n w w'):∀ {g o:Nat} (s:Stm),g < n->StmAt n w g o s->StmAt n w' g o s
  | g,o,.mk k nm rs al body,hg,h=>by
    rw[StmAt] at h ⊢;obtain⟨r,rc,a,ac,b,bc,h0,h1,h2,h3,h4,hr,ha,hb,hl⟩:=h;exact⟨r,rc,a,ac,b,bc,(x.cell (p:=⟨g,o,none⟩) hg).trans h0,(x.cell (p:=⟨g,o+1,none⟩) hg).trans h1,(x.cell (p:=⟨g,o+2,none⟩) hg).trans h2,(x.cell (p:=⟨g,o+3,none⟩) hg).trans h3,(x.cell (p:=⟨g,o+4,none⟩) hg).trans h4,hr.below x,ha.below x,StmsAt.below x body hb,hl⟩
theorem StmsAt.below {n:Nat}{w w':World}(x:Below n w w'):∀ {b:Option Addr} (L:List Stm),StmsAt n w b L->StmsAt n w' b L
  | _,[],_=>by rw[StmsAt];trivial
  | b,s::r,h=>by
    rw[StmsAt] at h ⊢;obtain⟨g,o,hb,hg,hs,hr⟩:=h;exact⟨g,o,hb,hg,StmAt.below x s hg hs,StmsAt.below x r hr⟩
end
mutual
theorem StmAt.mono {n m:Nat}{w:World}(hm:n<=m):∀ {g o:Nat} (s:Stm),StmAt n w g o s->StmAt m w g o s
  | g,o,.mk k nm rs al body,h=>by
    rw[StmAt] at h ⊢;obtain⟨r,rc,a,ac,b,bc,h0,h1,h2,h3,h4,hr,ha,hb,hl⟩:=h;exact⟨r,rc,a,ac,b,bc,h0,h1,h2,h3,h4,hr.mono hm,ha.mono hm,StmsAt.mono hm body hb,hl⟩
theorem StmsAt.mono {n m:Nat}{w:World}(hm:n<=m):∀ {b:Option Addr} (L:List Stm),StmsAt n w b L->StmsAt m w b L
  | _,[],_=>by rw[StmsAt];trivial
  | b,s::r,h=>by
    rw[StmsAt] at h ⊢;obtain⟨g,o,hb,hg,hs,hr⟩:=h;exact⟨g,o,hb,by omega,StmAt.mono hm s hs,StmsAt.mono hm r hr⟩
end
theorem StmsAt.at {n:Nat}{w:World}:∀ {b:Option Addr} (L:List Stm),StmsAt n w b L->∀ k (hk:k < L.length),∃ g o,b=some ⟨g,o,none⟩/\g < n/\StmAt n w g (o+k * 5) L[k]
  | _,[],_,k,hk=>absurd hk (by simp)
  | b,s::r,h,0,_=>by
    rw[StmsAt] at h;obtain⟨g,o,hb,hg,hs,_⟩:=h;exact⟨g,o,hb,hg,by rw[Nat.zero_mul,Nat.add_zero];exact hs⟩
  | b,s::r,h,k+1,hk=>by
    rw[StmsAt] at h;obtain⟨g,o,hb,hg,_,hr⟩:=h;obtain⟨g',o',hb',hg',hs'⟩:=StmsAt.at r hr k (by simpa using hk);injection hb' with hb';injection hb' with e1 e2 _;subst e1;subst e2;refine⟨g,o,hb,hg,?_⟩;rw[show o+(k+1) * 5=o+5+k * 5 by omega];exact hs'
end Go.Proofs.YtjaeedbjknejdaaGreatDoor.Tr

namespace Go.Proofs.YtjaeedbjknejdaaGreatDoor.Lx
open Go.RowKit Go.Sort Go.Lib Go.Shelf Fx
theorem drop_at (s:ByteArray)(k:Nat)(hk:k < s.size):s.data.toList.drop k=s[k]::s.data.toList.drop (k+1):=by
  have h:k < s.data.toList.length:=by rw[<-size_len];exact hk
  rw[List.drop_eq_getElem_cons h];rfl
theorem drop_end (s:ByteArray)(k:Nat)(hk:¬ k < s.size):s.data.toList.drop k=[]:=by
  rw[List.drop_eq_nil_iff,<- size_len];omega
theorem ne_facts {x k:Int}(h:x ≠ k):(x == k)=false/\(x != k)=true:=by
  have:(x == k)=false:=by rw[beq_eq_false_iff_ne];exact h
  exact⟨this,by rw[bne,this];rfl⟩
theorem eq_facts {x k:Int}(h:x=k):(x == k)=true/\(x != k)=false:=by
  have:(x == k)=true:=by rw[beq_iff_eq];exact h
  exact⟨this,by rw[bne,this];rfl⟩
end Go.Proofs.YtjaeedbjknejdaaGreatDoor.Lx

namespace Go.Proofs.YtjaeedbjknejdaaGreatDoor.Tr
open Go.RowKit Go.Sort Go.Lib Go.Shelf Fx Lx
def TwoIn (w:World)(a:Option Addr)(L:List Two):Prop :=
  ∀ k (h:k < L.length),∃ g o,a=some ⟨g,o,none⟩/\w.cell? ⟨g,o+k * 2,none⟩=some (.string L[k].1)/\w.cell? ⟨g,o+k * 2+1,none⟩=some (.string L[k].2)
theorem TwoIn.ext {w w':World}{a:Option Addr}{L:List Two}(h:TwoIn w a L)(x:Ext w w'):TwoIn w' a L:=fun k hk=>by
  obtain⟨g,o,ha,h0,h1⟩:=h k hk;exact⟨g,o,ha,x.cell h0,x.cell h1⟩
theorem TwoAt.in {n:Nat}{w:World}{a:Option Addr}{L:List Two}(h:TwoAt n w a L):TwoIn w a L:=fun k hk=>by
  obtain⟨g,o,ha,_,h0,h1⟩:=h k hk;exact⟨g,o,ha,h0,h1⟩
def hasA (l:List Two)(n:ByteArray):Bool:=l.any (fun q=>decide (q.1=n))
theorem beqs (n x:ByteArray):(n.toList == x.toList)=decide (n=x):=by
  rw[ByteArray.toList_eq,ByteArray.toList_eq,Bool.eq_iff_iff,beq_iff_eq,decide_eq_true_eq];exact⟨fun h=>ByteArray.ext (Array.toList_inj.1 h),fun h=>by rw[h]⟩
theorem closA_any (n x:ByteArray)(d:ByteArray)(c:Addr)(w:World)(hc:w.cell? c=some (.string x)):
    Calls Tryz.prog 192 #[.agg #[.string n,.string d],.pointer (some c)] w fun e w'=>e=.returned (.bool (decide (n=x)))/\Ext w w':=by
  have hc':∀ o,(w.alloc o).cell? c=some (.string x):=fun o=>((Ext.refl w).alloc o).cell hc
  go_enter Tryz.func192,Tryz.ntmps192;go_wp2;go_ret;exact⟨ret_bool (beqs n x),(Ext.refl _).alloc _⟩
theorem idxA_any (a:Option Addr)(L:List Two)(cap:Nat)(x:ByteArray)(c:Addr)(w:World)(h:TwoIn w a L)(hc:w.cell? c=some (.string x))(hL:L.length<=9223372036854775807):
    Calls Tryz.prog 238 #[.slice a L.length cap,.func (.func 192) #[] #[.pointer (some c)]] w fun e w'=>(∃ r:Int,e=.returned (.int .i64 r)/\decide (0<=r)=hasA L x)/\Ext w w':=by
  obtain⟨N,hN⟩:∃ N,N=L.length:=⟨_,rfl⟩;have HI:=Lib.hid h;rw[<-hN] at hL ⊢;have HN:=Lib.hid hN;have HC:=Lib.hid hc;clear h hN hc;go_enter Tryz.func238,Tryz.ntmps238;go_wp2_with fail
  go_loopw [8] (fun i' wr=>∃ k:Nat,k<=N/\i'=.int .i64 k/\Hid (∀ j (hj:j < L.length),j < k->L[j].1 ≠ x)/\Ext w wr) (fun i' _=>N - (RowKit.intOf i').toNat)
  case atStart=>exact⟨0,by omega,rfl,Lib.hid (fun j _ h=>absurd h (by omega)),Ext.refl _⟩
  obtain⟨k,hk,rfl,hall,hx⟩:=hrel;by_cases hlt:k < N
  · have hkl:k < L.length:=by rw[<-HN.out];exact hlt
    obtain⟨g,o,rfl,c0,c1⟩:=(HI.out.ext hx) k hkl;obtain⟨n,hn⟩:∃ n,n=L[k].1:=⟨_,rfl⟩;obtain⟨d,hd⟩:∃ d,d=L[k].2:=⟨_,rfl⟩;rw[<-hn] at c0;rw[<-hd] at c1;have HNM:=Lib.hid hn;clear hn hd;by_cases heq:n=x
    · have hf:Hid (hasA L x=true):=Lib.hid (by
        unfold hasA;rw[List.any_eq_true];exact⟨L[k],List.getElem_mem hkl,by rw[<-HNM.out];exact decide_eq_true heq⟩)
      have HCL:=Lib.hid (closA_any n x d c wr (hx.cell HC.out));rw[decide_eq_true heq] at HCL;clear heq hall HNM;go_wp2_with (go_at_call 192;refine HCL.out.mono ?_;rintro e w1 ⟨rfl,x1⟩);go_returns;exact⟨⟨k,rfl,by rw[hf.out];simp⟩,hx.trans x1⟩
    have hf:Hid (∀ j (hj:j < L.length),j < k+1->L[j].1 ≠ x):=Lib.hid (fun j hj h=>by
      by_cases e:j=k
      · subst e;rw[<-HNM.out];exact heq
      exact hall.out j hj (by omega))
    have HCL:=Lib.hid (closA_any n x d c wr (hx.cell HC.out));rw[decide_eq_false heq] at HCL;clear heq hall HNM;go_wp2_with (go_at_call 192;refine HCL.out.mono ?_;rintro e w1 ⟨rfl,x1⟩)
    go_roundw
    case rel=>exact⟨k+1,by omega,by go_num,hf,hx.trans x1⟩
    case measure=>simp[RowKit.intOf];omega
  have hf:Hid (hasA L x=false):=Lib.hid (by
    unfold hasA;rw[List.any_eq_false];intro q hq;obtain⟨j,hj,rfl⟩:=List.getElem_of_mem hq
    simpa using hall.out j hj (by rw[<-HN.out] at hj;omega))
  clear hall;go_wp2;go_returns;exact⟨⟨-1,rfl,by rw[hf.out];decide⟩,hx⟩
theorem hasA_any (a:Option Addr)(L:List Two)(cap:Nat)(x:ByteArray)(c:Addr)(w:World)(h:TwoIn w a L)(hc:w.cell? c=some (.string x))(hL:L.length<=9223372036854775807):
    Calls Tryz.prog 191 #[.slice a L.length cap,.func (.func 192) #[] #[.pointer (some c)]] w fun e w'=>e=.returned (.bool (hasA L x))/\Ext w w':=by
  have H:=Lib.hid (idxA_any a L cap x c w h hc hL);clear h hc hL;go_enter Tryz.func191,Tryz.ntmps191;go_wp2_with (go_at_call 238;refine H.out.mono ?_;rintro e w1 ⟨⟨r,rfl,hr⟩,x1⟩);go_ret;exact⟨rfl,x1⟩
end Go.Proofs.YtjaeedbjknejdaaGreatDoor.Tr
