/- Packed texts: ExpSb, ExpFull, ExpBlk0, ExpEnd, NorChain -/
import Derived.Test.YtjaeedbjknejdaaGreatDoorPd17
set_option linter.unusedVariables false
set_option linter.unusedSimpArgs false
set_option maxHeartbeats 16000000
set_option maxRecDepth 100000
namespace Go.Proofs.YtjaeedbjknejdaaGreatDoor.Ex
open Go.RowKit Go.Sort Go.Lib Go.Shelf Fx Lx Tr At Pa Go.Proofs.YtjaeedbjknejdaaGreatDoor.Nm
theorem size_stm : (Tryz.prog.info? 67).map (·.size)=some 5:=by kernel_rfl
structure SbA (w w2:World)(gs:Nat)(c0 c1 c2 c4:Value)(L:List Two)(v:Value)(wx:World):Prop where
 X:Ext w wx
 sb:wx.heap[gs]? = some (.cells #[c0,c1,c2,v,c4] 67 (0,0))
 row:AtO w2.heap.size L v wx
 kp:∀ g,g < w2.heap.size->g ≠ gs->wx.heap[g]? = w2.heap[g]?
 lo:w.heap.size<=gs/\gs < w2.heap.size
 sz:w2.heap.size<=wx.heap.size
section
variable {w w2 wx wA w7:World} {gs:Nat} {c0 c1 c2 c4 v v':Value} {L:List Two}
theorem SbA.start (x:Ext w w2)(hb:w2.heap[gs]? = some (.cells #[c0,c1,c2,.slice none 0 0,c4] 67 (0,0)))(hl:w.heap.size<=gs):SbA w w2 gs c0 c1 c2 c4 [] (.slice none 0 0) w2 :=
 ⟨x,hb,World.ownsRow_nil _ _ _ _,fun _ _ _=>rfl,⟨hl,(Array.getElem?_eq_some_iff.1 hb).1⟩,Nat.le_refl _⟩
theorem SbA.ext (h:SbA w w2 gs c0 c1 c2 c4 L v wx)(x:Ext wx wA):SbA w w2 gs c0 c1 c2 c4 L v wA :=
 ⟨h.X.trans x,At.heap_ext h.sb x,At.own_ext h.row x,fun g h1 h2=>(x.block g (Nat.lt_of_lt_of_le h1 h.sz)).trans (h.kp g h1 h2),h.lo,Nat.le_trans h.sz x.size⟩
theorem SbA.cells (h:SbA w w2 gs c0 c1 c2 c4 L v wx):wx.cell? ⟨gs,0,none⟩=some c0/\wx.cell? ⟨gs,1,none⟩=some c1/\wx.cell? ⟨gs,2,none⟩=some c2/\wx.cell? ⟨gs,3,none⟩=some v/\wx.cell? ⟨gs,4,none⟩=some c4/\∀ j,wx.frozen? ⟨gs,j,none⟩=false:=by
 obtain⟨a,b,c,d,e⟩:=cells5g h.sb;exact⟨a,b,c,d,e,fun j=>Lib.frozen_of_heap h.sb j⟩
theorem SbA.grown (h:SbA w w2 gs c0 c1 c2 c4 L v wx)(x:Ext wx wA)(hg:wA.grownBy w7 v.ownBlock):w7.heap[gs]? = some (.cells #[c0,c1,c2,v,c4] 67 (0,0)) :=
 cel_keep (At.heap_ext h.sb x) hg (row_ty (At.own_ext h.row x)) (nope (by decide))
theorem SbA.grownk (h:SbA w w2 gs c0 c1 c2 c4 L v wx)(x:Ext wx wA)(hg:wA.grownBy w7 v.ownBlock):∀ g,g < w2.heap.size->g ≠ gs->w7.heap[g]? = w2.heap[g]? := fun g h1 h2=>by
 have hA:=h.ext x;rw[hg.block g (Nat.lt_of_lt_of_le h1 hA.sz) (fun e=>by have:=(h.row.lt g e.symm).1;omega)];exact hA.kp g h1 h2
theorem SbA.app (h:SbA w w2 gs c0 c1 c2 c4 L v wx)(x:Ext wx wA){a b:ByteArray}{g c:Nat}(ho:w7.ownsRow w2.heap.size 69 2 (.slice (some ⟨g,0,none⟩) (L.length+1) c) (L.length+1) (twosC L++[.string a,.string b]))(hg:wA.grownBy w7 v.ownBlock):
  SbA w w2 gs c0 c1 c2 c4 (L++[(a,b)]) (.slice (some ⟨g,0,none⟩) (L.length+1) c) (w7.setCell ⟨gs,3,none⟩ (.slice (some ⟨g,0,none⟩) (L.length+1) c)):=by
 have hA:=h.ext x;have hb:=h.grown x hg;have hlt:∀ k,v.ownBlock=some k->w2.heap.size<=k:=fun k e=>(h.row.lt k e).1
 have hlo:=h.lo;refine⟨(ext_grown hA.X hg (fun k e=>by have:=hlt k e;omega)).setCell hlo.1 _,by rw[blk_set hb];rfl,?_,fun g' h1 h2=>?_,h.lo,?_⟩
 ·exact row_keep (ato_app ho) (set_grown w7 gs 3 _) (cel_ty hb) (nope (by decide))
 ·rw[Below.heap_setCell _ _ _ _ h2];rw[hg.block g' (Nat.lt_of_lt_of_le h1 hA.sz) (fun e=>by have:=hlt g' e.symm;omega)];exact hA.kp g' h1 h2
 have:=hA.sz;have:=hg.size;rw[size_setC];omega
end
theorem set5s {w:World}{g:Nat}{c0 c1 c2 c3 c4:Value}(h:w.heap[g]? = some (.cells #[c0,c1,c2,c3,c4] 67 (0,0)))(v0 v1 v2 v3 v4:Value):
  (((((w.setCell ⟨g,0,none⟩ v0).setCell ⟨g,1,none⟩ v1).setCell ⟨g,2,none⟩ v2).setCell ⟨g,3,none⟩ v3).setCell ⟨g,4,none⟩ v4).heap[g]? = some (.cells #[v0,v1,v2,v3,v4] 67 (0,0)):=set5g h v0 v1 v2 v3 v4
theorem twoP_set {ok:Nat->Prop}{w:World}{a:Option Addr}{L:List Two}(h:TwoP ok w a L){gr:Nat}(hn:∀ g,ok g->g ≠ gr)(j:Nat)(u:Value):TwoP ok (w.setCell ⟨gr,j,none⟩ u) a L :=
 h.keep (fun g hg _=>Below.heap_setCell _ _ _ _ (hn g hg)) (fun g hg _=>hg)
theorem twoP_set5 {ok:Nat->Prop}{w:World}{a:Option Addr}{L:List Two}(h:TwoP ok w a L){gr:Nat}(hn:∀ g,ok g->g ≠ gr)(v0 v1 v2 v3 v4:Value):TwoP ok (((((w.setCell ⟨gr,0,none⟩ v0).setCell ⟨gr,1,none⟩ v1).setCell ⟨gr,2,none⟩ v2).setCell ⟨gr,3,none⟩ v3).setCell ⟨gr,4,none⟩ v4) a L :=
 twoP_set (twoP_set (twoP_set (twoP_set (twoP_set h hn 0 v0) hn 1 v1) hn 2 v2) hn 3 v3) hn 4 v4
theorem own_atV {B:Nat}{L:List Two}{v:Value}{w:World}(h:AtO B L v w):TwoV (B <= ·) L v w:=own_two h
theorem twoP_nil (ok:Nat->Prop)(w:World):TwoP ok w none []:=fun k hk=>absurd hk (by simp)
theorem TwoP.wide {ok ok':Nat->Prop}{w:World}{a:Option Addr}{L:List Two}(h:TwoP ok w a L)(ho:∀ g,ok g->ok' g):TwoP ok' w a L:=h.keep (fun _ _ _=>rfl) (fun g hg _=>ho g hg)
theorem stm_made {ok:Nat->Prop}{w:World}{k:Int}{nm:ByteArray}{rs al:List Two}{r a:Option Addr}{rc ac:Nat}(hr:TwoP ok w r rs)(ha:TwoP ok w a al)(h1:rs.length<=rc)(h2:al.length<=ac)(h3:rc<=maxLen)(h4:ac<=maxLen):
  StmP ok w (.mk k nm rs al []) [.int .i64 k,.string nm,.slice r rs.length rc,.slice a al.length ac,.slice none 0 0]:=by
 rw[StmP];exact⟨r,rc,a,ac,none,0,rfl,hr,ha,by rw[StmsP];trivial,h1,h2,h3,h4,Nat.zero_le _⟩
end Go.Proofs.YtjaeedbjknejdaaGreatDoor.Ex

namespace Go.Proofs.YtjaeedbjknejdaaGreatDoor.Ex
open Go
section
variable {P:Program} (w:World)
theorem run_append_full (base:Nat)(t ty e:TypeId)(i:TypeInfo)(z:Value)(size bytes:Nat)(ht:P.underlying t=some (.slice e))(hi:P.info? e=some i)(hz:i.zero=some z)
  (hsize:i.size=size) (hby:i.bytes=bytes) (hzs:z.cells.size=size) (hsz:0 < size)
  (b:Option Addr) (n c0:Nat) (xs:List Value) (hown:w.ownsRow base e size (.slice b n c0) n xs)
  (a:Addr) (m c:Nat) (news:List Value) (hl:news.length=m * size) (hnews:∀ j u,news[j]? = some u->w.cell? (a.add j)=some u) (hm:0 < m)
  (h63:n+m<=maxLen) (hbytes:(n+m) * bytes<=140737488355328) (hbase:base<=w.heap.size) (H:Nat) (hH:w.heap.size=H) :
  ∃ cap w',(Builtin.append_ #[t,t] ty #[.slice b n n,.slice (some a) m c]).run P w=.ok (.slice (some ⟨H,0,none⟩) (n+m) cap) w'/\w'.ownsRow base e size (.slice (some ⟨H,0,none⟩) (n+m) cap) (n+m) (xs++news)/\w.grownBy w' none/\H < w'.heap.size:=by
 subst hsize
 subst hby
 subst hH;have hsmall:n+m<=9223372036854775807:=by simp only[maxLen] at h63;omega
 have hlen:(xs++news).length=(n+m) * i.size:=by rw[List.length_append,hown.1,hl,Nat.add_mul]
 have grown:∀ (old:Nat),old < n+m ->
   (w.drew.alloc (.cells (xs.toArray++news.toArray++Builtin.zeroCells z.cells (grownCap w (n+m) old e - (n+m))) e)).ownsRow base e i.size
    (.slice (some ⟨w.heap.size,0,none⟩) (n+m) (grownCap w (n+m) old e)) (n+m) (xs++news) /\
   w.grownBy (w.drew.alloc (.cells (xs.toArray++news.toArray++Builtin.zeroCells z.cells (grownCap w (n+m) old e - (n+m))) e)) none/\w.heap.size < (w.drew.alloc (.cells (xs.toArray++news.toArray++Builtin.zeroCells z.cells (grownCap w (n+m) old e - (n+m))) e)).heap.size:=by
  intro old ho;have hge:=grownCap_ge w (n+m) old e;have hcm:grownCap w (n+m) old e<=maxLen:=grownCap_le_maxLen w (n+m) old e h63;refine⟨⟨hlen,.inr ⟨w.heap.size,_,_,rfl,hbase,heap_alloc_new w.drew _,hge,hcm,?_,?_⟩⟩,⟨rfl,rfl,rfl,by simp,fun k hk _=>heap_alloc_old w.drew _ hk⟩,by simp⟩
  ·simp only[Array.size_append,List.size_toArray,size_zeroCells,hzs,hown.1,hl,<- Nat.add_mul]
   congr 1
   omega
  simp only[Array.toList_append,List.append_assoc];rw[<-List.append_assoc,<- hlen];exact List.take_left
 rcases hown.2 with⟨hv,rfl⟩ | ⟨g,cap,cur,hv,hbg,hg,hnc,hcm,hcs,htake⟩
 ·injection hv with hb _ _;subst hb;have hx:xs=[]:=List.eq_nil_of_length_eq_zero (by simpa using hown.1);subst hx;have hr:=run_append_nil (P:=P) w t ty e i z ht hi hz a m c news hl hnews (by omega) (by omega) (by have hb:=hbytes;simp only[Nat.zero_add] at hb;omega);have hgr:=grown 0 (by omega);simp only[Nat.zero_add,List.nil_append,Array.empty_append] at hgr ⊢;exact⟨_,_,hr,hgr⟩
 injection hv with hb _ _;subst hb;have holds:∀ j u,xs[j]? = some u->w.cell? ((⟨g,0,none⟩:Addr).add j)=some u:=hown.cells (g:=g) rfl;have hr:=run_append_grow (P:=P) w t ty e i z ht hi hz ⟨g,0,none⟩ n n xs hown.1 holds a m c news hl hnews (by omega) (by omega) (growslice_fits (by omega) hbytes);have hgr:=grown n (by omega);exact⟨_,_,hr,hgr⟩
theorem wp_append_full {o:Oper}{a:Act}{K:Act->World->Prop}{Q:Exit->Act->World->Prop}(s x:Operand)(t:TypeId)
    (ho:o.op=.call { callee:=.builtin .append,args:=#[s,x],argTypes:=#[t,t] })
    (base:Nat) (e:TypeId) (i:TypeInfo) (z:Value) (size bytes:Nat) (ht:P.underlying t=some (.slice e)) (hi:P.info? e=some i) (hz:i.zero=some z)
    (hsize:i.size=size) (hby:i.bytes=bytes) (hzs:z.cells.size=size) (hsz:0 < size)
    (b:Option Addr) (n c0:Nat) (xs:List Value) (hs:a.eval s=.slice b n n) (hown:w.ownsRow base e size (.slice b n c0) n xs)
    (ad:Addr) (m c:Nat) (news:List Value) (hx:a.eval x=.slice (some ad) m c) (hl:news.length=m * size) (hnews:∀ j u,news[j]? = some u->w.cell? (ad.add j)=some u)
    (hm:0 < m) (h63:n+m<=maxLen) (hbytes:(n+m) * bytes<=140737488355328) (hbase:base<=w.heap.size) (H:Nat) (hH:w.heap.size=H)
    (h:∀ cap w',w'.ownsRow base e size (.slice (some ⟨H,0,none⟩) (n+m) cap) (n+m) (xs++news)->w.grownBy w' none->H < w'.heap.size->K (a.put o.dst (.slice (some ⟨H,0,none⟩) (n+m) cap)) w'):o.wp P a w K Q:=by
  obtain⟨cap,w',hr,h2,h3,h4⟩:=run_append_full (P:=P) w base t o.type e i z size bytes ht hi hz hsize hby hzs hsz b n c0 xs hown ad m c news hl hnews hm h63 hbytes hbase H hH;unfold Oper.wp execOp;simp only[ho,resolve,invoke,builtin,Sem.run_bind,Sem.run_pure,Result.andThen_ok,List.map_toArray,List.map_cons,List.map_nil,hs,hx,hr];exact h cap w' h2 h3 h4
theorem step_append_full {ops:Array Oper}{o:Oper}{a:Act}{K:Act->World->Prop}{Q:Exit->Act->World->Prop}{E:Prop}(hgd:o.guard=none)(s x:Operand)(t:TypeId)
    (ho:o.op=.call { callee:=.builtin .append,args:=#[s,x],argTypes:=#[t,t] })
    (base:Nat) (e:TypeId) (i:TypeInfo) (z:Value) (size bytes:Nat) (ht:P.underlying t=some (.slice e)) (hi:P.info? e=some i) (hz:i.zero=some z)
    (hsize:i.size=size) (hby:i.bytes=bytes) (hzs:z.cells.size=size) (hsz:0 < size)
    (b:Option Addr) (n c0:Nat) (xs:List Value) (hs:a.eval s=.slice b n n) (hown:w.ownsRow base e size (.slice b n c0) n xs)
    (ad:Addr) (m c:Nat) (news:List Value) (hx:a.eval x=.slice (some ad) m c) (hl:news.length=m * size) (hnews:∀ j u,news[j]? = some u->w.cell? (ad.add j)=some u)
    (hm:0 < m) (h63:n+m<=maxLen) (hbytes:(n+m) * bytes<=140737488355328) (hbase:base<=w.heap.size) (H:Nat) (hH:w.heap.size=H)
    (h:∀ cap w',w'.ownsRow base e size (.slice (some ⟨H,0,none⟩) (n+m) cap) (n+m) (xs++news)->w.grownBy w' none->H < w'.heap.size->K (a.put o.dst (.slice (some ⟨H,0,none⟩) (n+m) cap)) w') :
    if Region.wanted o (yielded ops a.tmps)=true then Oper.wp P o a w K Q else E:=by
  have hw:Region.wanted o (yielded ops a.tmps)=true:=by simp[Region.wanted,hgd]
  rw[if_pos hw];exact wp_append_full w s x t ho base e i z size bytes ht hi hz hsize hby hzs hsz b n c0 xs hs hown ad m c news hx hl hnews hm h63 hbytes hbase H hH h
end
end Go.Proofs.YtjaeedbjknejdaaGreatDoor.Ex

namespace Go.Proofs.YtjaeedbjknejdaaGreatDoor.Ex
open Go.RowKit Go.Sort Go.Lib Go.Shelf Fx Lx Tr At Pa Go.Proofs.YtjaeedbjknejdaaGreatDoor.Nm
theorem block_le (g:Gr):∀ (f:Nat) (p:Int) (n k:Nat),n<=g.N.length->k<=g.C.length->(blockT g f p n k).2.1<=g.N.length/\(blockT g f p n k).2.2<=g.C.length
 | 0,_,n,k,h1,h2=>⟨h1,h2⟩
 | f+1,p,n,k,h1,h2=>by
  rw[blockT];split
  ·rename_i hr;have hk:=ready_lt hr;have a:=block_le g f k n (k+1) h1 hk;exact block_le g f p _ _ a.1 a.2
  ·split
   ·exact⟨h1,h2⟩
   rename_i x hx;split
   ·exact block_le g f p (n+1) k (List.getElem?_eq_some_iff.1 hx).1 h2
   exact⟨h1,h2⟩
theorem blk_le {g:Gr}{p:Int}{n k:Nat}(h1:n<=g.N.length)(h2:k<=g.C.length):(blkT g p n k).2.1<=g.N.length/\(blkT g p n k).2.2<=g.C.length:=block_le g _ p n k h1 h2
theorem block_len (g:Gr):∀ (f:Nat) (p:Int) (n k:Nat),n<=g.N.length->k<=g.C.length->(blockT g f p n k).1.length+msr g (blockT g f p n k).2.1 (blockT g f p n k).2.2<=msr g n k
 | 0,_,n,k,_,_=>by simp[blockT]
 | f+1,p,n,k,h1,h2=>by
  rw[blockT];split
  ·rename_i hr;have hk:=ready_lt hr;have a:=block_le g f k n (k+1) h1 hk;have b:=block_len g f k n (k+1) h1 hk;have c:=block_len g f p _ _ a.1 a.2;have d:msr g n (k+1)+1=msr g n k:=by unfold msr;omega
   simp only[List.length_cons];omega
  ·split
   ·simp
   rename_i x hx;have hn:=(List.getElem?_eq_some_iff.1 hx).1;split
   ·have c:=block_len g f p (n+1) k hn h2;have d:msr g (n+1) k+1=msr g n k:=by unfold msr;omega
    simp only[List.length_cons];omega
   simp
theorem blk_len {g:Gr}{p:Int}{n k:Nat}(h1:n<=g.N.length)(h2:k<=g.C.length):(blkT g p n k).1.length<=msr g n k:=by
 have:=block_len g (msr g n k+1) p n k h1 h2;exact Nat.le_trans (Nat.le_add_right _ _) this
theorem BarAt.nextB {c B:Nat}{K:List Stm}{ov:Value}{wr wA w7:World}{X xs:List Value}{s:Stm}{g7 c7 LN:Nat}{row:Option Nat}(hn:LN=K.length)(own:wr.ownsRow B 67 5 ov LN X)(hc:StmsC (OkB 0 B ov) wr K X)(hcB:c < B)(hB:B<=wr.heap.size)(x:But c wr wA)
  (hs:StmP (fun g=>wr.heap.size<=g) wA s xs) (hl:xs.length=5) (hr:row=none\/row=ov.ownBlock) (hg:wA.grownBy w7 row) (ho:w7.ownsRow B 67 5 (.slice (some ⟨g7,0,none⟩) (LN+1) c7) (LN+1) (X++xs)) (hor:(row=ov.ownBlock/\ov.ownBlock=some g7)\/g7=wA.heap.size) :
  BarAt B 0 (K++[s]) (.slice (some ⟨g7,0,none⟩) (LN+1) c7) w7:=by
 subst hn;have e:(Value.slice (some ⟨g7,0,none⟩) (K.length+1) c7).ownBlock=some g7:=rfl;have hz:=x.size;have hrow:∀ g,row=some g->ov.ownBlock=some g:=fun g h=>by rcases hr with h1 | h1 <;> rw[h1] at h <;> first | cases h | exact h
 refine⟨X++xs,by rw[List.length_append];exact ho,StmsC.snoc ?_ hl K X ?_⟩
 ·refine StmP.keep (fun g hk hlt=>hg.block g hlt fun e2=>?_) (fun g hk hlt=>?_) s xs hs
  ·have:=own.lt g (hrow g e2.symm);omega
  refine .inr ⟨by omega,?_⟩;rw[e];intro e3;injection e3 with e3;rcases hor with h | h
  ·have:=own.lt g7 h.2;omega
  omega
 refine StmsC.keep (fun g hk hlt=>hg.block g hlt fun e2=>?_) (fun g hk hlt=>?_) K X (StmsC.keep (fun g hk hlt=>x.block g hlt (fun e2=>by rcases hk with hk | hk <;> omega)) (fun g hk _=>hk) K X hc)
 ·rcases hk with hk | hk
  ·omega
  exact hk.2 (hrow g e2.symm).symm
 rcases hk with hk | hk
 ·exact .inl hk
 refine .inr ⟨hk.1,?_⟩;rw[e];intro e3;injection e3 with e3;rcases hor with h | h
 ·exact hk.2 (by rw[h.2,e3])
 omega
def boxO (T:TypeId)(g:Gr)(na ea ca:Option Addr)(nac eac cac n k:Nat):Obj:=.cells #[.string g.name,.bool g.dir,.slice na g.N.length nac,.slice ea g.E.length eac,.slice ca g.C.length cac,.int .i64 n,.int .i64 k] T (0,0)
structure BlkI (w:World)(wb:Nat)(T:TypeId)(g:Gr)(na ea ca:Option Addr)(nac eac cac:Nat)(p:Int)(RL:List Stm)(RS:Nat × Nat)(n k:Nat)(L:List Stm)(v:Value)(wr:World):Prop where
 row:BarAt w.heap.size 0 L v wr
 b:But wb w wr
 bx:wr.heap[wb]? = some (boxO T g na ea ca nac eac cac n k)
 eq:RL=L++(blkT g p n k).1/\RS=(blkT g p n k).2
 lo:n<=g.N.length/\k<=g.C.length
 ll:L.length+msr g n k<=100
theorem boxK {T:TypeId}{g:Gr}{na ea ca:Option Addr}{nac eac cac n k k' wb:Nat}{w:World}(h:w.heap[wb]? = some (boxO T g na ea ca nac eac cac n k)):(w.setCell ⟨wb,6,none⟩ (.int .i64 (k':Int))).heap[wb]? = some (boxO T g na ea ca nac eac cac n k'):=blk_set h 6 _
theorem boxN {T:TypeId}{g:Gr}{na ea ca:Option Addr}{nac eac cac n n' k wb:Nat}{w:World}(h:w.heap[wb]? = some (boxO T g na ea ca nac eac cac n k)):(w.setCell ⟨wb,5,none⟩ (.int .i64 (n':Int))).heap[wb]? = some (boxO T g na ea ca nac eac cac n' k):=blk_set h 5 _
theorem StmsP.wide {ok ok':Nat->Prop}{w:World}{b:Option Addr}{L:List Stm}(h:StmsP ok w b L)(ho:∀ g,ok g->ok' g):StmsP ok' w b L:=StmsP.keep (fun _ _ _=>rfl) (fun g hg _=>ho g hg) L b h
theorem clu_made {ok:Nat->Prop}{w:World}{nm:ByteArray}{L:List Stm}{b:Option Addr}{bc:Nat}(hb:StmsP ok w b L)(hl:L.length<=maxLen):StmP ok w (.mk 5 nm [] [] L) [.int .i64 5,.string nm,.slice none 0 0,.slice none 0 0,.slice b L.length bc]:=by
 rw[StmP];exact⟨none,0,none,0,b,bc,rfl,twoP_nil _ _,twoP_nil _ _,hb,Nat.le_refl _,Nat.le_refl _,Nat.zero_le _,Nat.zero_le _,hl⟩
end Go.Proofs.YtjaeedbjknejdaaGreatDoor.Ex

namespace Go.Proofs.YtjaeedbjknejdaaGreatDoor.Ex
open Go.RowKit Go.Sort Go.Lib Go.Shelf Fx Lx Tr At Pa Go.Proofs.YtjaeedbjknejdaaGreatDoor.Nm
theorem size_ref : (Tryz.prog.info? 90).map (·.size)=some 2:=by kernel_rfl
theorem end_any (g:Gr)(va:Value)(v k:Int)(w:World)(ha:GrIn w va g)(h0:0<=v)(h1:v < g.N.length)(h2 : -1<=k)(h3:k < portsOf g.N v)(hN:g.N.length<=64)(hP:portsOf g.N v<=8):
  Calls Tryz.prog 67 #[va,.int .i64 v,.int .i64 k] w fun e w'=>e=.returned (.agg #[.string (endT g.N v k).1,.string (endT g.N v k).2])/\Ext w w':=by
 obtain⟨i,rfl⟩:∃ i:Nat,v=(i:Int):=⟨v.toNat,by omega⟩;have hi:i < g.N.length:=by omega
 obtain⟨na,nac,ea,eac,ca,cac,rfl,a1,-,-⟩:=ha;obtain⟨gn,on,pn,pc,rfl,n0,-,-,-,-,n5,np⟩:=a1 i hi
 have he:endT g.N (i:Int) k=(g.N[i].name,if k < 0 then ⟨#[]⟩ else ((g.N[i].ports[k.toNat]?).map Prod.fst).getD ⟨#[]⟩):=by
  unfold endT;rw[Int.toNat_natCast,List.getElem?_eq_getElem hi]
 have hpo:portsOf g.N (i:Int)=g.N[i].ports.length:=by unfold portsOf;rw[Int.toNat_natCast,List.getElem?_eq_getElem hi];rfl
 rw[he];rw[hpo] at h3 hP;dsimp only;obtain⟨x,hx⟩:∃ x,x=g.N[i]:=⟨_,rfl⟩;rw[<-hx] at n0 n5 np h3 hP;rw[<-hx];clear he hpo hx a1;obtain⟨nm,lb,W,H,c,L⟩:=x;dsimp only at *;obtain⟨q,hq⟩:∃ n,n=g.N.length:=⟨_,rfl⟩;obtain⟨el,hel⟩:∃ n,n=g.E.length:=⟨_,rfl⟩;obtain⟨cl,hcl⟩:∃ n,n=g.C.length:=⟨_,rfl⟩;obtain⟨PL,hPL⟩:∃ n,n=L.length:=⟨_,rfl⟩;rw[<-hq] at h1 hN;rw[<-hPL] at n5 h3;rw[<-hq,<- hel,<- hcl];have b0:(0:Int)<=(i:Int):=by omega
 have b1:(i:Int) < (q:Int):=by omega
 have X3:∀ o1 o2 o3:Obj,Ext w (((w.alloc o1).alloc o2).alloc o3):=fun o1 o2 o3=>(((Ext.refl w).alloc o1).alloc o2).alloc o3
 have X2:∀ o1 o2:Obj,Ext w ((w.alloc o1).alloc o2):=fun o1 o2=>((Ext.refl w).alloc o1).alloc o2
 have m0:=fun o1 o2=>(X2 o1 o2).cell n0;have m0':=fun o1 o2 o3=>(X3 o1 o2 o3).cell n0
 have m5:=fun o1 o2=>(X2 o1 o2).cell n5;have m5':=fun o1 o2 o3=>(X3 o1 o2 o3).cell n5
 have HX3:=hid X3;by_cases hk:k < 0
 ·have f1:decide (0<=k)=false:=decide_eq_false (by omega);rw[if_pos hk];clear hk h0 h1 h2 h3 np hP hq hel hcl hPL hN X2 X3;go_enter Tryz.func67,Tryz.ntmps67;go_wp2
  (try simp only[Exit.inBlock,Exit.then])
  refine bodyPost_ret (results_cell_row rfl _ _ (w.heap.size+1) 90 #[.string nm,.string ⟨#[]⟩] (0,0) _ rfl (At.heap_ext (new2 _ _ _ (by simp)) ((Ext.refl _).alloc _)) Tryz.underlying90 rfl size_ref) rfl ?_;exact⟨rfl,HX3.out _ _ _⟩
 have f1:decide (0<=k)=true:=decide_eq_true (by omega);obtain⟨j,rfl⟩:∃ j:Nat,k=(j:Int):=⟨k.toNat,by omega⟩;have hj:j < L.length:=by omega
 obtain⟨g1,o1,rfl,p0,-⟩:=np j hj;rw[if_neg hk,Int.toNat_natCast,List.getElem?_eq_getElem hj];show Calls _ _ _ _ fun e w'=>e=.returned (.agg #[.string nm,.string L[j].1])/\Ext w w'
 obtain⟨s,hs⟩:∃ s,s=L[j].1:=⟨_,rfl⟩;rw[<-hs] at p0;rw[<-hs];have q0:=fun o1 o2 o3=>(X3 o1 o2 o3).cell p0
 have d0:(0:Int)<=(j:Int):=by omega
 have d1:(j:Int) < (PL:Int):=by omega
 clear hk h0 h1 h2 h3 np hP hq hel hcl hPL hN X2 X3 hs hj;go_enter Tryz.func67,Tryz.ntmps67;go_wp2
 (try simp only[Exit.inBlock,Exit.then])
 refine bodyPost_ret (results_cell_row rfl _ _ (w.heap.size+1) 90 #[.string nm,.string s] (0,0) _ rfl (At.heap_ext (new2 _ _ _ (by simp)) ((Ext.refl _).alloc _)) Tryz.underlying90 rfl size_ref) rfl ?_;exact⟨rfl,HX3.out _ _ _⟩
theorem two_refs {w:World}{g m:Nat}{T:TypeId}{a b c d:ByteArray}(h:w.heap[g]? = some (.cells #[.string a,.string b,.string c,.string d] T (0,0)))(hm:m<=g):TwoP (m <= ·) w (some ⟨g,0,none⟩) [(a,b),(c,d)]:=fun k hk=>by
 have h2:k=0\/k=1:=by simp at hk;omega
 rcases h2 with rfl | rfl
 ·exact⟨g,0,rfl,hm,by rw[Lib.cell_of_heap h];rfl,by rw[Lib.cell_of_heap h];rfl⟩
 exact⟨g,0,rfl,hm,by rw[Lib.cell_of_heap h];rfl,by rw[Lib.cell_of_heap h];rfl⟩
theorem emptyB (b:ByteArray):b.toList.isEmpty=decide (b=⟨#[]⟩):=by
 have h:=@Tr.size0 b;have h2:b.toList.isEmpty=(b.toList == []):=by cases b.toList <;> rfl
 rw[h2,h];have h3:b.size=0 ↔ b=⟨#[]⟩:=⟨fun e=>ByteArray.ext (Array.eq_empty_of_size_eq_zero e),fun e=>by rw[e];rfl⟩;exact decide_eq_decide.2 h3
theorem neq_empty {b:ByteArray}(h:¬ b=⟨#[]⟩):(!b.toList.isEmpty)=true:=by
 rw[emptyB,decide_eq_false h];rfl
theorem eq_empty {b:ByteArray}(h:b=⟨#[]⟩):(!b.toList.isEmpty)=false:=by
 rw[emptyB,decide_eq_true h];rfl
end Go.Proofs.YtjaeedbjknejdaaGreatDoor.Ex

namespace Go.Proofs.YtjaeedbjknejdaaGreatDoor.Nm
open Go.RowKit Go.Sort Go.Lib Go.Shelf Fx Lx Tr At
theorem two_atr {n:Nat}{w:World}{a:Option Addr}{L:List Two}(h:TwoAt n w a L):AtrIn w a L:=fun k hk=>by
 obtain⟨g,o,e,_,c0,c1⟩:=h k hk;exact⟨g,o,e,c0,c1⟩
end Go.Proofs.YtjaeedbjknejdaaGreatDoor.Nm
