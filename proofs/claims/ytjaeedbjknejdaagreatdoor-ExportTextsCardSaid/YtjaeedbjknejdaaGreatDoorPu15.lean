/- Packed texts: TreForm, NorFin, NorRes, ExpMem, NorTail -/
import Derived.Test.YtjaeedbjknejdaaGreatDoorPu14
import Derived.Laws.ResultCell
import Derived.Deep.RegionHeld
import Derived.Deep.RegionHeld3
set_option linter.unusedVariables false
set_option linter.unusedSimpArgs false
set_option maxHeartbeats 16000000
set_option maxRecDepth 100000
namespace Go.Proofs.YtjaeedbjknejdaaGreatDoor.Tr
open Go.RowKit Go.Sort Go.Lib Go.Shelf Fx Lx
theorem stm_cells (w:World)(k:Int)(nm:ByteArray)(r a b:Option Addr)(R A B rc ac bc:Nat):∀ w1,Ext (w.alloc (.cells #[.int .i64 k,.string nm,.slice r R rc,.slice a A ac,.slice b B bc] 67)) w1 ->
    w1.cell? ⟨w.heap.size,0,none⟩=some (.int .i64 k)/\w1.cell? ⟨w.heap.size,1,none⟩=some (.string nm)/\w1.cell? ⟨w.heap.size,2,none⟩=some (.slice r R rc)/\w1.cell? ⟨w.heap.size,3,none⟩=some (.slice a A ac)/\w1.cell? ⟨w.heap.size,4,none⟩=some (.slice b B bc):=fun w1 x=>by
  have hb:=heap_alloc_new w (.cells #[.int .i64 k,.string nm,.slice r R rc,.slice a A ac,.slice b B bc] 67);refine⟨x.cell ?_,x.cell ?_,x.cell ?_,x.cell ?_,x.cell ?_⟩ <;> rw[Lib.cell_of_heap hb] <;> rfl
theorem form_node (nm:ByteArray)(r a b:Option Addr)(R A B rc ac bc:Nat)(w:World):
    Calls Tryz.prog 135 #[.agg #[.int .i64 1,.string nm,.slice r R rc,.slice a A ac,.slice b B bc]] w fun e w'=>e=.returned (.int .i64 (if(decide (R=0) && decide (B=0))=true then 0 else 1))/\Ext w w':=by
  by_cases hR:R=0
  · by_cases hB:B=0
    · subst hR;subst hB;go_enter Tryz.func135,Tryz.ntmps135;go_wp2;go_ret;exact⟨rfl,(Ext.refl _).alloc _⟩
    subst hR;have f1:((B:Int) == 0)=false:=by simpa using hB
    rw[decide_eq_false hB];clear hB;go_enter Tryz.func135,Tryz.ntmps135;go_wp2;go_ret;exact⟨rfl,(Ext.refl _).alloc _⟩
  have f1:((R:Int) == 0)=false:=by simpa using hR
  rw[decide_eq_false hR];clear hR;go_enter Tryz.func135,Tryz.ntmps135;go_wp2;go_ret;exact⟨rfl,(Ext.refl _).alloc _⟩
theorem form_cluster (nm:ByteArray)(r a b:Option Addr)(R A B rc ac bc:Nat)(w:World):
    Calls Tryz.prog 135 #[.agg #[.int .i64 5,.string nm,.slice r R rc,.slice a A ac,.slice b B bc]] w fun e w'=>e=.returned (.int .i64 (if(decide (R=0) && decide (A=0))=true then 0 else 1))/\Ext w w':=by
  by_cases hR:R=0
  · by_cases hB:A=0
    · subst hR;subst hB;go_enter Tryz.func135,Tryz.ntmps135;go_wp2;go_ret;exact⟨rfl,(Ext.refl _).alloc _⟩
    subst hR;have f1:((A:Int) == 0)=false:=by simpa using hB
    rw[decide_eq_false hB];clear hB;go_enter Tryz.func135,Tryz.ntmps135;go_wp2;go_ret;exact⟨rfl,(Ext.refl _).alloc _⟩
  have f1:((R:Int) == 0)=false:=by simpa using hR
  rw[decide_eq_false hR];clear hR;go_enter Tryz.func135,Tryz.ntmps135;go_wp2;go_ret;exact⟨rfl,(Ext.refl _).alloc _⟩
theorem size0 {n:ByteArray}:(n.toList == [])=decide (n.size=0):=by
  rw[ByteArray.toList_eq,size_len,Bool.eq_iff_iff,beq_iff_eq,decide_eq_true_eq,List.length_eq_zero_iff]
theorem form_edge (nm:ByteArray)(r a b:Option Addr)(R A B rc ac bc:Nat)(w:World):
    Calls Tryz.prog 135 #[.agg #[.int .i64 2,.string nm,.slice r R rc,.slice a A ac,.slice b B bc]] w fun e w'=>e=.returned (.int .i64 (if(decide (nm.size=0) && decide (B=0) && decide (2<=R))=true then 0 else 1))/\Ext w w':=by
  have hN:=@size0 nm;cases hn:decide (nm.size=0)
  · rw[hn] at hN;clear hn;go_enter Tryz.func135,Tryz.ntmps135;go_wp2;go_ret;exact⟨rfl,(Ext.refl _).alloc _⟩
  rw[hn] at hN;clear hn;by_cases hB:B=0
  · subst hB;by_cases hR:2<=R
    · have f1:decide ((2:Int)<=R)=true:=decide_eq_true (by omega);rw[decide_eq_true hR];go_enter Tryz.func135,Tryz.ntmps135;go_wp2;go_ret;exact⟨rfl,(Ext.refl _).alloc _⟩
    have f1:decide ((2:Int)<=R)=false:=decide_eq_false (by omega);rw[decide_eq_false hR];go_enter Tryz.func135,Tryz.ntmps135;go_wp2;go_ret;exact⟨rfl,(Ext.refl _).alloc _⟩
  have f1:((B:Int) == 0)=false:=by simpa using hB
  rw[decide_eq_false hB];clear hB;go_enter Tryz.func135,Tryz.ntmps135;go_wp2;go_ret;exact⟨rfl,(Ext.refl _).alloc _⟩
end Go.Proofs.YtjaeedbjknejdaaGreatDoor.Tr

namespace Go.Proofs.YtjaeedbjknejdaaGreatDoor.Nm
open Go.RowKit Go.Sort Go.Lib Fx Lx Tr At
variable {w0 w w2:World} {bb m1 m2 B:Nat} {nv av cv lv:Value} {aw:List Value} {ks:List (Lk × Value)} {S:St} {NV:List (Nd × Value)}
theorem row_has {w:World}{B:Nat}{T:TypeId}{sz:Nat}{v:Value}{n:Nat}{xs:List Value}(h:w.ownsRow B T sz v n xs)(h0:0 < n):∃ g c,v=.slice (some ⟨g,0,none⟩) n c/\n<=c/\c<=maxLen/\∃ cs,w.heap[g]? = some (.cells cs T (0,0)):=by
  rcases h.2 with⟨_,rfl⟩ | ⟨g,cap,cur,rfl,_,hg,h1,h2,_⟩
  · exact absurd h0 (by omega)
  exact⟨g,cap,rfl,h1,h2,cur,hg⟩
end Go.Proofs.YtjaeedbjknejdaaGreatDoor.Nm

namespace Go.Proofs.YtjaeedbjknejdaaGreatDoor.Nm
open Go.RowKit Go.Sort Go.Lib Fx Lx Tr At
theorem cells5g {w:World}{g:Nat}{T:TypeId}{c0 c1 c2 c3 c4:Value}(h:w.heap[g]? = some (.cells #[c0,c1,c2,c3,c4] T (0,0))):
    w.cell? ⟨g,0,none⟩=some c0/\w.cell? ⟨g,1,none⟩=some c1/\w.cell? ⟨g,2,none⟩=some c2/\w.cell? ⟨g,3,none⟩=some c3/\w.cell? ⟨g,4,none⟩=some c4:=by
  refine⟨?_,?_,?_,?_,?_⟩ <;> (rw[Lib.cell_of_heap h];rfl)
theorem set5g {w:World}{g:Nat}{T:TypeId}{c0 c1 c2 c3 c4:Value}(h:w.heap[g]? = some (.cells #[c0,c1,c2,c3,c4] T (0,0)))(v0 v1 v2 v3 v4:Value):
    (((((w.setCell ⟨g,0,none⟩ v0).setCell ⟨g,1,none⟩ v1).setCell ⟨g,2,none⟩ v2).setCell ⟨g,3,none⟩ v3).setCell ⟨g,4,none⟩ v4).heap[g]? = some (.cells #[v0,v1,v2,v3,v4] T (0,0)) :=
  blk_set (blk_set (blk_set (blk_set (blk_set h 0 v0) 1 v1) 2 v2) 3 v3) 4 v4
theorem ext5g {w0 w:World}(x:Ext w0 w){g:Nat}(hg:w0.heap.size<=g)(v0 v1 v2 v3 v4:Value):
    Ext w0 (((((w.setCell ⟨g,0,none⟩ v0).setCell ⟨g,1,none⟩ v1).setCell ⟨g,2,none⟩ v2).setCell ⟨g,3,none⟩ v3).setCell ⟨g,4,none⟩ v4) :=
  ((((x.setCell hg _).setCell hg _).setCell hg _).setCell hg _).setCell hg _
end Go.Proofs.YtjaeedbjknejdaaGreatDoor.Nm

namespace Go.Proofs.YtjaeedbjknejdaaGreatDoor.Ex
open Go.RowKit Go.Sort Go.Lib Go.Shelf Fx Lx Tr At Go.Proofs.YtjaeedbjknejdaaGreatDoor.Nm
theorem chn_step (C:List (ByteArray × Int))(f:Nat){k:Nat}(h:k < C.length):chnT C (f+1) k=(k:Int)::chnT C f C[k].2:=by
  rw[chnT,if_neg (by omega),show((k:Int).toNat)=k by omega,List.getElem?_eq_getElem h];rfl
theorem chn_end (C:List (ByteArray × Int))(f:Nat){c:Int}(h:c < 0):chnT C f c=[]:=by
  cases f with
  | zero=>rfl
  | succ f=>rw[chnT,if_pos h]
def intsC (L:List Int):List Value:=L.map (.int .i64 ·)
theorem intsC_snoc (L:List Int)(x:Int):intsC (L++[x])=intsC L++[.int .i64 x]:=by unfold intsC;simp
theorem intsC_at (L:List Int)(j:Nat)(h:j < L.length):(intsC L)[j]? = some (.int .i64 (L.getD j 0)):=by
  unfold intsC;rw[List.getElem?_map,List.getElem?_eq_getElem h,List.getD_eq_getElem?_getD,List.getElem?_eq_getElem h];rfl
theorem own_ints {w:World}{B:Nat}{T:TypeId}{v:Value}{L:List Int}(h:w.ownsRow B T 1 v L.length (intsC L)):(L=[]/\∃ a c,v=.slice a 0 c)\/∃ g c,v=.slice (some ⟨g,0,none⟩) L.length c/\∀ j,j < L.length->w.cell? ⟨g,0+j,none⟩=some (.int .i64 (L.getD j 0)):=by
  rcases h.2 with⟨h1,h2⟩ | ⟨g,cap,cur,hv,hb,hg,hn,hcap,_⟩
  · exact .inl ⟨List.eq_nil_of_length_eq_zero h2,none,0,h1⟩
  refine .inr ⟨g,cap,hv,fun j hj=>?_⟩;have:=h.cells (g:=g) (by rw[hv];rfl) j _ (intsC_at L j hj);rw[add0] at this;rw[Nat.zero_add];exact this
theorem has_any (L:List Int)(v:Value)(x:Int)(B:Nat)(T:TypeId)(w:World)(h:w.ownsRow B T 1 v L.length (intsC L))(hL:L.length<=1000000000):
    Calls Tryz.prog 132 #[v,.int .i64 x] w fun e w'=>e=.returned (.bool (L.contains x))/\w'=w:=by
  rcases own_ints h with⟨rfl,a,c,rfl⟩ | ⟨g,c,rfl,hc⟩
  · exact Tryz.slices_Contains_int_empty a c x w
  have:=Tryz.slices_Contains_int g 0 L.length c L x w (Nat.le_refl _) (by omega) hc;rw[List.take_of_length_le (Nat.le_refl _)] at this;exact this
theorem chain_any (g:Gr)(va:Value)(i:Int)(w:World)(ha:GrIn w va g)(hi0 : -1<=i)(hi:i < g.C.length)(hC:g.C.length<=1000000000)(hp:∀ k (h:k < g.C.length),g.C[k].2 < k /\ -1<=g.C[k].2):
    Calls Tryz.prog 181 #[va,.int .i64 i] w fun e w'=>(∃ v,e=.returned v/\w'.ownsRow w.heap.size 3 1 v (chnT g.C (g.C.length+1) i).length (intsC (chnT g.C (g.C.length+1) i)))/\Ext w w':=by
  obtain⟨na,nac,ea,eac,ca,cac,rfl,-,-,a3⟩:=ha;obtain⟨nm,dir,NN,EE,CC⟩:=g;dsimp only at *;obtain⟨q,hq⟩:∃ n,n=NN.length:=⟨_,rfl⟩;obtain⟨el,hel⟩:∃ n,n=EE.length:=⟨_,rfl⟩;obtain⟨cl,hcl⟩:∃ n,n=CC.length:=⟨_,rfl⟩;obtain⟨D,hD⟩:∃ n,n=chnT CC (CC.length+1) i:=⟨_,rfl⟩;rw[<-hD];rw[<-hq,<- hel,<- hcl];rw[<-hcl] at hC hi;have hD0:Hid ([]++chnT CC (cl+1) i=D):=Lib.hid (by rw[hD,hcl];rfl);have A3:=Lib.hid a3;have HCL:=Lib.hid hcl;have HP:=Lib.hid hp;clear a3 hq hel hcl hp hD;obtain⟨j0,hj0,hjz⟩:=Option.map_eq_some_iff.1 info_i;simp only[Prod.mk.injEq] at hjz;obtain⟨hjz0,hjz1,hjz2⟩:=hjz;go_enter Tryz.func181,Tryz.ntmps181;go_wp2;obtain⟨w1,hw1⟩:∃ w1,w1=w.alloc (.cells #[.string nm,.bool dir,.slice na q nac,.slice ea el eac,.slice ca cl cac] 26):=⟨_,rfl⟩
  have X1:Hid (Ext (w.alloc (.cells #[.string nm,.bool dir,.slice na q nac,.slice ea el eac,.slice ca cl cac] 26)) w1):=Lib.hid (by rw[hw1];exact Ext.refl _);have XW:Hid (Ext w w1):=Lib.hid (((Ext.refl _).alloc _).trans X1.out);rw[<-hw1];clear hw1
  go_loopw [1,5] (fun c' l' wr=>∃ (c:Int) (n f:Nat) (zs:List Int) (lv:Value),c'=.int .i64 c/\lv=l' /\ -1<=c/\c < cl/\c < f/\n+f<=cl+1/\Hid (n=zs.length)/\Hid (zs++chnT CC f c=D)/\Hid (wr.ownsRow w1.heap.size 3 1 lv n (intsC zs))/\Ext w1 wr) (fun c' _ _=>(RowKit.intOf c'+1).toNat)
  case atStart=>exact⟨i,0,cl+1,[],_,rfl,rfl,by omega,by omega,by omega,by omega,Lib.hid rfl,hD0,Lib.hid (World.ownsRow_nil _ _ _ _),Ext.refl _⟩
  clear hD0;obtain⟨c,n,f,zs,lv,rfl,rfl,hc1,hc2,hcf,hnf,hz,hd,hown,hx⟩:=hrel;have e0:=box1 (X1.out.trans hx) 4 _ rfl;by_cases hlt:0<=c
  · obtain⟨k,rfl⟩:∃ k:Nat,c=(k:Int):=⟨c.toNat,by omega⟩;have hkC:k < CC.length:=by rw[<-HCL.out];omega
    obtain⟨f',rfl⟩:∃ f',f=f'+1:=⟨f - 1,by omega⟩;have hd1:=hd.out;rw[chn_step CC f' hkC] at hd1;obtain⟨g1,o1,rfl,x0,x1⟩:=(A3.out.ext (XW.out.trans hx)) k hkC;obtain⟨h1,h2⟩:=HP.out k hkC;obtain⟨p,hpe⟩:∃ p,p=CC[k].2:=⟨_,rfl⟩;rw[<-hpe] at x1 h1 h2 hd1;have HD1:Hid ((zs++[(k:Int)])++chnT CC f' p=D):=Lib.hid (by rw[List.append_assoc];exact hd1);have HZ1:Hid (n+1=(zs++[(k:Int)]).length):=Lib.hid (by rw[List.length_append,<- hz.out];rfl);have b0:(0:Int)<=(k:Int):=by omega
    have b1:(k:Int) < (cl:Int):=by omega
    have hbw:=hx.size;have HPE:=Lib.hid hpe;clear hd hd1 hpe x0 hz;go_wp2_with (at_builtin;refine wpList_append_lies _ rfl _ _ 48 rfl w1.heap.size 3 j0 _ 1 8 Tryz.underlying48 hj0 hjz0 hjz1 hjz2 rfl (by decide) _ _ _ rfl (hown.out.alloc _) ⟨wr.heap.size,0,none⟩ 1 1 [.int .i64 (k:Int)] rfl rfl ?c1 ?c2 (by decide) ?c3 ?c4 ?c5 _ rfl ?_)
    case c1=>exact news1 _ _
    case c2=>simp[Value.oneCell']
    case c3=>unfold maxLen;omega
    case c4=>omega
    case c5=>simp;omega
    intro gg cc w3 hown3 hgrow3 _ _;have hx3:Ext w1 w3:=Below.grown (hx.alloc _) hgrow3 (by simp;omega) (fun q hq=>by have:=(hown.out.lt q hq).1;omega);have HO3:=Lib.hid hown3;rw[<-intsC_snoc] at HO3;have e0':=box1 (X1.out.trans hx3) 4 _ rfl;obtain⟨g2,o2,ha2,-,x1''⟩:=(A3.out.ext (XW.out.trans hx3)) k hkC;cases ha2;rw[show CC[k].2=p from ?cp] at x1''
    case cp=>exact HPE.out.symm
    clear hown3 hgrow3 hown e0 x1 hx;go_wp2
    go_roundw
    case rel=>exact⟨p,n+1,f',_,_,rfl,rfl,by omega,by omega,by omega,by omega,HZ1,HD1,HO3,hx3⟩
    case measure=>simp[RowKit.intOf];omega
  have hd1:=hd.out;rw[chn_end CC f (by omega),List.append_nil] at hd1;have HO:Hid (wr.ownsRow w1.heap.size 3 1 lv D.length (intsC D)):=Lib.hid (by have h:=hown.out;rw[hz.out] at h;rw[<-hd1];exact h);clear hd hd1 hown hz;have d0:decide (0<=c)=false:=decide_eq_false hlt;have hsz:=XW.out.size;go_wp2;go_ret;exact⟨⟨_,rfl,own_base HO.out hsz⟩,XW.out.trans hx⟩
def memI (g:Gr)(c:Int)(i:Nat):List Int:=((List.range i).filter fun v=>hasC g.C c ((g.N[v]?.map Nd.c).getD (-1))).map fun(v:Nat)=>(v:Int)
theorem memI_all (g:Gr)(c:Int):memI g c g.N.length=(memT g c).map fun(v:Nat)=>(v:Int):=rfl
theorem memI_succ (g:Gr)(c:Int)(i:Nat)(h:i < g.N.length):memI g c (i+1)=memI g c i++(if hasC g.C c g.N[i].c=true then [(i:Int)] else []):=by
  unfold memI;rw[List.range_succ,List.filter_append,List.map_append]
  congr 1
  rw[List.filter_cons,List.getElem?_eq_getElem h];show List.map _ (if hasC g.C c g.N[i].c=true then [i] else [])=_;split <;> rfl
theorem memI_len (g:Gr)(c:Int)(i:Nat):(memI g c i).length<=i:=by
  unfold memI;rw[List.length_map];exact Nat.le_trans (List.length_filter_le _ _) (Nat.le_of_eq List.length_range)
theorem cells5b {w w':World}{c0 c1 c2 c3 c4:Value}{T:TypeId}(x:Ext (w.alloc (.cells #[c0,c1,c2,c3,c4] T)) w'):w'.cell? ⟨w.heap.size,0,none⟩=some c0/\w'.cell? ⟨w.heap.size,1,none⟩=some c1/\w'.cell? ⟨w.heap.size,2,none⟩=some c2/\w'.cell? ⟨w.heap.size,3,none⟩=some c3/\w'.cell? ⟨w.heap.size,4,none⟩=some c4 :=
  cells5g (At.heap_ext (heap_alloc_new w _) x)
theorem members_any (g:Gr)(va:Value)(k:Nat)(w:World)(ha:GrIn w va g)(hcp:GrCp w va g)(hsm:GrSm g)(hg0:grE g=0)(hk:k < g.C.length):
    Calls Tryz.prog 131 #[va,.int .i64 (k:Int)] w fun e w'=>(∃ v,e=.returned v/\w'.ownsRow w.heap.size 3 1 v (memT g k).length (intsC (memI g k g.N.length)))/\Ext w w':=by
  have hok:=gr_ok hg0;have hvl:=fun(w5:World) (x:Ext w w5)=>validG_any g va w5 (ha.ext x) (hcp.ext ha x) hsm
  rw[hg0] at hvl;have hcl:=hok.cl;have hpar:∀ i (h:i < g.C.length),g.C[i].2 < i /\ -1<=g.C[i].2:=fun i h=>by have:=cl_ok (hok.cs i h);exact⟨this.2.2.2.2.1,this.2.2.2.1⟩
  have hch:=fun(i:Nat) (x:Nd) (hx:g.N[i]? = some x) (w5:World) (y:Ext w w5)=>chain_any g va x.c w5 (ha.ext y) (by obtain⟨h,rfl⟩:=List.getElem?_eq_some_iff.1 hx;have:=nd_ok (hok.nd i h);exact this.2.2.2.2.2.2.2.1) (by obtain⟨h,rfl⟩:=List.getElem?_eq_some_iff.1 hx;have:=nd_ok (hok.nd i h);exact this.2.2.2.2.2.2.2.2.1) (by omega) hpar
  have hnl:=hok.nl;obtain⟨T,hT⟩:∃ T,T=memI g k g.N.length:=⟨_,rfl⟩;have htl:(memT g k).length=T.length:=by rw[hT,memI_all,List.length_map]
  rw[<-hT,htl];obtain⟨na,nac,ea,eac,ca,cac,rfl,a1,-,-⟩:=ha;have hstep:=fun i h=>memI_succ g k i h
  have hlen:=fun i=>memI_len g k i
  obtain⟨M,hM⟩:∃ M,M=memI g k:=⟨_,rfl⟩;rw[<-hM] at hT hstep hlen;have hM0:M 0=[]:=by rw[hM];rfl
  obtain⟨q,hq⟩:∃ n,n=g.N.length:=⟨_,rfl⟩;obtain⟨el,hel⟩:∃ n,n=g.E.length:=⟨_,rfl⟩;obtain⟨cl,hcle⟩:∃ n,n=g.C.length:=⟨_,rfl⟩;rw[<-hq] at hT hnl;simp only[<-hq,<- hel,<- hcle] at hvl hch;rw[<-hq,<- hel,<- hcle];rw[<-hcle] at hk hcl;have HCLE:=Lib.hid hcle.symm;have A1:=Lib.hid a1;have HVL:=Lib.hid hvl;have HCH:=Lib.hid hch;have HST:=Lib.hid hstep;have HLN:=Lib.hid hlen;have HT:=Lib.hid hT;have HQ:=Lib.hid hq;have HM0:=Lib.hid hM0;have f0:decide ((k:Int) < -1)=false:=decide_eq_false (by omega);have f1:decide ((cl:Int)<=(k:Int))=false:=decide_eq_false (by omega);have f1':decide (cl<=k)=false:=decide_eq_false (by omega);have f2:decide ((k:Int) < 0)=false:=decide_eq_false (by omega);obtain⟨e1,e2⟩:=efacts 0;obtain⟨j0,hj0,hjz⟩:=Option.map_eq_some_iff.1 info_i
  simp only[Prod.mk.injEq] at hjz;obtain⟨hjz0,hjz1,hjz2⟩:=hjz;clear a1 hvl hch hstep hlen hT hq hel hcle hM0 hpar htl hM hok hcp hsm;go_enter Tryz.func131,Tryz.ntmps131;go_wp2_with (go_at_call 25;refine Calls.mono (by with_reducible exact HVL.out _ ((Ext.refl _).alloc _)) ?_;rintro e w1 ⟨rfl,x1⟩;obtain⟨b0,b1,b2,b3,b4⟩:=cells5b x1;have X1:=Lib.hid x1;have XW:=Lib.hid (((Ext.refl w).alloc (.cells #[.string g.name,.bool g.dir,.slice na q nac,.slice ea el eac,.slice ca cl cac] 26)).trans x1);clear x1);have hsz:=XW.out.size
  go_loopw [5,25] (fun o' i' wr=>∃ (i n:Nat) (ov:Value),ov=o'/\i<=q/\n<=i/\i'=.int .i64 i/\Hid (n=(M i).length)/\Hid (wr.ownsRow w1.heap.size 3 1 ov n (intsC (M i)))/\Hid (Ext w1 wr)) (fun _ i' _=>q - (RowKit.intOf i').toNat)
  case atStart=>exact⟨0,0,_,rfl,Nat.zero_le _,Nat.le_refl _,rfl,Lib.hid (by rw[HM0.out];rfl),Lib.hid (by rw[HM0.out];exact World.ownsRow_nil _ _ _ _),Lib.hid (Ext.refl _)⟩
  obtain⟨i,n,ov,rfl,hi,hni,rfl,hn,hown,hx⟩:=hrel;clear b0 b1 b2 b3 b4;obtain⟨b0,b1,b2,b3,b4⟩:=cells5b (X1.out.trans hx.out);by_cases hlt:i < q
  · have hin:i < g.N.length:=by rw[<-HQ.out];exact hlt
    obtain⟨g1,o1,p1,pc1,rfl,n0,n1,n2,n3,n4,n5,-⟩:=(A1.out.ext (XW.out.trans hx.out)) i hin;have hcx:=HCH.out i g.N[i] (List.getElem?_eq_getElem hin);have hst:=HST.out i hin;obtain⟨x,hxe⟩:∃ x,x=g.N[i]:=⟨_,rfl⟩;rw[<-hxe] at n0 n1 n2 n3 n4 n5 hcx hst;obtain⟨nm,lb,W,H,c,L⟩:=x;dsimp only at n0 n1 n2 n3 n4 n5 hcx hst;obtain⟨PL,hPL⟩:∃ n,n=L.length:=⟨_,rfl⟩;rw[<-hPL] at n5;obtain⟨Z,hZ⟩:∃ Z,Z=chnT g.C (cl+1) c:=⟨_,rfl⟩
    have hzl:Z.length<=1000000000:=by
      rw[hZ]
      have key:∀ (f:Nat) (c:Int),(chnT g.C f c).length<=f:=by
        intro f
        induction f with
        | zero=>intro c;simp[chnT]
        | succ f ih => intro c; rw [chnT]; split; · simp
                       · rw[List.length_cons];have:=ih (((g.C[c.toNat]?.map Prod.snd).getD (-1)));omega
      have:=key (cl+1) c;omega
    have hB:hasC g.C k c=Z.contains (k:Int):=by unfold hasC;rw[HCLE.out];rw[hZ]
    obtain⟨b,hbe⟩:∃ b,b=Z.contains (k:Int):=⟨_,rfl⟩;rw[hB,<- hbe] at hst;rw[<-hZ] at hcx;have HCX:=Lib.hid hcx;have HS1:=Lib.hid hst;have HZL:=Lib.hid hzl;have HB:=Lib.hid hbe;have c0:(0:Int)<=(i:Int):=by omega
    have c1:(i:Int) < (q:Int):=by omega
    have d0:=fun ob=>((Ext.refl wr).alloc ob).cell b0;have d1:=fun ob=>((Ext.refl wr).alloc ob).cell b1;have d2:=fun ob=>((Ext.refl wr).alloc ob).cell b2;have d3:=fun ob=>((Ext.refl wr).alloc ob).cell b3;have d4:=fun ob=>((Ext.refl wr).alloc ob).cell b4
    clear hcx hst hxe hPL hZ hzl hB hbe b0 b1 b2 b3 b4 hin;cases b with
    | true =>
      have hs2:Hid (M (i+1)=M i++[(i:Int)]):=Lib.hid (by rw[HS1.out,if_pos rfl]);have hml:=HLN.out i
      go_wp2_with (first
        | (go_at_call 181;refine Calls.mono (by with_reducible exact HCX.out _ (XW.out.trans (hx.out.alloc _))) ?_;rintro e w3 ⟨⟨v3,rfl,hv3⟩,x3⟩;have HV3:=Lib.hid hv3;have X3:=Lib.hid ((Ext.refl wr).alloc _ |>.trans x3);clear hv3 x3)
        | (go_at_call 132;refine Calls.mono (by with_reducible exact has_any Z _ _ _ _ _ HV3.out HZL.out) ?_;rintro e w4 ⟨rfl,rfl⟩;rw[<-HB.out])
        | (at_builtin;refine wpList_append_lies _ rfl _ _ 48 rfl w1.heap.size 3 j0 _ 1 8 Tryz.underlying48 hj0 hjz0 hjz1 hjz2 rfl (by decide) _ _ _ rfl (At.own_ext hown.out (X3.out.alloc _)) ⟨w4.heap.size,0,none⟩ 1 1 [.int .i64 (i:Int)] rfl rfl ?c1 ?c2 (by decide) ?c3 ?c4 ?c5 _ rfl ?_))
      case c1=>exact news1 _ _
      case c2=>simp[Value.oneCell']
      case c3=>unfold maxLen;omega
      case c4=>omega
      case c5=>have:=hx.out.size;have:=X3.out.size;simp;omega
      intro gg cc w5 hown5 hgrow5 _ _;have X5:=Lib.hid (show Ext w1 w5 from Below.grown ((hx.out.trans X3.out).alloc _) hgrow5 (by have:=hx.out.size;have:=X3.out.size;simp;omega) (fun q hq=>by have:=(hown.out.lt q hq).1;omega));rw[<-intsC_snoc,<- hs2.out] at hown5;have HO5:=Lib.hid hown5;clear hown5 hgrow5;go_wp2
      go_roundw
      case rel=>exact⟨i+1,n+1,_,rfl,by omega,by omega,by go_num,Lib.hid (by rw[hs2.out,List.length_append,<- hn.out];rfl),HO5,X5⟩
      case measure=>simp[RowKit.intOf];omega
    | false =>
      have hs2:Hid (M (i+1)=M i):=Lib.hid (by rw[HS1.out,if_neg (by decide),List.append_nil])
      go_wp2_with (first
        | (go_at_call 181;refine Calls.mono (by with_reducible exact HCX.out _ (XW.out.trans (hx.out.alloc _))) ?_;rintro e w3 ⟨⟨v3,rfl,hv3⟩,x3⟩;have HV3:=Lib.hid hv3;have X3:=Lib.hid ((Ext.refl wr).alloc _ |>.trans x3);clear hv3 x3)
        | (go_at_call 132;refine Calls.mono (by with_reducible exact has_any Z _ _ _ _ _ HV3.out HZL.out) ?_;rintro e w4 ⟨rfl,rfl⟩;rw[<-HB.out]))
      go_roundw
      case rel=>exact⟨i+1,n,ov,rfl,by omega,by omega,by go_num,Lib.hid (by rw[hs2.out];exact hn.out),Lib.hid (by rw[hs2.out];exact At.own_ext hown.out X3.out),Lib.hid (hx.out.trans X3.out)⟩
      case measure=>simp[RowKit.intOf];omega
  have hiq:i=q:=by omega
  have hr:Hid (M i=T):=Lib.hid (by rw[hiq];exact HT.out.symm);have c1:¬ (i:Int) < (q:Int):=by omega
  clear hiq;go_wp2;go_ret;exact⟨⟨_,rfl,by have h:=hown.out;rw[hr.out,hn.out,hr.out] at h;exact own_base h hsz⟩,XW.out.trans hx.out⟩
end Go.Proofs.YtjaeedbjknejdaaGreatDoor.Ex

namespace Go.Proofs.YtjaeedbjknejdaaGreatDoor.Nm
open Go
section
variable {P:Program} {ops:Array Oper} {Q:Exit->Act->World->Prop} {md:Region.Mode} {S:World->Prop} {n:Nat}
def wpAnyK (P:Program)(md:Region.Mode)(ops:Array Oper)(Q:Exit->Act->World->Prop)(S:World->Prop)(n:Nat):Nat->Array Bool->Act->World->Prop
  | 0,listed,a,w=>Region.ready md ops listed=[]/\Q .normal a w
  | fuel+1,listed,a,w =>
    (Region.ready md ops listed=[]->Q .normal a w) /\
    ∀ i ∈ Region.ready md ops listed,wpOp P ops Q i (fun a' w'=>(i ≠ n->S w')/\wpAnyK P md ops Q S n fuel (listed.setIfInBounds i true) a' w') a w
theorem wpAny_of_K : ∀ (fuel:Nat) (listed:Array Bool) (a:Act) (w:World),wpAnyK P md ops Q S n fuel listed a w->wpAny P md ops Q fuel listed a w
  | 0,_,_,_,h=>h
  | fuel+1,_,_,_,h=>⟨h.1,fun i hi=>wpOp_mono (fun a' w' h'=>wpAny_of_K fuel _ a' w' h'.2) (h.2 i hi)⟩
def waitsB (md:Region.Mode)(ops:Array Oper)(n i:Nat):Bool :=
  match ops[n]? with
  | some on=>on.after.any fun e=>Region.binds md e && e.on == i
  | none=>false
theorem waits_not {i:Nat}{listed:Array Bool}(hw:waitsB md ops n i=true)(hi:i ∈ Region.ready md ops listed):n ∉ Region.ready md ops listed:=fun hn=>by
  obtain⟨_,on,hon,hall⟩:=mem_ready.1 hn;unfold waitsB at hw;rw[hon] at hw;obtain⟨e,he,hb⟩:=Array.any_eq_true'.1 hw;simp only[Bool.and_eq_true,beq_iff_eq] at hb;have h1:=hall e he hb.1;have h0:=(mem_ready.1 hi).1;rw[hb.2] at h1;rcases Nat.lt_or_ge i listed.size with h' | h'
  · simp[h'] at h0 h1;rw[h0] at h1;cases h1
  simp[Array.getElem?_eq_none h'] at h1
theorem wpAnyK_first {i:Nat}{oi:Oper}{v:Value}(hi:ops[i]? = some oi)(hsel:∀ (j:Nat) (o:Oper) cs b,ops[j]? = some o->o.op ≠ .select cs b)(hin:i ≠ n)(hw:waitsB md ops n i=true)
    (hQ:∀ c a w,Q (.panic c) (a.put oi.dst v) w->Q (.panic c) a w) :
    ∀ (fuel:Nat) (listed:Array Bool) (a:Act) (w:World),
      (∀ j oj,ops[j]? = some oj->j ≠ i->listed.getD j true=false->(∀ e ∈ oj.after,Region.binds md e=true->e.on ≠ i)->oi.apart ops oj=true) ->
      i ∈ Region.ready md ops listed->YieldsIf P ops S oi v a->S w ->
      wpAnyK P md ops Q S n fuel (listed.setIfInBounds i true) (a.put oi.dst v) w->wpAnyK P md ops Q S n (fuel+1) listed a w:=by
  intro fuel
  induction fuel with
  | zero =>
    intro listed a w _ hr hy hS H;refine⟨fun h=>(by rw[h] at hr;cases hr),fun j hj=>?_⟩;by_cases hji:j=i
    · subst hji;exact hy.wpOp hi hS ⟨fun _=>hS,H⟩
    · have:=ready_mono hj hji;rw[H.1] at this;cases this
  | succ fuel ih =>
    intro listed a w hfree hr hy hS H;refine⟨fun h=>(by rw[h] at hr;cases hr),fun j hj=>?_⟩;by_cases hji:j=i
    · subst hji;exact hy.wpOp hi hS ⟨fun _=>hS,H⟩
    · have h1:=H.2 j (ready_mono hj hji);have hjn:j ≠ n:=fun e=>waits_not hw hr (e ▸ hj)
      obtain⟨hjun,oj,hoj,hall⟩:=mem_ready.1 hj
      have hnot:∀ e ∈ oj.after,Region.binds md e=true->e.on ≠ i:=fun e he hb heq=>by
        have h1:=hall e he hb;have h0:=(mem_ready.1 hr).1;rw[heq] at h1;rcases Nat.lt_or_ge i listed.size with h' | h'
        · simp[h'] at h0 h1;rw[h0] at h1;cases h1
        simp[Array.getElem?_eq_none h'] at h1
      have h2:=wpOp_putIf hoj (hfree j oj hoj hji hjun hnot) (fun cs b=>hsel i oi cs b hi) (fun cs b=>hsel j oj cs b hoj) hQ hy h1
      have hfree':∀ k ok,ops[k]? = some ok->k ≠ i->(listed.setIfInBounds j true).getD k true=false ->
          (∀ e ∈ ok.after,Region.binds md e=true->e.on ≠ i)->oi.apart ops ok=true:=fun k ok hk hki hun hno=>by
        refine hfree k ok hk hki ?_ hno;by_cases hjk:j=k
        · subst hjk;exact hjun
        rw[getD_set_ne true hjk] at hun;exact hun
      refine wpOp_mono (fun a' w' h3=>⟨fun _=>h3.2.1 hjn,ih (listed.setIfInBounds j true) a' w' hfree' (ready_mono hr (Ne.symm hji)) h3.1 (h3.2.1 hjn) ?_⟩) h2;rw[Array.setIfInBounds_comm _ _ hji];exact h3.2.2
theorem wpAnyK_take {i:Nat}{oi:Oper}{v:Value}{fuel:Nat}{listed:Array Bool}{a:Act}{w:World}(hi:ops[i]? = some oi)
    (hs:Region.noSelect ops=true) (hf:Region.free md ops listed i=true) (hr:(Region.ready md ops listed).contains i=true) (hw:(decide (i ≠ n) && waitsB md ops n i)=true)
    (hQ:∀ c a w,Q (.panic c) (a.put oi.dst v) w->Q (.panic c) a w) (hy:YieldsIf P ops S oi v a) (hS:S w)
    (h:wpAnyK P md ops Q S n fuel (listed.setIfInBounds i true) (a.put oi.dst v) w):wpAnyK P md ops Q S n (fuel+1) listed a w:=by
  rw[Bool.and_eq_true,decide_eq_true_eq] at hw;exact wpAnyK_first hi (Region.noSelect_spec hs) hw.1 hw.2 hQ fuel listed a w (Region.free_spec hi hf) (by simpa using hr) hy hS h
theorem wpAnyK_step {i:Nat}{o:Oper}{fuel:Nat}{listed:Array Bool}{a:Act}{w:World}(ho:ops[i]? = some o)(hr:Region.ready md ops listed=[i])
    (h:∀ K':Act->World->Prop,Shut (∀ a w,(i ≠ n->S w)->((i ≠ n->S w)->wpAnyK P md ops Q S n fuel (listed.setIfInBounds i true) a w)->K' a w)->if Region.wanted o (yielded ops a.tmps)=true then Oper.wp P o a w K' Q else K' (a.put o.dst undef) w) :
    wpAnyK P md ops Q S n (fuel+1) listed a w:=by
  refine⟨fun h0=>absurd (hr ▸ h0) (by simp),fun j hj=>?_⟩;rw[hr] at hj;have hj':=List.mem_singleton.1 hj;subst hj';exact wpOp_step ho (fun K' hK=>h K' (fun a w hS hW=>hK a w ⟨hS,hW hS⟩))
theorem wpAnyK_done {listed:Array Bool}{a:Act}{w:World}(hr:Region.ready md ops listed=[])(h:Q .normal a w):∀ fuel,wpAnyK P md ops Q S n fuel listed a w
  | 0=>⟨hr,h⟩
  | _+1=>⟨fun _=>h,by rw[hr];simp⟩
theorem wp_region_K {id:Nat}{a:Act}{w:World}(hm:P.follows .mixedOrders=true)(hS:S w.drew)
    (h:S w.drew->wpAnyK P .any ops Q S n ops.size (Array.replicate ops.size false) a w.drew):(Code.region id ops true).wp P Q a w :=
  wp_region_any hm (wpAny_of_K _ _ _ _ (h hS))
end
theorem q1 (l:List Value)(i:Nat)(v:Value):l.toArray.setIfInBounds i v=(l.set i v).toArray:=List.setIfInBounds_toArray ..
theorem q2 (a v:Value)(l:List Value):(a::l).set 0 v=v::l:=rfl
theorem q3 (a v:Value)(l:List Value)(n:Nat):(a::l).set (n+1) v=a::l.set n v:=rfl
section
variable {P:Program} {ops:Array Oper} {Q:Exit->Act->World->Prop} {md:Region.Mode} {S:World->Prop}
theorem kT (n i:Nat){oi:Oper}(v:Value){fuel:Nat}{listed:Array Bool}{a:Act}{w:World}(hi:ops[i]? = some oi)
    (hb:(Region.noSelect ops && Region.free md ops listed i && (Region.ready md ops listed).contains i && (decide (i ≠ n) && waitsB md ops n i))=true)
    (hQ:∀ c a w,Q (.panic c) (a.put oi.dst v) w->Q (.panic c) a w) (hy:YieldsIf P ops S oi v a) (hS:S w)
    (h:wpAnyK P md ops Q S n fuel (listed.setIfInBounds i true) (a.put oi.dst v) w):wpAnyK P md ops Q S n (fuel+1) listed a w:=by
  rw[Bool.and_eq_true,Bool.and_eq_true,Bool.and_eq_true] at hb;exact wpAnyK_take hi hb.1.1.1 hb.1.1.2 hb.1.2 hb.2 hQ hy hS h
end
end Go.Proofs.YtjaeedbjknejdaaGreatDoor.Nm
