/- Packed texts: NorFinD, NorFns, NorBox -/
import Derived.Test.YtjaeedbjknejdaaGreatDoorPd39
set_option linter.unusedVariables false
set_option linter.unusedSimpArgs false
set_option maxHeartbeats 16000000
set_option maxRecDepth 100000
namespace Go.Proofs.YtjaeedbjknejdaaGreatDoor.Nm
open Go.RowKit Go.Sort Go.Lib Go.Shelf Fx Lx Tr At
theorem size_nd : (Tryz.prog.info? 59).map (·.size)=some 6:=by kernel_rfl
structure NB (w:World)(gb gr:Nat)(a0 a1 a2 a3 a4 a5:Value)(wr:World):Prop where
 b:wr.heap[gb]? = some (.cells #[a0,a1,a2,a3,a4,a5] 59 (0,0))
 r:∃ z0 z1 z2 z3 z4 z5,wr.heap[gr]? = some (.cells #[z0,z1,z2,z3,z4,z5] 59 (0,0))
 x:Ext w wr
 l:w.heap.size<=gb/\gb < gr
section
variable {w wr w2:World} {gb gr:Nat} {a0 a1 a2 a3 a4 a5:Value}
theorem NB.ext (h:NB w gb gr a0 a1 a2 a3 a4 a5 wr)(x:Ext wr w2):NB w gb gr a0 a1 a2 a3 a4 a5 w2 :=
 ⟨At.heap_ext h.b x,by obtain⟨z0,z1,z2,z3,z4,z5,hz⟩:=h.r;exact⟨z0,z1,z2,z3,z4,z5,At.heap_ext hz x⟩,h.x.trans x,h.l⟩
theorem NB.set (h:NB w gb gr a0 a1 a2 a3 a4 a5 wr)(j:Nat)(u b0 b1 b2 b3 b4 b5:Value)(e:(#[a0,a1,a2,a3,a4,a5]:Array Value).setIfInBounds j u=#[b0,b1,b2,b3,b4,b5]):NB w gb gr b0 b1 b2 b3 b4 b5 (wr.setCell ⟨gb,j,none⟩ u):=by
 obtain⟨z0,z1,z2,z3,z4,z5,hz⟩:=h.r;exact⟨by rw[blk_set h.b,e],⟨z0,z1,z2,z3,z4,z5,by rw[Below.heap_setCell _ _ _ _ (show gr ≠ gb by have:=h.l;omega)];exact hz⟩,h.x.setCell h.l.1 _,h.l⟩
theorem NB.cells (h:NB w gb gr a0 a1 a2 a3 a4 a5 wr):wr.cell? ⟨gb,0,none⟩=some a0/\wr.cell? ⟨gb,1,none⟩=some a1/\wr.cell? ⟨gb,2,none⟩=some a2/\wr.cell? ⟨gb,3,none⟩=some a3/\wr.cell? ⟨gb,4,none⟩=some a4/\wr.cell? ⟨gb,5,none⟩=some a5/\(∀ j,wr.frozen? ⟨gb,j,none⟩=false):=by
 refine⟨?_,?_,?_,?_,?_,?_,fun j=>Lib.frozen_of_heap h.b j⟩ <;> (rw[Lib.cell_of_heap h.b];rfl)
theorem NB.rset (h:NB w gb gr a0 a1 a2 a3 a4 a5 wr):(∀ j,wr.frozen? ⟨gr,j,none⟩=false)/\(∀ j,j < 6->∃ u,wr.cell? ⟨gr,j,none⟩=some u)/\∀ v0 v1 v2 v3 v4 v5:Value,((((((wr.setCell ⟨gr,0,none⟩ v0).setCell ⟨gr,1,none⟩ v1).setCell ⟨gr,2,none⟩ v2).setCell ⟨gr,3,none⟩ v3).setCell ⟨gr,4,none⟩ v4).setCell ⟨gr,5,none⟩ v5).heap[gr]? = some (.cells #[v0,v1,v2,v3,v4,v5] 59 (0,0)) /\
  Ext w ((((((wr.setCell ⟨gr,0,none⟩ v0).setCell ⟨gr,1,none⟩ v1).setCell ⟨gr,2,none⟩ v2).setCell ⟨gr,3,none⟩ v3).setCell ⟨gr,4,none⟩ v4).setCell ⟨gr,5,none⟩ v5) /\
  wr.grownBy ((((((wr.setCell ⟨gr,0,none⟩ v0).setCell ⟨gr,1,none⟩ v1).setCell ⟨gr,2,none⟩ v2).setCell ⟨gr,3,none⟩ v3).setCell ⟨gr,4,none⟩ v4).setCell ⟨gr,5,none⟩ v5) (some gr)/\TyOf wr (some gr) (some 59):=by
 obtain⟨z0,z1,z2,z3,z4,z5,hz⟩:=h.r;have hl:w.heap.size<=gr:=by have:=h.l;omega
 refine⟨fun j=>Lib.frozen_of_heap hz j,fun j hj=>?_,fun v0 v1 v2 v3 v4 v5=>⟨?_,?_,?_,cel_ty hz⟩⟩
 ·rw[Lib.cell_of_heap hz]
  match j,hj with
  | 0,_=>exact⟨_,rfl⟩
  | 1,_=>exact⟨_,rfl⟩
  | 2,_=>exact⟨_,rfl⟩
  | 3,_=>exact⟨_,rfl⟩
  | 4,_=>exact⟨_,rfl⟩
  | 5,_=>exact⟨_,rfl⟩
 ·have h0:(wr.setCell ⟨gr,0,none⟩ v0).heap[gr]? = some (.cells #[v0,z1,z2,z3,z4,z5] 59 (0,0)):=blk_set hz 0 v0;have h1:((wr.setCell ⟨gr,0,none⟩ v0).setCell ⟨gr,1,none⟩ v1).heap[gr]? = some (.cells #[v0,v1,z2,z3,z4,z5] 59 (0,0)):=blk_set h0 1 v1;have h2:(((wr.setCell ⟨gr,0,none⟩ v0).setCell ⟨gr,1,none⟩ v1).setCell ⟨gr,2,none⟩ v2).heap[gr]? = some (.cells #[v0,v1,v2,z3,z4,z5] 59 (0,0)):=blk_set h1 2 v2;have h3:((((wr.setCell ⟨gr,0,none⟩ v0).setCell ⟨gr,1,none⟩ v1).setCell ⟨gr,2,none⟩ v2).setCell ⟨gr,3,none⟩ v3).heap[gr]? = some (.cells #[v0,v1,v2,v3,z4,z5] 59 (0,0)):=blk_set h2 3 v3;have h4:(((((wr.setCell ⟨gr,0,none⟩ v0).setCell ⟨gr,1,none⟩ v1).setCell ⟨gr,2,none⟩ v2).setCell ⟨gr,3,none⟩ v3).setCell ⟨gr,4,none⟩ v4).heap[gr]? = some (.cells #[v0,v1,v2,v3,v4,z5] 59 (0,0)):=blk_set h3 4 v4
  have h5:((((((wr.setCell ⟨gr,0,none⟩ v0).setCell ⟨gr,1,none⟩ v1).setCell ⟨gr,2,none⟩ v2).setCell ⟨gr,3,none⟩ v3).setCell ⟨gr,4,none⟩ v4).setCell ⟨gr,5,none⟩ v5).heap[gr]? = some (.cells #[v0,v1,v2,v3,v4,v5] 59 (0,0)):=blk_set h4 5 v5;exact h5
 ·exact(((((h.x.setCell hl _).setCell hl _).setCell hl _).setCell hl _).setCell hl _).setCell hl _
 refine⟨by simp[World.setCell],by simp[World.setCell],by simp[World.setCell],by simp[World.setCell],fun k _ hk=>?_⟩;have hne:k ≠ gr:=fun e=>hk (by rw[e])
 rw[Below.heap_setCell _ _ _ _ (show k ≠ gr from hne),Below.heap_setCell _ _ _ _ (show k ≠ gr from hne),Below.heap_setCell _ _ _ _ (show k ≠ gr from hne),Below.heap_setCell _ _ _ _ (show k ≠ gr from hne),Below.heap_setCell _ _ _ _ (show k ≠ gr from hne),Below.heap_setCell _ _ _ _ (show k ≠ gr from hne)]
end
theorem finD_any (nm:ByteArray)(c:Int)(a:Option Addr)(l:List Two)(cap:Nat)(w:World)(h:AtrIn w a l)(hs:∀ q ∈ l,q.2.size<=64)(hL:l.length<=1000000000):
  Calls Tryz.prog 93 #[.agg #[.string nm,.string ⟨#[]⟩,.int .i64 0,.int .i64 0,.int .i64 c,.slice none 0 0],.slice a l.length cap] w fun e w'=>(∃ pv,e=.returned (.agg #[.string nm,.string (labelT l nm),.int .i64 (numK 1 l kWidth),.int .i64 (numK 1 l kHeight),.int .i64 c,pv])/\PtL w' pv (finN (nm,c) l).ports)/\Ext w w':=by
 have hg1:=fun(w5:World) (x:Ext w w5)=>getR_any a l cap kLabel w5 (h.ext x) (by omega)
 have hg2:=fun(w5:World) (x:Ext w w5)=>getR_any a l cap kPorts w5 (h.ext x) (by omega)
 have hn1:=fun(w5:World) (x:Ext w w5)=>numR_any 1 a l cap kWidth w5 (h.ext x) (by omega) (fun q hq=>by have:=hs q hq;omega)
 have hn2:=fun(w5:World) (x:Ext w w5)=>numR_any 1 a l cap kHeight w5 (h.ext x) (by omega) (fun q hq=>by have:=hs q hq;omega)
 simp only[<-num_same] at hn1 hn2;have hpr:=fun(w5:World)=>portsR_any (getT l kPorts).1 w5 (by have:=getT_sz (x:=kPorts) hs;omega)
 obtain⟨LB,hLB⟩:∃ v,v=labelT l nm:=⟨_,rfl⟩;obtain⟨WD,hWD⟩:∃ v,v=numK 1 l kWidth:=⟨_,rfl⟩;obtain⟨HG,hHG⟩:∃ v,v=numK 1 l kHeight:=⟨_,rfl⟩;obtain⟨PV,hPV⟩:∃ v,v=portsV (getT l kPorts).1:=⟨_,rfl⟩;have hfp:(finN (nm,c) l).ports=PV.1:=by rw[hPV];rfl
 rw[hfp,<- hLB,<- hWD,<- hHG];unfold numK at hWD hHG;rw[<-hWD] at hn1;rw[<-hHG] at hn2;simp only[<-hPV] at hpr;unfold labelT at hLB;obtain⟨⟨s1,b1⟩,hG1⟩:∃ G,G=getT l kLabel:=⟨_,rfl⟩;obtain⟨⟨s2,b2⟩,hG2⟩:∃ G,G=getT l kPorts:=⟨_,rfl⟩;simp only[<-hG1] at hg1 hLB;simp only[<-hG2] at hg2 hpr hPV
 have hp0:b2=false->PV.1=[]:=fun e=>by
  subst e;have:=getT_false (L:=l) (x:=kPorts) (by rw[<-hG2]);rw[<-hG2] at this;injection this with this _;rw[hPV,this];rfl
 obtain⟨LN,hLN⟩:∃ n,n=l.length:=⟨_,rfl⟩;simp only[<-hLN] at hg1 hg2 hn1 hn2;rw[<-hLN];unfold kLabel at hg1;unfold kPorts at hg2;unfold kWidth at hn1;unfold kHeight at hn2;have HG1:=hid hg1;have HG2:=hid hg2;have HN1:=hid hn1;have HN2:=hid hn2;have HPR:=hid hpr;have HLB:=hid hLB;have HP0:=hid hp0;clear hg1 hg2 hn1 hn2 hpr hLB hp0 hWD hHG hPV hG1 hG2 hLN hfp h hs hL;go_enter Tryz.func93,Tryz.ntmps93;go_wp2_with fail;obtain⟨gb,hgb⟩:∃ g,g=w.heap.size:=⟨_,rfl⟩;obtain⟨gr,hgr⟩:∃ g,g=w.heap.size+1:=⟨_,rfl⟩;obtain⟨w2,hw2⟩:∃ w2,w2=(w.alloc (.cells #[.string nm,.string nm,.int .i64 0,.int .i64 0,.int .i64 c,.slice none 0 0] 59)).alloc (.cells #[.string ⟨#[]⟩,.string ⟨#[]⟩,.int .i64 0,.int .i64 0,.int .i64 0,.slice none 0 0] 59):=⟨_,rfl⟩
 have B2:Hid (NB w gb gr (.string nm) (.string nm) (.int .i64 0) (.int .i64 0) (.int .i64 c) (.slice none 0 0) w2):=hid (by
  rw[hgb,hgr,hw2];refine⟨At.heap_ext (heap_alloc_new w _) ((Ext.refl _).alloc _),⟨.string ⟨#[]⟩,.string ⟨#[]⟩,.int .i64 0,.int .i64 0,.int .i64 0,.slice none 0 0,?_⟩,((Ext.refl _).alloc _).alloc _,by omega⟩;have h:=heap_alloc_new (w.alloc (.cells #[.string nm,.string nm,.int .i64 0,.int .i64 0,.int .i64 c,.slice none 0 0] 59)) (.cells #[.string ⟨#[]⟩,.string ⟨#[]⟩,.int .i64 0,.int .i64 0,.int .i64 0,.slice none 0 0] 59);rw[World.size_alloc] at h
  exact h)
 rw[<-hw2,<- hgr,<- hgb];clear hw2 hgr hgb;refine(HG1.out _ B2.out.x).mono ?_;rintro e w3 ⟨rfl,rfl⟩;obtain⟨c0,c1,c2,c3,c4,c5,cf⟩:=B2.out.cells
 have HL:Hid (∃ wL,(wL=w2/\b1=false\/wL=w2.setCell ⟨gb,1,none⟩ (.string s1)/\b1=true)/\NB w gb gr (.string nm) (.string LB) (.int .i64 0) (.int .i64 0) (.int .i64 c) (.slice none 0 0) wL):=hid (by
  cases b1 with
  | true=>exact⟨_,.inr ⟨rfl,rfl⟩,by rw[HLB.out,if_pos rfl];exact B2.out.set 1 _ _ _ _ _ _ _ rfl⟩
  | false=>exact⟨_,.inl ⟨rfl,rfl⟩,by rw[HLB.out,if_neg (by decide)];exact B2.out⟩)
 obtain⟨wL,hwL,hBL⟩:=HL.out;have BL:=hid hBL;clear HL hBL;cases b1 with
 | true =>
  have hwL:wL=w2.setCell ⟨gb,1,none⟩ (.string s1):=by rcases hwL with h | h;exact absurd h.2 (by decide);exact h.1
  have HWL:=hid hwL;clear hwL;go_wp2_with fail;rw[<-HWL.out];clear HWL c0 c1 c2 c3 c4 c5 cf B2;refine(HN1.out _ BL.out.x).mono ?_;rintro e w4 ⟨rfl,x4⟩;go_wp2_with fail;refine(HN2.out _ (BL.out.ext x4).x).mono ?_;rintro e w5 ⟨rfl,x5⟩;have B5:=hid ((BL.out.ext x4).ext x5);clear BL x4 x5;obtain⟨d0,d1,d2,d3,d4,d5,df⟩:=B5.out.cells;have B6:=hid ((B5.out.set 2 (.int .i64 WD) _ _ _ _ _ _ rfl).set 3 (.int .i64 HG) _ _ _ _ _ _ rfl);go_wp2_with fail;obtain⟨w6,hw6⟩:∃ w6,w6=(w5.setCell ⟨gb,2,none⟩ (.int .i64 WD)).setCell ⟨gb,3,none⟩ (.int .i64 HG):=⟨_,rfl⟩;rw[<-hw6] at B6 ⊢;clear hw6 B5 d0 d1 d2 d3 d4 d5 df;refine(HG2.out _ B6.out.x).mono ?_;rintro e w7 ⟨rfl,rfl⟩;cases b2 with
  | true =>
   go_wp2_with fail;refine(HPR.out _).mono ?_;rintro e w8 ⟨⟨pv,rfl,hown⟩,x8⟩;obtain⟨pp,pc,rfl,hpi,hpl,hpm,hpb⟩:=own_ptL hown;have B8:=hid (B6.out.ext x8);have HPT:=hid ((show PtL w8 (.slice pp PV.1.length pc) PV.1 from⟨pp,pc,rfl,hpi,hpl,hpm,hpb⟩).keep (set_grown w8 gb 5 (.slice pp PV.1.length pc)) (cel_ty B8.out.b) (by decide));clear hpi hpl hpm hpb hown B6 x8;obtain⟨d0,d1,d2,d3,d4,d5,df⟩:=B8.out.cells;have B9:=hid (B8.out.set 5 (.slice pp PV.1.length pc) _ _ _ _ _ _ rfl);have HR:=B9.out.rset;obtain⟨k0,k1,k2,k3,k4,k5,-⟩:=B9.out.cells;have kf:=HR.1;obtain⟨r0,hr0⟩:=HR.2.1 0 (by decide);obtain⟨r1,hr1⟩:=HR.2.1 1 (by decide);obtain⟨r2,hr2⟩:=HR.2.1 2 (by decide);obtain⟨r3,hr3⟩:=HR.2.1 3 (by decide);obtain⟨r4,hr4⟩:=HR.2.1 4 (by decide);obtain⟨r5,hr5⟩:=HR.2.1 5 (by decide);go_wp2
   (try simp only[Exit.inBlock,Exit.then])
   have HZ:=HR.2.2 (.string nm) (.string LB) (.int .i64 WD) (.int .i64 HG) (.int .i64 c) (.slice pp PV.1.length pc);refine bodyPost_ret (results_cell_row rfl _ _ gr 59 #[.string nm,.string LB,.int .i64 WD,.int .i64 HG,.int .i64 c,.slice pp PV.1.length pc] (0,0) _ rfl HZ.1 Tryz.underlying59 rfl size_nd) rfl ?_;exact⟨⟨_,rfl,HPT.out.keep HZ.2.2.1 HZ.2.2.2 (by decide)⟩,HZ.2.1⟩
  | false =>
   have B9:=B6;have HR:=B9.out.rset;obtain⟨k0,k1,k2,k3,k4,k5,-⟩:=B9.out.cells;have kf:=HR.1;obtain⟨r0,hr0⟩:=HR.2.1 0 (by decide);obtain⟨r1,hr1⟩:=HR.2.1 1 (by decide);obtain⟨r2,hr2⟩:=HR.2.1 2 (by decide);obtain⟨r3,hr3⟩:=HR.2.1 3 (by decide);obtain⟨r4,hr4⟩:=HR.2.1 4 (by decide);obtain⟨r5,hr5⟩:=HR.2.1 5 (by decide);go_wp2
   (try simp only[Exit.inBlock,Exit.then])
   have HZ:=HR.2.2 (.string nm) (.string LB) (.int .i64 WD) (.int .i64 HG) (.int .i64 c) (.slice none 0 0);refine bodyPost_ret (results_cell_row rfl _ _ gr 59 #[.string nm,.string LB,.int .i64 WD,.int .i64 HG,.int .i64 c,.slice none 0 0] (0,0) _ rfl HZ.1 Tryz.underlying59 rfl size_nd) rfl ?_;exact⟨⟨_,rfl,by rw[HP0.out (by trivial)];exact PtL.nil _⟩,HZ.2.1⟩
 | false =>
  have hwL:wL=w2:=by rcases hwL with h | h;exact h.1;exact absurd h.2 (by decide)
  subst hwL;go_wp2_with fail;clear c0 c1 c2 c3 c4 c5 cf B2;refine(HN1.out _ BL.out.x).mono ?_;rintro e w4 ⟨rfl,x4⟩;go_wp2_with fail;refine(HN2.out _ (BL.out.ext x4).x).mono ?_;rintro e w5 ⟨rfl,x5⟩;have B5:=hid ((BL.out.ext x4).ext x5);clear BL x4 x5;obtain⟨d0,d1,d2,d3,d4,d5,df⟩:=B5.out.cells;have B6:=hid ((B5.out.set 2 (.int .i64 WD) _ _ _ _ _ _ rfl).set 3 (.int .i64 HG) _ _ _ _ _ _ rfl);go_wp2_with fail;obtain⟨w6,hw6⟩:∃ w6,w6=(w5.setCell ⟨gb,2,none⟩ (.int .i64 WD)).setCell ⟨gb,3,none⟩ (.int .i64 HG):=⟨_,rfl⟩;rw[<-hw6] at B6 ⊢;clear hw6 B5 d0 d1 d2 d3 d4 d5 df;refine(HG2.out _ B6.out.x).mono ?_;rintro e w7 ⟨rfl,rfl⟩;cases b2 with
  | true =>
   go_wp2_with fail;refine(HPR.out _).mono ?_;rintro e w8 ⟨⟨pv,rfl,hown⟩,x8⟩;obtain⟨pp,pc,rfl,hpi,hpl,hpm,hpb⟩:=own_ptL hown;have B8:=hid (B6.out.ext x8);have HPT:=hid ((show PtL w8 (.slice pp PV.1.length pc) PV.1 from⟨pp,pc,rfl,hpi,hpl,hpm,hpb⟩).keep (set_grown w8 gb 5 (.slice pp PV.1.length pc)) (cel_ty B8.out.b) (by decide));clear hpi hpl hpm hpb hown B6 x8;obtain⟨d0,d1,d2,d3,d4,d5,df⟩:=B8.out.cells;have B9:=hid (B8.out.set 5 (.slice pp PV.1.length pc) _ _ _ _ _ _ rfl);have HR:=B9.out.rset;obtain⟨k0,k1,k2,k3,k4,k5,-⟩:=B9.out.cells;have kf:=HR.1;obtain⟨r0,hr0⟩:=HR.2.1 0 (by decide);obtain⟨r1,hr1⟩:=HR.2.1 1 (by decide);obtain⟨r2,hr2⟩:=HR.2.1 2 (by decide);obtain⟨r3,hr3⟩:=HR.2.1 3 (by decide);obtain⟨r4,hr4⟩:=HR.2.1 4 (by decide);obtain⟨r5,hr5⟩:=HR.2.1 5 (by decide);go_wp2
   (try simp only[Exit.inBlock,Exit.then])
   have HZ:=HR.2.2 (.string nm) (.string LB) (.int .i64 WD) (.int .i64 HG) (.int .i64 c) (.slice pp PV.1.length pc);refine bodyPost_ret (results_cell_row rfl _ _ gr 59 #[.string nm,.string LB,.int .i64 WD,.int .i64 HG,.int .i64 c,.slice pp PV.1.length pc] (0,0) _ rfl HZ.1 Tryz.underlying59 rfl size_nd) rfl ?_;exact⟨⟨_,rfl,HPT.out.keep HZ.2.2.1 HZ.2.2.2 (by decide)⟩,HZ.2.1⟩
  | false =>
   have B9:=B6;have HR:=B9.out.rset;obtain⟨k0,k1,k2,k3,k4,k5,-⟩:=B9.out.cells;have kf:=HR.1;obtain⟨r0,hr0⟩:=HR.2.1 0 (by decide);obtain⟨r1,hr1⟩:=HR.2.1 1 (by decide);obtain⟨r2,hr2⟩:=HR.2.1 2 (by decide);obtain⟨r3,hr3⟩:=HR.2.1 3 (by decide);obtain⟨r4,hr4⟩:=HR.2.1 4 (by decide);obtain⟨r5,hr5⟩:=HR.2.1 5 (by decide);go_wp2
   (try simp only[Exit.inBlock,Exit.then])
   have HZ:=HR.2.2 (.string nm) (.string LB) (.int .i64 WD) (.int .i64 HG) (.int .i64 c) (.slice none 0 0);refine bodyPost_ret (results_cell_row rfl _ _ gr 59 #[.string nm,.string LB,.int .i64 WD,.int .i64 HG,.int .i64 c,.slice none 0 0] (0,0) _ rfl HZ.1 Tryz.underlying59 rfl size_nd) rfl ?_;exact⟨⟨_,rfl,by rw[HP0.out (by trivial)];exact PtL.nil _⟩,HZ.2.1⟩
end Go.Proofs.YtjaeedbjknejdaaGreatDoor.Nm

namespace Go.Proofs.YtjaeedbjknejdaaGreatDoor.Nm
open Go.RowKit Go.Sort Go.Lib Fx Lx Tr At
theorem nvsC_snoc (L:List (Nd × Value))(q:Nd × Value):nvsC (L++[q])=nvsC L++nvC q:=by unfold nvsC;simp
theorem PtLs.snoc {w:World}{NV:List (Nd × Value)}(h:PtLs w NV){y:Nd × Value}(hy:PtL w y.2 y.1.ports):PtLs w (NV++[y]):=fun j x e=>by
 by_cases hj:j < NV.length
 ·rw[List.getElem?_append_left hj] at e;exact h j x e
 rw[List.getElem?_append_right (by omega)] at e;have e2:=(List.getElem?_eq_some_iff.1 e).1;have e3:j - NV.length=0:=by simpa using e2
 rw[e3] at e;injection e with e;subst e;exact hy
structure FnD (ws:World)(gr gb:Nat)(nm:ByteArray)(dir:Bool)(cv:Value)(NV:List (Nd × Value))(nv:Value)(E:List Ed)(ev:Value)(w:World):Prop where
 rs:w.heap[gr]? = some (.cells #[.string ⟨#[]⟩,.bool false,.slice none 0 0,.slice none 0 0,.slice none 0 0] 26 (0,0))
 gr':w.heap[gb]? = some (.cells #[.string nm,.bool dir,nv,ev,cv] 26 (0,0))
 N:w.ownsRow ws.heap.size 59 6 nv NV.length (nvsC NV)
 P:PtLs w NV
 E:w.ownsRow ws.heap.size 61 7 ev E.length (edsC E)
 X:Ext ws w
 lo:ws.heap.size<=gr/\gr < gb
variable {ws w wA w2:World} {gr gb:Nat} {nm:ByteArray} {dir:Bool} {cv nv ev:Value} {NV:List (Nd × Value)} {E:List Ed}
theorem FnD.ext (h:FnD ws gr gb nm dir cv NV nv E ev w)(x:Ext w w2):FnD ws gr gb nm dir cv NV nv E ev w2 :=
 ⟨At.heap_ext h.rs x,At.heap_ext h.gr' x,At.own_ext h.N x,h.P.ext x,At.own_ext h.E x,h.X.trans x,h.lo⟩
theorem FnD.appN (h:FnD ws gr gb nm dir cv NV nv E ev w)(x:Ext w wA){v':Value}{n':Nat}(q:Nd × Value)(hq:PtL wA q.2 q.1.ports)(hn:n'=NV.length+1)(ho:w2.ownsRow ws.heap.size 59 6 v' n' (nvsC NV++nvC q))(hg:wA.grownBy w2 nv.ownBlock):
  FnD ws gr gb nm dir cv (NV++[q]) v' E ev (w2.setCell ⟨gb,2,none⟩ v'):=by
 have h2:=h.ext x;have ht:=row_ty h2.N;have hgr2:=cel_keep h2.gr' hg ht (nope (by decide));have hs:=set_grown w2 gb 2 v';have hst:=cel_ty hgr2;have hlo:=h.lo;subst hn;refine⟨(Below.heap_setCell _ _ _ _ (show gr ≠ gb by omega)).trans (cel_keep h2.rs hg ht (nope (by decide))),by rw[blk_set hgr2];rfl,?_,((h2.P.keep hg ht (nope (by decide))).snoc (hq.keep hg ht (nope (by decide)))).keep hs hst (nope (by decide)),row_keep (row_keep h2.E hg ht (nope (by decide))) hs hst (nope (by decide)),(ext_grown h2.X hg (fun k e=>(h2.N.lt k e).1)).setCell (show ws.heap.size<=gb by omega) _,h.lo⟩;have:=row_keep ho hs hst (nope (by decide));rw[nvsC_snoc]
 simpa using this
theorem FnD.appE (h:FnD ws gr gb nm dir cv NV nv E ev w)(x:Ext w wA){v':Value}{n':Nat}(q:Ed)(hn:n'=E.length+1)(ho:w2.ownsRow ws.heap.size 61 7 v' n' (edsC E++edC q))(hg:wA.grownBy w2 ev.ownBlock):
  FnD ws gr gb nm dir cv NV nv (E++[q]) v' (w2.setCell ⟨gb,3,none⟩ v'):=by
 have h2:=h.ext x;have ht:=row_ty h2.E;have hgr2:=cel_keep h2.gr' hg ht (nope (by decide));have hs:=set_grown w2 gb 3 v';have hst:=cel_ty hgr2;have hlo:=h.lo;subst hn;refine⟨(Below.heap_setCell _ _ _ _ (show gr ≠ gb by omega)).trans (cel_keep h2.rs hg ht (nope (by decide))),by rw[blk_set hgr2];rfl,row_keep (row_keep h2.N hg ht (nope (by decide))) hs hst (nope (by decide)),(h2.P.keep hg ht (nope (by decide))).keep hs hst (nope (by decide)),?_,(ext_grown h2.X hg (fun k e=>(h2.E.lt k e).1)).setCell (show ws.heap.size<=gb by omega) _,h.lo⟩;have:=row_keep ho hs hst (nope (by decide));rw[edsC_snoc]
 simpa using this
theorem FnD.made (h:FnD ws gr gb nm dir cv NV nv E ev w){C:List (ByteArray × Int)}{B:Nat}(hc:w.ownsRow B 63 2 cv C.length (clsC C)):GrIn w (.agg #[.string nm,.bool dir,nv,ev,cv]) ⟨nm,dir,NV.map Prod.fst,E,C⟩:=by
 obtain⟨na,nc,rfl,h1,h2⟩:=row_nd h.N h.P;obtain⟨ea,ec,rfl,h3⟩:=row_ed h.E;obtain⟨ca,cc,rfl,h4,h5,h6⟩:=row_cl hc;exact⟨na,nc,ea,ec,ca,cc,rfl,h1,h3,h4⟩
theorem FnD.madeC (h:FnD ws gr gb nm dir cv NV nv E ev w){C:List (ByteArray × Int)}{B:Nat}(hc:w.ownsRow B 63 2 cv C.length (clsC C)):GrCp w (.agg #[.string nm,.bool dir,nv,ev,cv]) ⟨nm,dir,NV.map Prod.fst,E,C⟩:=by
 obtain⟨na,nc,rfl,h1,h2⟩:=row_nd h.N h.P;obtain⟨ea,ec,rfl,h3⟩:=row_ed h.E;obtain⟨ca,cc,rfl,h4,h5,h6⟩:=row_cl hc;exact⟨na,nc,ea,ec,ca,cc,rfl,h2,h5,h6⟩
end Go.Proofs.YtjaeedbjknejdaaGreatDoor.Nm

namespace Go.Proofs.YtjaeedbjknejdaaGreatDoor.Nm
open Go.RowKit Go.Lib Fx Lx At
theorem noint {w:World}{gb:Nat}(hb:w.heap[gb]? = some (.cells #[.string ⟨#[]⟩,.bool false,.slice none 0 0,.slice none 0 0,.slice none 0 0] 26 (0,0))){g j:Nat}{x:Int}(h:w.cell? ⟨g,j,none⟩=some (.int .i64 x)):g ≠ gb:=by
 rintro rfl;rw[Lib.cell_of_heap hb] at h;rcases j with _ | _ | _ | _ | _ | j <;> simp at h
theorem cell_set5 {w:World}{gb g j:Nat}{x:Value}(hg:g ≠ gb)(h:w.cell? ⟨g,j,none⟩=some x)(v0 v1 v2 v3 v4:Value):
  (((((w.setCell ⟨gb,0,none⟩ v0).setCell ⟨gb,1,none⟩ v1).setCell ⟨gb,2,none⟩ v2).setCell ⟨gb,3,none⟩ v3).setCell ⟨gb,4,none⟩ v4).cell? ⟨g,j,none⟩=some x:=by
 have key:∀ (w:World) (i:Nat) (v:Value),w.cell? ⟨g,j,none⟩=some x->(w.setCell ⟨gb,i,none⟩ v).cell? ⟨g,j,none⟩=some x:=fun w i v h=>by
  rw[World.cell?_of_block (w:=w) (a:=⟨g,j,none⟩) (Below.heap_setCell _ _ _ _ (fun e=>hg (by simpa using e)))];exact h
 exact key _ _ _ (key _ _ _ (key _ _ _ (key _ _ _ (key _ _ _ h))))
theorem GrIn.box {w:World}{gb:Nat}{v:Value}{g:Gr}(h:GrIn w v g)(hb:w.heap[gb]? = some (.cells #[.string ⟨#[]⟩,.bool false,.slice none 0 0,.slice none 0 0,.slice none 0 0] 26 (0,0)))(v0 v1 v2 v3 v4:Value):
  GrIn (((((w.setCell ⟨gb,0,none⟩ v0).setCell ⟨gb,1,none⟩ v1).setCell ⟨gb,2,none⟩ v2).setCell ⟨gb,3,none⟩ v3).setCell ⟨gb,4,none⟩ v4) v g:=by
 obtain⟨n,nc,e,ec,c,cc,hv,h1,h2,h3⟩:=h;refine⟨n,nc,e,ec,c,cc,hv,fun k hk=>?_,fun k hk=>?_,fun k hk=>?_⟩
 ·obtain⟨g',o,p,c',ha,k0,k1,k2,k3,k4,k5,k6⟩:=h1 k hk;have hn:=noint hb k2;refine⟨g',o,p,c',ha,cell_set5 hn k0 _ _ _ _ _,cell_set5 hn k1 _ _ _ _ _,cell_set5 hn k2 _ _ _ _ _,cell_set5 hn k3 _ _ _ _ _,cell_set5 hn k4 _ _ _ _ _,cell_set5 hn k5 _ _ _ _ _,fun i hi=>?_⟩;obtain⟨g2,o2,e2,q0,q1⟩:=k6 i hi;have hn2:=noint hb q1;exact⟨g2,o2,e2,cell_set5 hn2 q0 _ _ _ _ _,cell_set5 hn2 q1 _ _ _ _ _⟩
 ·obtain⟨g',o,ha,k0,k1,k2,k3,k4,k5,k6⟩:=h2 k hk;have hn:=noint hb k0;exact⟨g',o,ha,cell_set5 hn k0 _ _ _ _ _,cell_set5 hn k1 _ _ _ _ _,cell_set5 hn k2 _ _ _ _ _,cell_set5 hn k3 _ _ _ _ _,cell_set5 hn k4 _ _ _ _ _,cell_set5 hn k5 _ _ _ _ _,cell_set5 hn k6 _ _ _ _ _⟩
 obtain⟨g',o,ha,k0,k1⟩:=h3 k hk;have hn:=noint hb k1;exact⟨g',o,ha,cell_set5 hn k0 _ _ _ _ _,cell_set5 hn k1 _ _ _ _ _⟩
theorem GrCp.box {w:World}{gb:Nat}{v:Value}{g:Gr}(h:GrCp w v g)(hi:GrIn w v g)(hb:w.heap[gb]? = some (.cells #[.string ⟨#[]⟩,.bool false,.slice none 0 0,.slice none 0 0,.slice none 0 0] 26 (0,0)))(v0 v1 v2 v3 v4:Value):
  GrCp (((((w.setCell ⟨gb,0,none⟩ v0).setCell ⟨gb,1,none⟩ v1).setCell ⟨gb,2,none⟩ v2).setCell ⟨gb,3,none⟩ v3).setCell ⟨gb,4,none⟩ v4) v g:=by
 obtain⟨n,nc,e,ec,c,cc,rfl,a1,-,-⟩:=hi;obtain⟨h1,h2,h3⟩:=agg_at h;refine⟨n,nc,e,ec,c,cc,rfl,fun k hk g' o p n2 c2 ha hc=>?_,h2,h3⟩;obtain⟨g1,o1,p1,c1,ha1,-,-,k2,-,-,k5,-⟩:=a1 k hk;rw[ha] at ha1;cases ha1;have:=cell_set5 (noint hb k2) k5 v0 v1 v2 v3 v4;rw[hc] at this;have e:=Option.some.inj this;cases e;exact h1 k hk _ _ _ _ _ ha k5
end Go.Proofs.YtjaeedbjknejdaaGreatDoor.Nm
