/- Packed texts: NorCluD, NorChgR, NorChkR, NorKeyR -/
import Derived.Test.YtjaeedbjknejdaaGreatDoorPd43
set_option linter.unusedVariables false
set_option linter.unusedSimpArgs false
set_option maxHeartbeats 16000000
set_option maxRecDepth 100000
namespace Go.Proofs.YtjaeedbjknejdaaGreatDoor.Nm
open Go.RowKit Go.Sort Go.Lib Go.Shelf Fx Lx Tr At
def BlkD (w0:World)(bb B:Nat)(nm:ByteArray)(dir:Bool)(nn M:Nat):Prop :=
 ∀ (L:List Stm) (b:Option Addr) (cap:Nat) (p:Pl) (pn pe:Value) (S:St) (k:Nat) (w:World),cntL L<=M->StmsAt nn w0 b L->L.length<=maxLen->okWL L->Sml (1048576 * k) k S->SmP k p->k+cntL L<=512->DocE w0 bb B nm dir w S 0->AtL w pn p.n->AtL w pe p.e ->
  Calls Tryz.prog 42 #[.pointer (some ⟨bb,0,none⟩),.slice b L.length cap,.agg #[.int .i64 p.c,pn,pe]] w fun e w'=>e=.returned (.tuple #[])/\DocS w0 bb B nm dir w' (blkL p S L)/\KeepD w w'
theorem clustD_of (w0:World)(bb B nn M k:Nat)(nm':ByteArray)(dir:Bool)(hM:BlkD w0 bb B nm' dir nn M)(nm:ByteArray)(body:List Stm)(p:Pl)(pn pe:Value)(S:St)(r a b:Option Addr)(Rn An rc ac bc:Nat)(w:World)(hb:DocE w0 bb B nm' dir w S 0)(hpn:AtL w pn p.n)(hpe:AtL w pe p.e)
  (hbd:StmsAt nn w0 b body) (hbl:body.length<=maxLen) (hcm:cntL body<=M) (hok:okWL body) (hs:Sml (1048576 * k) k S) (hp:SmP k p) (hk:k+cntL body+1<=512) (hn:nm.size<=64) :
  Calls Tryz.prog 92 #[.pointer (some ⟨bb,0,none⟩),.agg #[.int .i64 5,.string nm,.slice r Rn rc,.slice a An ac,.slice b body.length bc],.agg #[.int .i64 p.c,pn,pe]] w fun e w'=>e=.returned (.tuple #[])/\DocS w0 bb B nm' dir w' (clusT p S nm body)/\KeepD w w':=by
 obtain⟨R,hR⟩:∃ R,R=clusT p S nm body:=⟨_,rfl⟩;rw[<-hR];unfold clusT at hR;obtain⟨nv,av,cv,lv,aw,ks,h⟩:=hb;have hpn0:=hpn;have hpe0:=hpe;obtain⟨pna,pnc,rfl,-,-⟩:=hpn;obtain⟨pea,pec,rfl,-,-⟩:=hpe;obtain⟨PN,hPN⟩:∃ n,n=p.n.length:=⟨_,rfl⟩;obtain⟨PE,hPE⟩:∃ n,n=p.e.length:=⟨_,rfl⟩;rw[<-hPN] at hpn0 ⊢;rw[<-hPE] at hpe0 ⊢;obtain⟨BL,hBL⟩:∃ n,n=body.length:=⟨_,rfl⟩
 have hblk:=fun w5=>hM body b bc { p with c:=S.C.length } (.slice pna PN pnc) (.slice pea PE pec) { S with C:=S.C++[(nm,p.c)] } (k+1) w5 hcm hbd hbl hok (by
  have h4:=hs.mono (m':=1048576 * (k+1)) (k':=k+1) (by omega) (by omega);refine⟨h4.n,h4.a,?_,h4.l,h4.at',h4.kt,h4.nn,fun q hq=>?_⟩
  ·have:=hs.c;simp;omega
  ·rcases List.mem_append.1 hq with hq | hq
   ·exact h4.cc q hq
   rw[List.mem_singleton.1 hq];exact⟨hn,hp.1,by have:=hp.2.1;show p.c<=_;omega⟩)
  ⟨by show(-1:Int)<=(S.C.length:Int);omega,by have:=hs.c;show(S.C.length:Int)<=_;omega,hp.2.2.1.mono (by omega),hp.2.2.2.mono (by omega)⟩ (by omega)
 rw[<-hBL] at hblk ⊢;obtain⟨w2,hw2⟩:∃ w2,w2=(w.alloc (.cells #[.int .i64 5,.string nm,.slice r Rn rc,.slice a An ac,.slice b BL bc] 67)).alloc (.cells #[.int .i64 p.c,.slice pna PN pnc,.slice pea PE pec] 98):=⟨_,rfl⟩;have x2:Ext w w2:=by rw[hw2];exact((Ext.refl _).alloc _).alloc _
 have hs2:w2.heap[w.heap.size]? = some (.cells #[.int .i64 5,.string nm,.slice r Rn rc,.slice a An ac,.slice b BL bc] 67 (0,0)):=by rw[hw2];exact At.heap_ext (heap_alloc_new w _) ((Ext.refl _).alloc _)
 have hp2:w2.heap[w.heap.size+1]? = some (.cells #[.int .i64 p.c,.slice pna PN pnc,.slice pea PE pec] 98 (0,0)):=by
  have h:=heap_alloc_new (w.alloc (.cells #[.int .i64 5,.string nm,.slice r Rn rc,.slice a An ac,.slice b BL bc] 67)) (.cells #[.int .i64 p.c,.slice pna PN pnc,.slice pea PE pec] 98);rw[World.size_alloc] at h;rw[hw2];exact h
 have h2:=h.ext x2;have hC:=hs.c;have hN:=hs.n;have hcl:=fun(w5:World) (x:Ext w2 w5)=>clusD_any nm w5 (h2.ext x) (by omega)
 have hnd:=fun(w5:World) (x:Ext w2 w5)=>nodeD_any nm w5 (h2.ext x) (by omega)
 obtain⟨tk,htk⟩:∃ t,t=S.taken nm:=⟨_,rfl⟩;obtain⟨ix,hix⟩:∃ i,i=S.idx nm:=⟨_,rfl⟩;rw[<-htk,<- hix] at hR;rw[<-htk] at hcl;rw[<-hix] at hnd;have s1:w2.cell? ⟨w.heap.size,1,none⟩=some (.string nm):=by rw[Lib.cell_of_heap hs2];rfl
 have HR:=hid hR;have HB:=hid h2;have HBK:=hid hblk;have HS2:=hid hs2;have HP2:=hid hp2;have HX2:=hid x2;have HPN:=hid (hpn0.ext x2);have HPE:=hid (hpe0.ext x2);have HW2:=hid hw2;have HCL:=hid hcl;have HND:=hid hnd;have hC2:S.C.length<=512:=by omega
 clear hR h h2 hblk hs2 hp2 x2 hpn0 hpe0 hw2 hPN hPE htk hix hBL hM hbd hbl hcm hok hs hp hk hC hN hcl hnd;go_enter Tryz.func92,Tryz.ntmps92;go_wp2_with fail;rw[<-HW2.out];clear HW2;cases tk with
 | true =>
  have hr:Hid (R=.error 6):=hid (by rw[HR.out,if_pos (.inr rfl)]);clear HR HBK HND;go_wp2_with (go_at_call 151;refine Calls.mono (by with_reducible exact HCL.out _ (Ext.refl _)) ?_;rintro e w3 ⟨rfl,x3⟩;have D3:=hid (HB.out.ext x3);have d7:=D3.out.cells.2.2.2.2.2.2;have df:=D3.out.fz 7);go_returns;rw[hr.out];exact⟨rfl,⟨by decide,_,_,_,_,_,_,_,(D3.out.setE 6).1⟩,(KeepD.of (HX2.out.trans x3)).trans (D3.out.setE 6).2⟩
 | false =>
  cases ix with
  | some v =>
   have hr:Hid (R=.error 6):=hid (by rw[HR.out,if_pos (.inl rfl)]);have HND:=HND;dsimp only[oI] at HND;have hv0:(0:Int)<=(v:Int):=by omega
   clear HR HBK
   go_wp2_with (first
    | (go_at_call 151;refine Calls.mono (by with_reducible exact HCL.out _ (Ext.refl _)) ?_;rintro e w3 ⟨rfl,x3⟩;have X3:=hid x3;have s1':=x3.cell s1)
    | (go_at_call 152;refine Calls.mono (by with_reducible exact HND.out _ X3.out) ?_;rintro e w4 ⟨rfl,x4⟩;have D4:=hid (HB.out.ext (X3.out.trans x4));have d7:=D4.out.cells.2.2.2.2.2.2;have df:=D4.out.fz 7))
   go_returns;rw[hr.out];exact⟨rfl,⟨by decide,_,_,_,_,_,_,_,(D4.out.setE 6).1⟩,(KeepD.of (HX2.out.trans (X3.out.trans x4))).trans (D4.out.setE 6).2⟩
  | none =>
   have hr:Hid (R=blkL { p with c:=S.C.length } { S with C:=S.C++[(nm,p.c)] } body):=hid (by rw[HR.out,if_neg (by simp)]);have HND:=HND;dsimp only[oI] at HND;clear HR;obtain⟨ca,cc,rfl,-,-⟩:=row_val HB.out.C;obtain⟨j0,hj,hjz0,hjz1,hjz2⟩:=info_parts info_clu;have hw1:IntKind.i64.wrap (S.C.length:Int)=(S.C.length:Int):=by rw[IntKind.wrap_i64];omega
   have hw2:IntKind.i64.wrap (((S.C.length+1:Nat):Int) - 1)=(S.C.length:Int):=by rw[IntKind.wrap_i64];omega
   go_wp2_with (first
    | (go_at_call 151;refine Calls.mono (by with_reducible exact HCL.out _ (Ext.refl _)) ?_;rintro e w3 ⟨rfl,x3⟩;have X3:=hid x3;have s1':=x3.cell s1)
    | (go_at_call 152;refine Calls.mono (by with_reducible exact HND.out _ X3.out) ?_;rintro e w6 ⟨rfl,x6⟩;have X6:=hid (X3.out.trans x6);have HB6:=hid (HB.out.ext X6.out);have HS6:=hid (At.heap_ext HS2.out X6.out);have HP6:=hid (At.heap_ext HP2.out X6.out);clear x6))
   have c4:=HB6.out.cells.2.2.2.1;have c4a:=fun ob=>(HB6.out.ext ((Ext.refl w6).alloc ob)).cells.2.2.2.1
   have t1:w6.cell? ⟨w.heap.size,1,none⟩=some (.string nm):=by rw[Lib.cell_of_heap HS6.out];rfl
   have t1a:=fun ob=>((Ext.refl w6).alloc ob).cell t1
   have p0:w6.cell? ⟨w.heap.size+1,0,none⟩=some (.int .i64 p.c):=by rw[Lib.cell_of_heap HP6.out];rfl
   have p0a:=fun ob=>((Ext.refl w6).alloc ob).cell p0
   clear s1 s1' x3 X3 HCL HND HS2 HP2;refine wp_region_K (S:=fun w'=>w'.cell? ⟨bb,4,none⟩=some (.slice ca S.C.length cc)/\w'.cell? ⟨w.heap.size,1,none⟩=some (.string nm)/\w'.cell? ⟨w.heap.size+1,0,none⟩=some (.int .i64 p.c)) (n:=16) (by kernel_rfl) (by exact⟨Ext.cell ((Ext.refl w6).drew) c4,Ext.cell ((Ext.refl w6).drew) t1,Ext.cell ((Ext.refl w6).drew) p0⟩) (fun hHeld=>?_);refine kU 16 0 rfl hHeld ?_
   (try simp only[Act.put,q1,q2,q3])
   refine kU 16 1 rfl hHeld ?_
   (try simp only[Act.put,q1,q2,q3])
   refine kU 16 2 rfl hHeld ?_
   (try simp only[Act.put,q1,q2,q3])
   refine kU 16 3 rfl hHeld ?_
   (try simp only[Act.put,q1,q2,q3])
   refine kU 16 4 rfl hHeld ?_
   (try simp only[Act.put,q1,q2,q3])
   refine kU 16 5 rfl hHeld ?_
   (try simp only[Act.put,q1,q2,q3])
   refine kU 16 6 rfl hHeld ?_
   (try simp only[Act.put,q1,q2,q3])
   refine kU 16 7 rfl hHeld ?_
   (try simp only[Act.put,q1,q2,q3])
   refine kU 16 8 rfl hHeld ?_
   (try simp only[Act.put,q1,q2,q3])
   refine kU 16 9 rfl hHeld ?_
   (try simp only[Act.put,q1,q2,q3])
   refine kU 16 10 rfl hHeld ?_
   (try simp only[Act.put,q1,q2,q3])
   refine wpAnyK_step (o:=_) (i:=11) rfl (by kernel_rfl) (fun KK hKK=>?_);go_simp;refine hKK.out _ _ (fun _=>?_) (fun hH=>?_)
   ·(exact⟨Ext.cell (((Ext.refl w6).drew).alloc _) c4,Ext.cell (((Ext.refl w6).drew).alloc _) t1,Ext.cell (((Ext.refl w6).drew).alloc _) p0⟩)
   clear hHeld;have hHeld:=hH (by decide);clear hKK KK hH;(try dsimp only at hHeld)
   (try simp only[Act.put,q1,q2,q3])
   refine wpAnyK_step (o:=_) (i:=12) rfl (by kernel_rfl) (fun KK hKK=>?_);refine step_append_lies _ (by rfl) _ _ 24 (by rfl) B 63 j0 _ 2 24 Tryz.underlying24 hj hjz0 hjz1 hjz2 rfl (by decide) _ _ _ (by rfl) (At.own_ext HB6.out.C (((Ext.refl w6).drew).alloc _)) ⟨w6.heap.size,0,none⟩ 1 1 [.string nm,.int .i64 p.c] (by rfl) (by rfl) (World.news_of_block (cs:=#[.string nm,.int .i64 p.c]) (t:=63) (fr:=(0,0)) (heap_alloc_new w6.drew _)) (by intro u hu;simp at hu;rcases hu with rfl | rfl <;> rfl) (by omega) (by unfold maxLen;omega) (by omega) (by have:=HB6.out.Z;simp;omega) _ rfl ?_;intro g7 c7 w7 hown1 hgrow hat2 hlt2;have HB7:=hid (HB6.out.ext (((Ext.refl w6).drew).alloc (.cells #[.string nm,.int .i64 p.c] 63)));have hrt:=row_ty HB7.out.C;have hS7:=cel_keep HB7.out.blk hgrow hrt (nope (by decide))
   have e7:w7.cell? ⟨bb,4,none⟩=some (.slice ca S.C.length cc):=by rw[Lib.cell_of_heap hS7];rfl
   have f7:w7.frozen? ⟨bb,4,none⟩=false:=Lib.frozen_of_heap hS7 4;have sb7:=cel_keep (At.heap_ext HS6.out (((Ext.refl w6).drew).alloc (.cells #[.string nm,.int .i64 p.c] 63))) hgrow hrt (nope (by decide));have pb7:=cel_keep (At.heap_ext HP6.out (((Ext.refl w6).drew).alloc (.cells #[.string nm,.int .i64 p.c] 63))) hgrow hrt (nope (by decide));have HS7:=hid (show w7.cell? ⟨bb,4,none⟩=some (.slice ca S.C.length cc)/\w7.cell? ⟨w.heap.size,1,none⟩=some (.string nm)/\w7.cell? ⟨w.heap.size+1,0,none⟩=some (.int .i64 p.c) from⟨e7,by rw[Lib.cell_of_heap sb7];rfl,by rw[Lib.cell_of_heap pb7];rfl⟩);have FIN:=hid (HB7.out.appC (nm,p.c) rfl hown1 hgrow);clear hown1 hgrow hat2 hlt2 hS7 hrt sb7 pb7;refine hKK.out _ _ (fun _=>?_) (fun hH=>?_)
   ·(exact HS7.out)
   clear hHeld;have hHeld:=hH (by decide);clear hKK KK hH;(try dsimp only at hHeld)
   (try simp only[Act.put,q1,q2,q3])
   refine wpAnyK_step (o:=_) (i:=13) rfl (by kernel_rfl) (fun KK hKK=>?_);go_simp;refine hKK.out _ _ (fun _=>?_) (fun hH=>?_)
   ·(exact hHeld)
   clear hHeld;have hHeld:=hH (by decide);clear hKK KK hH;(try dsimp only at hHeld)
   (try simp only[Act.put,q1,q2,q3])
   refine wpAnyK_step (o:=_) (i:=14) rfl (by kernel_rfl) (fun KK hKK=>?_);go_simp;refine hKK.out _ _ (fun _=>?_) (fun hH=>?_)
   ·(exact hHeld)
   clear hHeld;have hHeld:=hH (by decide);clear hKK KK hH;(try dsimp only at hHeld)
   (try simp only[Act.put,q1,q2,q3])
   refine wpAnyK_step (o:=_) (i:=15) rfl (by kernel_rfl) (fun KK hKK=>?_);go_simp;refine hKK.out _ _ (fun _=>?_) (fun hH=>?_)
   ·(exact hHeld)
   clear hHeld;have hHeld:=hH (by decide);clear hKK KK hH;(try dsimp only at hHeld)
   (try simp only[Act.put,q1,q2,q3])
   refine wpAnyK_step (o:=_) (i:=16) rfl (by kernel_rfl) (fun KK hKK=>?_);go_simp;refine hKK.out _ _ (fun h=>absurd rfl h) (fun _=>?_);clear hKK KK
   (try simp only[Act.put,q1,q2,q3])
   refine wpAnyK_done (by kernel_rfl) ?_ _;simp only[Exit.then];have HPN6:=hid ((((KeepD.of (X6.out.trans (((Ext.refl w6).drew).alloc (.cells #[.string nm,.int .i64 p.c] 63))))).trans FIN.out.2).atL HPN.out);have HPE6:=hid ((((KeepD.of (X6.out.trans (((Ext.refl w6).drew).alloc (.cells #[.string nm,.int .i64 p.c] 63))))).trans FIN.out.2).atL HPE.out);have HK8:=hid ((KeepD.of (HX2.out.trans (X6.out.trans (((Ext.refl w6).drew).alloc (.cells #[.string nm,.int .i64 p.c] 63))))).trans FIN.out.2);have HKS:=hid ((KeepD.of (((Ext.refl w6).drew).alloc (.cells #[.string nm,.int .i64 p.c] 63))).trans FIN.out.2);have HS8:=hid (HKS.out.blk _ _ _ _ HS6.out (by decide) (by decide) (by decide) (by decide) (by decide));have HP8:=hid (HKS.out.blk _ _ _ _ HP6.out (by decide) (by decide) (by decide) (by decide) (by decide));have HD8:=hid FIN.out.1
   obtain⟨w8,hw8⟩:∃ w8,w8=w7.setCell ⟨bb,4,none⟩ (.slice (some ⟨g7,0,none⟩) (S.C.length+1) c7):=⟨_,rfl⟩;rw[<-hw8] at HPN6 HPE6 HK8 HS8 HP8 HD8 ⊢;clear hw8 FIN HS7 e7 f7 c4 c4a t1 t1a p0 p0a HB7 HB6 HS6 HP6 HKS hHeld;have k4:=HD8.out.cells.2.2.2.1;have z4:w8.cell? ⟨w.heap.size,4,none⟩=some (.slice b BL bc):=by rw[Lib.cell_of_heap HS8.out];rfl
   have z1:w8.cell? ⟨w.heap.size+1,1,none⟩=some (.slice pna PN pnc):=by rw[Lib.cell_of_heap HP8.out];rfl
   have z2:w8.cell? ⟨w.heap.size+1,2,none⟩=some (.slice pea PE pec):=by rw[Lib.cell_of_heap HP8.out];rfl
   have hblk:=fun(w9:World) (x:Ext w8 w9)=>HBK.out w9 ⟨_,_,_,_,_,_,HD8.out.ext x⟩ (HPN6.out.ext x) (HPE6.out.ext x)
   have HBK8:=hid hblk;clear hblk HBK;go_wp2_with fail
   go_region_law (go_simp;go_at_call 42;refine Calls.mono (by with_reducible exact HBK8.out _ (by first | exact(Ext.refl _).drew | exact Ext.refl _)) ?_;rintro e w10 ⟨rfl,hds,k10⟩)
   all_goals go_wp2
   all_goals go_returns
   all_goals rw[hr.out]
   all_goals first
    | exact⟨rfl,hds,(HK8.out.ext (Ext.refl _).drew).trans k10⟩
    | exact⟨rfl,hds,HK8.out.trans k10⟩
end Go.Proofs.YtjaeedbjknejdaaGreatDoor.Nm

namespace Go.Proofs.YtjaeedbjknejdaaGreatDoor.Nm
open Go.RowKit Go.Sort Go.Lib Go.Shelf Fx Lx Tr At
theorem own_mono {w:World}{B B':Nat}{T:TypeId}{sz:Nat}{v:Value}{n:Nat}{xs:List Value}(h:w.ownsRow B' T sz v n xs)(hb:B<=B'):w.ownsRow B T sz v n xs:=by
 refine⟨h.1,?_⟩;rcases h.2 with h1 | ⟨g,cap,cur,hv,hg,r⟩
 ·exact .inl h1
 exact .inr ⟨g,cap,cur,hv,Nat.le_trans hb hg,r⟩
def chgA (A:List (List Two))(v:Nat)(al:List Two):List (List Two):=A.set v (mrgT (A.getD v []++al))
theorem chgA_at (A:List (List Two))(v:Nat)(al:List Two)(k:Nat)(hk:k < A.length):(chgA A v al)[k]? = some (if k=v then mrgT (A[k]++al) else A[k]):=by
 unfold chgA;by_cases h:k=v
 ·subst h;rw[List.getElem?_set_self hk,if_pos rfl,List.getD_eq_getElem?_getD,List.getElem?_eq_getElem hk];rfl
 rw[List.getElem?_set_ne (fun e=>h e.symm),if_neg h,List.getElem?_eq_getElem hk]
theorem take_step {α : Type}(L:List α)(k:Nat)(x : α)(h:L[k]? = some x):L.take (k+1)=L.take k++[x]:=by
 obtain⟨hk,he⟩:=List.getElem?_eq_some_iff.1 h;rw[List.take_succ_eq_append_getElem hk,he]
structure ChgAt (w:World)(A':List (List Two))(k:Nat)(ov:Value)(aw:List Value)(wr:World):Prop where
 own:wr.ownsRow w.heap.size 65 1 ov k aw
 at':AtLs wr aw (A'.take k)
 x:Ext w wr
theorem changeD_any (w0:World)(bb B:Nat)(nm:ByteArray)(dir:Bool)(nv av cv lv:Value)(aw:List Value)(ks:List (Lk × Value))(v:Nat)(p:Option Addr)(c:Nat)(al:List Two)(S:St)(E:Int)(w:World)(h:Doc w0 bb B nm dir w nv av cv lv aw ks S E)(ha:AtrIn w p al)(hl:al.length<=20)(hA:S.A.length<=1000000000)(hs:∀ L ∈ S.A,L.length<=20000):
  Calls Tryz.prog 89 #[.pointer (some ⟨bb,0,none⟩),.int .i64 v,.slice p al.length c] w fun e w'=>e=.returned (.tuple #[])/\(∃ av aw,Doc w0 bb B nm dir w' nv av cv lv aw ks { S with A:=chgA S.A v al } E)/\KeepD w w':=by
 obtain⟨N,hN⟩:∃ N,N=S.A.length:=⟨_,rfl⟩;obtain⟨M,hM⟩:∃ M,M=al.length:=⟨_,rfl⟩;obtain⟨A',hA'⟩:∃ A',A'=chgA S.A v al:=⟨_,rfl⟩;have hAt:=fun k hk=>chgA_at S.A v al k hk
 have hAl:A'.length=N:=by rw[hA',hN];unfold chgA;simp
 rw[<-hA'] at hAt ⊢;have hmg:=fun(w5:World) (x:Ext w w5) (q:Option Addr) (qc:Nat) (L:List Two) (hq:AtrIn w5 q L) (hL:L.length<=20000)=>mrgR_any q p L al qc c w5 hq (ha.ext x) hL (by omega)
 rw[<-hM] at hmg ⊢;obtain⟨aa,ac,rfl,-,-⟩:=row_val h.A;rw[<-hN] at hA;have hA5:=h.cells.2.2.2.2.1;rw[<-hN] at hA5;have C0:Hid (ChgAt w A' 0 (.slice none 0 0) [] w):=hid ⟨World.ownsRow_nil _ _ _ _,by rw[List.take_zero];exact AtLs.nil _,Ext.refl _⟩;have HD:=hid h;have HN:=hid hN;have HAT:=hid hAt;have HMG:=hid hmg;have HS:=hid hs;have HAL:=hid hAl;obtain⟨j0,hj,hjz0,hjz1,hjz2⟩:=info_parts info_atl;clear h hN hAt hmg hs ha hA' hM hl hAl;go_enter Tryz.func89,Tryz.ntmps89;go_wp2_with fail
 go_loopw [6,7] (fun ov i' wr=>∃ (k:Nat) (oa:Option Addr) (oc:Nat) (ow:List Value),k<=N/\i'=.int .i64 k/\ov=.slice oa k oc/\Hid (ChgAt w A' k (.slice oa k oc) ow wr)) (fun _ i' _=>N - (RowKit.intOf i').toNat)
 case atStart=>exact⟨0,none,0,[],Nat.zero_le _,rfl,rfl,C0⟩
 clear C0;obtain⟨k,oa,oc,ow,hk,rfl,rfl,hC⟩:=hrel;have d5:=hC.out.x.cell hA5;by_cases hlt:k < N
 ·have hkl:k < S.A.length:=by rw[<-HN.out];exact hlt
  have hD:=HD.out.ext hC.out.x;obtain⟨g,gc,hav,-,-,-⟩:=row_has hD.A (by omega);injection hav with e1 e2 e3;subst e1;obtain⟨q,qc,hq,hqi,hqz⟩:=hD.At.at hkl;have hcl:=hD.A.cells (g:=g) rfl k _ hq;rw[add0] at hcl;have hst:=HAT.out k hkl;have hsl:=HS.out _ (List.getElem_mem hkl);obtain⟨L,hL⟩:∃ L,L=S.A[k]:=⟨_,rfl⟩;rw[<-hL] at hcl hqi hst hsl;obtain⟨LN,hLN⟩:∃ n,n=L.length:=⟨_,rfl⟩;have hm:=HMG.out wr hC.out.x q qc L hqi hsl;rw[<-hLN] at hcl hm;have HQ:=hid (show AtL wr (.slice q LN qc) L from⟨q,qc,by rw[hLN],hqi,hqz⟩);have HST:=hid hst;have HM:=hid hm;have b0:(0:Int)<=(k:Int):=by omega
  have b1:(k:Int) < (N:Int):=by omega
  clear hL hLN hq hqi hqz hst hsl hm e2 e3 hD;by_cases hkv:k=v
  ·have f1:((k:Int) == (v:Int))=true:=by rw[beq_iff_eq];omega
   have f2:((k:Int) != (v:Int))=false:=by rw[bne,f1];rfl
   have hst2:=HST.out;rw[if_pos hkv] at hst2;obtain⟨R,hR⟩:∃ R,R=mrgT (L++al):=⟨_,rfl⟩;have hm2:=HM.out;rw[<-hR] at hst2 hm2;have HST2:=hid hst2;have HM2:=hid hm2;clear hst2 hm2 HST HM hR hkv
   go_wp2_with (first
    | (go_at_call 91;refine HM2.out.mono ?_;rintro e w3 ⟨⟨ra,rc,rfl,hri,hrz⟩,x3⟩;have HR3:=hid (show AtL w3 (.slice ra R.length rc) R from⟨ra,rc,rfl,hri,hrz⟩);have O3:=hid (At.own_ext hC.out.own x3);clear hri hrz)
    | (at_builtin;refine wpList_append_lies _ rfl _ _ 92 rfl w.heap.size 65 j0 _ 1 24 Tryz.underlying92 hj hjz0 hjz1 hjz2 rfl (by decide) _ _ _ rfl (O3.out.alloc _) ⟨w3.heap.size,0,none⟩ 1 1 [.slice ra R.length rc] rfl rfl ?c1 ?c2 (by decide) ?c3 ?c4 ?c5 _ rfl ?_))
   case c1=>exact World.news_of_block (cs:=#[.slice ra R.length rc]) (t:=65) (fr:=(0,0)) (heap_alloc_new w3 _)
   case c2=>simp[Value.oneCell']
   case c3=>unfold maxLen;omega
   case c4=>omega
   case c5=>have:=hC.out.x.size;have:=x3.size;simp;omega
   intro g7 c7 w7 hown1 hgrow _ _;have hown2:=(O3.out.alloc (.cells #[.slice ra R.length rc] 65));have x7:Ext w w7:=own_grow ((hC.out.x.trans x3).alloc _) hown2 (Nat.le_refl _) hgrow
   have HC7:Hid (ChgAt w A' (k+1) (.slice (some ⟨g7,0,none⟩) (k+1) c7) (ow++[.slice ra R.length rc]) w7):=hid ⟨hown1,by
    rw[take_step _ _ _ HST2.out]
    exact(((hC.out.at'.ext x3).ext ((Ext.refl _).alloc _)).snoc (HR3.out.ext ((Ext.refl _).alloc _))).keep hgrow (row_ty hown2) (by decide),x7⟩
   clear hown1 hgrow hown2 x7 O3 HR3 x3;go_wp2
   go_roundw
   case rel=>exact⟨k+1,_,_,_,by omega,by go_num,rfl,HC7⟩
   case measure=>simp[RowKit.intOf];omega
  have f1:((k:Int) == (v:Int))=false:=by rw[beq_eq_false_iff_ne];omega
  have f2:((k:Int) != (v:Int))=true:=by rw[bne,f1];rfl
  have hst2:=HST.out;rw[if_neg hkv] at hst2;have HST2:=hid hst2;clear hst2 HST HM hkv;go_wp2_with (at_builtin;refine wpList_append_lies _ rfl _ _ 92 rfl w.heap.size 65 j0 _ 1 24 Tryz.underlying92 hj hjz0 hjz1 hjz2 rfl (by decide) _ _ _ rfl (hC.out.own.alloc _) ⟨wr.heap.size,0,none⟩ 1 1 [.slice q LN qc] rfl rfl ?c1 ?c2 (by decide) ?c3 ?c4 ?c5 _ rfl ?_)
  case c1=>exact World.news_of_block (cs:=#[.slice q LN qc]) (t:=65) (fr:=(0,0)) (heap_alloc_new wr _)
  case c2=>simp[Value.oneCell']
  case c3=>unfold maxLen;omega
  case c4=>omega
  case c5=>have:=hC.out.x.size;simp;omega
  intro g7 c7 w7 hown1 hgrow _ _;have hown2:=(hC.out.own.alloc (.cells #[.slice q LN qc] 65));have x7:Ext w w7:=own_grow (hC.out.x.alloc _) hown2 (Nat.le_refl _) hgrow
  have HC7:Hid (ChgAt w A' (k+1) (.slice (some ⟨g7,0,none⟩) (k+1) c7) (ow++[.slice q LN qc]) w7):=hid ⟨hown1,by
   rw[take_step _ _ _ HST2.out]
   exact((hC.out.at'.ext ((Ext.refl _).alloc _)).snoc (HQ.out.ext ((Ext.refl _).alloc _))).keep hgrow (row_ty hown2) (by decide),x7⟩
  clear hown1 hgrow hown2 x7;go_wp2
  go_roundw
  case rel=>exact⟨k+1,_,_,_,by omega,by go_num,rfl,HC7⟩
  case measure=>simp[RowKit.intOf];omega
 have hkN:k=N:=by omega
 have hD:=HD.out.ext hC.out.x;have df:=hD.fz 5;have hz:=HD.out.Z;have HF:=hid (hD.setA (A':=A') (own_mono (by have:=hC.out.own;rw[hkN,<- HAL.out] at this;exact this) hz) (by have:=hC.out.at';rw[hkN,<- HAL.out,List.take_length] at this;exact this));rw[<-HAL.out] at hkN;have HX:=hid (KeepD.of hC.out.x);subst hkN;clear hD hz HAL;go_wp2;go_returns;exact⟨rfl,⟨_,_,HF.out.1⟩,HX.out.trans HF.out.2⟩
end Go.Proofs.YtjaeedbjknejdaaGreatDoor.Nm

namespace Go.Proofs.YtjaeedbjknejdaaGreatDoor.Nm
open Go.RowKit Go.Sort Go.Lib Go.Shelf Fx Lx Tr At
theorem checked_any (w0:World)(bb B:Nat)(nm:ByteArray)(dir:Bool)(kind:Int)(p:Option Addr)(c:Nat)(al:List Two)(nv av cv lv:Value)(aw:List Value)(ks:List (Lk × Value))(S:St)(E:Int)(w:World)(h:Doc w0 bb B nm dir w nv av cv lv aw ks S E)(ha:∀ w',Ext w0 w'->KeepD w w'->AtrIn w' p al)(hs:∀ q ∈ al,q.1.size<=64/\q.2.size<=64)(hL:al.length<=1000):
  Calls Tryz.prog 86 #[.pointer (some ⟨bb,0,none⟩),.int .i64 kind,.slice p al.length c] w fun e w'=>e=.returned (.tuple #[])/\Doc w0 bb B nm dir w' nv av cv lv aw ks S (if E ≠ 0 then E else chkGo kind none al)/\KeepD w w':=by
 obtain⟨N,hN⟩:∃ N,N=al.length:=⟨_,rfl⟩;obtain⟨V,hV⟩:∃ V,V=(if E ≠ 0 then E else chkGo kind none al):=⟨_,rfl⟩;have H0:Hid (V=(if E ≠ 0 then E else chkGo kind none (al.drop 0))):=hid (by rw[List.drop_zero];exact hV);rw[<-hV];rw[<-hN] at hL ⊢;have HN:=hid hN;have HA:=hid ha;have HS:=hid hs;have HD:=hid h;clear hN ha hs hV h;go_enter Tryz.func86,Tryz.ntmps86;go_wp2_with fail
 go_loopw [6] (fun i' wr=>∃ (k:Nat) (E':Int),k<=N/\i'=.int .i64 k/\Hid (V=(if E' ≠ 0 then E' else chkGo kind none (al.drop k)))/\Hid (Doc w0 bb B nm dir wr nv av cv lv aw ks S E')/\Hid (KeepD w wr)) (fun i' _=>N - (RowKit.intOf i').toNat)
 case atStart=>exact⟨0,E,Nat.zero_le _,rfl,H0,HD,hid (KeepD.refl _)⟩
 clear H0 HD;obtain⟨k,E',hk,rfl,hv,hd,hkeep⟩:=hrel;obtain⟨-,-,-,-,-,-,d7⟩:=hd.out.cells;by_cases hlt:k < N
 ·have hkl:k < al.length:=by rw[<-HN.out];exact hlt
  have hpi:=HA.out wr hd.out.X hkeep.out;obtain⟨g,o,rfl,c0,c1⟩:=hpi k hkl;have hv1:=hv.out;obtain⟨hs1,hs2⟩:=HS.out _ (List.getElem_mem hkl);rw[List.drop_eq_getElem_cons hkl,chkGo_none] at hv1;have hch:=fun w5=>checkR_any kind al[k].1 al[k].2 w5 (by omega)
  simp only[<-check_same] at hch;obtain⟨q1,hq1⟩:∃ q,q=al[k].1:=⟨_,rfl⟩;obtain⟨q2,hq2⟩:∃ q,q=al[k].2:=⟨_,rfl⟩;rw[<-hq1] at c0 hs1 hv1;rw[<-hq2] at c1 hs2 hv1;simp only[<-hq1,<- hq2] at hch;obtain⟨x,hx⟩:∃ x,x=checkV kind q1 q2:=⟨_,rfl⟩;rw[<-hx] at hv1;simp only[<-hx] at hch;have HV:=hid hv1;have HCH:=hid hch;clear hv hv1 hq1 hq2 hch hx hs1 hs2 hpi;have b0:(0:Int)<=(k:Int):=by omega
  have b1:(k:Int) < (N:Int):=by omega
  by_cases h0:E'=0
  ·subst h0;obtain⟨f1,f2⟩:=efacts 0;have hr:Hid (V=(if x ≠ 0 then x else chkGo kind none (al.drop (k+1)))):=hid (by rw[HV.out,if_neg (by decide)]);clear HV;go_wp2_with (go_at_call 150;refine Calls.mono (by with_reducible exact HCH.out _) ?_;rintro e w2 ⟨rfl,x2⟩;have D2:=hid (hd.out.ext x2);have K2:=hid (hkeep.out.ext x2);obtain⟨-,-,-,-,-,-,d8⟩:=D2.out.cells;have df:=D2.out.fz 7)
   go_roundw
   case rel=>exact⟨k+1,x,by omega,by go_num,hr,hid (D2.out.setE x).1,hid (K2.out.trans (D2.out.setE x).2)⟩
   case measure=>simp[RowKit.intOf];omega
  obtain⟨f1,f2⟩:=nfacts h0;have hr:Hid (V=E'):=hid (by rw[HV.out,if_pos h0]);clear h0 HV;go_wp2;go_returns;rw[hr.out];exact⟨rfl,hd.out,hkeep.out⟩
 have hr:Hid (V=E'):=hid (by
  rw[hv.out,List.drop_eq_nil_of_le (by rw[<-HN.out];omega)];by_cases h:E'=0
  ·rw[h];rfl
  rw[if_pos h])
 clear hv;go_wp2;go_returns;rw[hr.out];exact⟨rfl,hd.out,hkeep.out⟩
end Go.Proofs.YtjaeedbjknejdaaGreatDoor.Nm

namespace Go.Proofs.YtjaeedbjknejdaaGreatDoor.Nm
open Go.RowKit Go.Sort Go.Lib Go.Shelf Fx Lx Tr At
theorem keyed_any (kd:Int)(nm:ByteArray)(q:Two)(r a b:Option Addr)(R B rc ac bc:Nat)(w:World)(ha:AtrIn w a [q]):
  Calls Tryz.prog 87 #[.agg #[.int .i64 kd,.string nm,.slice r R rc,.slice a 1 ac,.slice b B bc]] w fun e w'=>e=.returned (.agg #[.string nm,.string q.2])/\Ext w w':=by
 obtain⟨g,o,rfl,-,c1⟩:=ha 0 (by simp);simp only[List.getElem_cons_zero] at c1;have c1':w.cell? ⟨g,o+1,none⟩=some (.string q.2):=by simpa using c1
 have k1:=fun(o1 o2:Obj)=>(((Ext.refl w).alloc o1).alloc o2).cell c1'
 clear c1 ha;go_enter Tryz.func87,Tryz.ntmps87;go_wp2_with fail
 go_region
 all_goals go_wp2
 all_goals go_returns
 all_goals exact⟨rfl,(((Ext.refl w).alloc _).alloc _).drew⟩
end Go.Proofs.YtjaeedbjknejdaaGreatDoor.Nm
