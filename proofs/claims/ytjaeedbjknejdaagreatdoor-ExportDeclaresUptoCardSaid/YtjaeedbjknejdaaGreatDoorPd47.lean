/- Packed texts: NorBuiD, NorSameG, NorGrM, ExpLawD -/
import Derived.Test.YtjaeedbjknejdaaGreatDoorPd45
import Derived.Test.YtjaeedbjknejdaaGreatDoorPd46
set_option linter.unusedVariables false
set_option linter.unusedSimpArgs false
set_option maxHeartbeats 16000000
set_option maxRecDepth 100000
namespace Go.Proofs.YtjaeedbjknejdaaGreatDoor.Nm
open Go.RowKit Go.Sort Go.Lib Go.Shelf Fx Lx Tr At
theorem doc0 {w0 w3:World}(x:Ext w0 w3)(nm:ByteArray)(dir:Bool):Doc w0 w3.heap.size (w3.heap.size+1) nm dir (w3.alloc (.cells #[.string nm,.bool dir,.slice none 0 0,.slice none 0 0,.slice none 0 0,.slice none 0 0,.slice none 0 0,.int .i64 0] 95)) (.slice none 0 0) (.slice none 0 0) (.slice none 0 0) (.slice none 0 0) [] [] ⟨[],[],[],[]⟩ 0 :=
 ⟨heap_alloc_new _ _,World.ownsRow_nil _ _ _ _,World.ownsRow_nil _ _ _ _,World.ownsRow_nil _ _ _ _,World.ownsRow_nil _ _ _ _,AtLs.nil _,rfl,AtLs.nil _,x.alloc _,by simp,x.size,Nat.lt_succ_self _⟩
theorem buildD_any (nm:ByteArray)(dir:Bool)(b:Option Addr)(L:List Stm)(cap n:Nat)(w:World)(hn:n<=w.heap.size)(h:StmsAt n w b L)(hlen:L.length<=maxLen)(hs:cntL L<=1099511627776)(hbig:BigL L)(hnm:nm.size<=9223372036854775807)(hfw:∀ p ∈ flatL 0 L,p.1.refs.length<=1048576/\p.1.attrs.length<=20):
  Calls Tryz.prog 18 #[.agg #[.string nm,.bool dir,.slice b L.length cap]] w fun e w'=>DocR (buildT nm dir L) e w'/\Ext w w':=by
 obtain⟨R,hR⟩:∃ R,R=buildT nm dir L:=⟨_,rfl⟩;rw[<-hR];unfold buildT at hR;have hok:=fun hv=>ok_valid (nm:=nm) (L:=L) hv hfw
 have hvc:=fun(w5:World) (x:Ext w w5)=>validR_big nm dir b L cap n w5 (Nat.le_trans hn x.size) (StmsAt.below (x.mono hn) L h) (by rw[cntL_flat];exact hs) hbig hnm
 obtain⟨V,hV⟩:∃ V,V=validE nm L:=⟨_,rfl⟩;rw[<-hV] at hR hok hvc;obtain⟨N,hN⟩:∃ N,N=L.length:=⟨_,rfl⟩;rw[<-hN] at hvc hlen ⊢;have HOK:=hid hok;have HVC:=hid hvc;have HR:=hid hR;have HST:=hid h;have HN:=hid hN;have HNN:=hid hn;clear hok hvc hR h hN hn hs hbig hnm hfw hV;go_enter Tryz.func18,Tryz.ntmps18;by_cases hv0:V=0
 case neg =>
  obtain⟨f1,f2⟩:=nfacts hv0;have hr:Hid (R=.error V):=hid (by rw[HR.out,if_pos hv0]);go_wp2_with (go_at_call 15;refine(HVC.out _ (((Ext.refl _).alloc _).alloc _)).mono ?_;rintro e w3 ⟨rfl,x3⟩;have HG3:=hid (two_newG x3);obtain⟨z0,z1,z2,z3,z4⟩:=cells5g HG3.out;have zf:∀ j,w3.frozen? ⟨w.heap.size+1,j,none⟩=false:=(fun j=>Lib.frozen_of_heap HG3.out j))
  (try simp only[Exit.inBlock,Exit.then]);refine bodyPost_ret (results_gr rfl _ _ (w.heap.size+1) _ (.int .i64 V) rfl rfl rfl (set5g HG3.out _ _ _ _ _)) rfl ?_
  rw[hr.out];exact⟨⟨rfl,hv0⟩,ext5g ((((Ext.refl _).alloc _).alloc _).trans x3) (Nat.le_succ _) _ _ _ _ _⟩
 subst hv0;obtain⟨f1,f2⟩:=efacts 0
 go_wp2_with (first
  | (go_at_call 15;refine(HVC.out _ (((Ext.refl _).alloc _).alloc _)).mono ?_;rintro e w3 ⟨rfl,x3⟩;have HG3:=hid (two_newG x3);have tc:=boxes x3;have t0:=tc.1 0 _ rfl;have t1:=tc.1 1 _ rfl;have t2:=tc.1 2 _ rfl;have X3:=hid ((((Ext.refl _).alloc _).alloc _).trans x3:Ext w w3);have HT3:=hid (box_newG x3);have t2m:=fun(o1:Obj)=>((Ext.refl w3).alloc o1).cell t2;clear tc x3))
 have HB0:=hid (doc0 X3.out nm dir);obtain⟨w6,hw6⟩:∃ w6,w6=(w3.alloc (.cells #[.string nm,.bool dir,.slice none 0 0,.slice none 0 0,.slice none 0 0,.slice none 0 0,.slice none 0 0,.int .i64 0] 95)):=⟨_,rfl⟩;have x36:Ext w3 w6:=by rw[hw6];exact(Ext.refl _).alloc _
 rw[<-hw6] at HB0;have HG6:=hid (At.heap_ext HG3.out x36);obtain⟨BR,hBR⟩:∃ r,r=blkL ⟨-1,[],[]⟩ ⟨[],[],[],[]⟩ L:=⟨_,rfl⟩;obtain⟨ok1,ok2,ok3⟩:=HOK.out trivial;have hblk:=blkD_any w w3.heap.size (w3.heap.size+1) nm dir n HNN.out (cntL L) L b cap ⟨-1,[],[]⟩ (.slice none 0 0) (.slice none 0 0) ⟨[],[],[],[]⟩ 0 w6 (Nat.le_refl _) HST.out (by rw[<-HN.out];exact hlen) ok3 Sml.nil ⟨by decide,by decide,SmA.nil _,SmA.nil _⟩ (by omega) ⟨_,_,_,_,_,_,HB0.out⟩ (AtL.nil _) (AtL.nil _);have hsm:=fun S'=>Sml.stms L 0 ⟨-1,[],[]⟩ ⟨[],[],[],[]⟩ S' ok3 Sml.nil ⟨by decide,by decide,SmA.nil _,SmA.nil _⟩
 rw[<-hBR] at hblk hsm;rw[<-HN.out] at hblk;have HBL:=hid hblk;have HSM:=hid hsm;have hR:=HR.out;rw[if_neg (by decide),<- hBR] at hR;have HR2:=hid hR;have HOK2:=hid ok2;have HOK1:=hid ok1;have hbig:w.heap.size+1 < w3.heap.size:=(Array.getElem?_eq_some_iff.1 HG3.out).1;obtain⟨bb,hbb⟩:∃ x,x=w3.heap.size:=⟨_,rfl⟩;rw[<-hw6];rw[<-hbb] at HBL hbig;rw[<-hbb];obtain⟨B,hB⟩:∃ x,x=bb+1:=⟨_,rfl⟩;rw[<-hB] at HBL;clear hblk hsm hR HR HOK HVC HST hBR x36 HG3 HT3 hw6 hbb hB t0 t1 t2 t2m HB0 ok1 ok2 ok3 f1 f2;cases BR with
 | error er =>
  have hr:Hid (R=.error er):=hid HR2.out
  go_upto_region 7 with(go_at_call 42;refine HBL.out.mono ?_;rintro e w7 ⟨rfl,⟨her,S7,nv,av,cv,lv,aw,ks,d7⟩,kb7⟩;obtain⟨g1,g2⟩:=nfacts her;have HG7:=hid (kb7.blk _ _ _ _ HG6.out (by decide) (by decide) (by decide) (by decide) (by decide));obtain⟨z0,z1,z2,z3,z4⟩:=cells5g HG7.out;have zf:∀ j,w7.frozen? ⟨w.heap.size+1,j,none⟩=false:=(fun j=>Lib.frozen_of_heap HG7.out j);obtain⟨-,-,-,-,-,-,s7⟩:=d7.cells;have x7:=d7.X)
  have hbn:bb ≠ w.heap.size+1:=by omega
  have s8:=cell_set5 hbn s7 (.string ⟨#[]⟩) (.bool false) (.slice none 0 0) (.slice none 0 0) (.slice none 0 0);have s9:=cell_set5 hbn ((Ext.refl w7).drew.cell s7) (.string ⟨#[]⟩) (.bool false) (.slice none 0 0) (.slice none 0 0) (.slice none 0 0);clear g1 g2
  go_region
  all_goals go_wp2_with fail
  all_goals refine bodyPost_ret (results_gr rfl _ _ (w.heap.size+1) _ (.int .i64 er) rfl rfl rfl (At.heap_ext (set5g HG7.out _ _ _ _ _) (Ext.refl _).drew)) rfl ?_
  all_goals rw[hr.out]
  all_goals exact⟨⟨rfl,her⟩,(ext5g x7 (Nat.le_succ _) _ _ _ _ _).drew⟩
 | ok S =>
  have hS:=HSM.out S rfl;have hSm:=hS.mono (m':=600000000) (k':=1000) (by have:=HOK2.out;omega) (by have:=HOK2.out;omega);have hfi:=fun(w7:World) (nv av cv lv:Value) (aw:List Value) (ks:List (Lk × Value)) (d7:Doc w bb B nm dir w7 nv av cv lv aw ks S 0)=>finish_any d7 hSm (by have:=HOK1.out;omega)
  have hr:Hid (R=finT nm dir S):=hid HR2.out;rw[<-hr.out] at hfi;have HFI:=hid hfi;clear hS hSm hfi hr HR2 HSM HOK1 HOK2;obtain⟨f1,f2⟩:=efacts 0;cases R with
  | error er =>
   go_wp2_with (first
    | (go_at_call 42;refine HBL.out.mono ?_;rintro e w7 ⟨rfl,⟨nv,av,cv,lv,aw,ks,d7⟩,kb7⟩;have HG7:=hid (kb7.blk _ _ _ _ HG6.out (by decide) (by decide) (by decide) (by decide) (by decide));obtain⟨-,-,-,-,-,-,s7⟩:=d7.cells;have X7:=hid d7.X;have D7:=hid d7;clear d7 kb7)
    | (go_at_call 43;refine Calls.mono (by with_reducible exact HFI.out _ _ _ _ _ _ _ D7.out) ?_;rintro e w8 ⟨⟨rfl,her⟩,x8⟩;have HG8:=hid (At.heap_ext HG7.out x8);obtain⟨z0,z1,z2,z3,z4⟩:=cells5g HG8.out;have zf:∀ j,w8.frozen? ⟨w.heap.size+1,j,none⟩=false:=(fun j=>Lib.frozen_of_heap HG8.out j);unfold gr0V))
   (try simp only[Exit.inBlock,Exit.then]);refine bodyPost_ret (results_gr rfl _ _ (w.heap.size+1) _ (.int .i64 er) rfl rfl rfl (set5g HG8.out _ _ _ _ _)) rfl ?_
   exact⟨⟨rfl,her⟩,ext5g (X7.out.trans x8) (Nat.le_succ _) _ _ _ _ _⟩
  | ok g =>
   go_wp2_with (first
    | (go_at_call 42;refine HBL.out.mono ?_;rintro e w7 ⟨rfl,⟨nv,av,cv,lv,aw,ks,d7⟩,kb7⟩;have HG7:=hid (kb7.blk _ _ _ _ HG6.out (by decide) (by decide) (by decide) (by decide) (by decide));obtain⟨-,-,-,-,-,-,s7⟩:=d7.cells;have X7:=hid d7.X;have D7:=hid d7;clear d7 kb7)
    | (go_at_call 43;refine Calls.mono (by with_reducible exact HFI.out _ _ _ _ _ _ _ D7.out) ?_;rintro e w8 ⟨⟨v,rfl,hgi,hgc,hgs⟩,x8⟩;have HGI:=hid hgi;have HGC:=hid hgc;have HGS:=hid hgs;clear hgc hgs;obtain⟨gn,gnc,ge,gec,gc,gcc,hv,-⟩:=hgi;subst hv;have HG8:=hid (At.heap_ext HG7.out x8);obtain⟨z0,z1,z2,z3,z4⟩:=cells5g HG8.out;have zf:∀ j,w8.frozen? ⟨w.heap.size+1,j,none⟩=false:=(fun j=>Lib.frozen_of_heap HG8.out j)))
   (try simp only[Exit.inBlock,Exit.then]);refine bodyPost_ret (results_gr rfl _ _ (w.heap.size+1) _ (.int .i64 0) rfl rfl rfl (set5g HG8.out _ _ _ _ _)) rfl ?_
   exact⟨⟨_,rfl,HGI.out.box HG8.out _ _ _ _ _,HGC.out.box HGI.out HG8.out _ _ _ _ _,HGS.out⟩,ext5g (X7.out.trans x8) (Nat.le_succ _) _ _ _ _ _⟩
end Go.Proofs.YtjaeedbjknejdaaGreatDoor.Nm

namespace Go.Proofs.YtjaeedbjknejdaaGreatDoor.Nm
open Go.RowKit Go.Lib Fx Lx At
theorem same_true (g:Gr)(va vb:Value)(w:World)(ha:GrIn w va g)(hb:GrIn w vb g)(hN:g.N.length<=1000000000)(hE:g.E.length<=1000000000)(hC:g.C.length<=1000000000)(hP:∀ x ∈ g.N,x.ports.length<=1000000000):
  Calls Tryz.prog 21 #[va,vb] w fun e w'=>e=.returned (.bool true)/\Ext w w':=by
 obtain⟨na,nac,ea,eac,ca,cac,rfl,a1,a2,a3⟩:=ha;obtain⟨nb,nbc,eb,ebc,cb,cbc,rfl,b1,b2,b3⟩:=hb;obtain⟨nm,dir,NN,EE,CC⟩:=g;dsimp only at *;obtain⟨n,hn⟩:∃ n,n=NN.length:=⟨_,rfl⟩;obtain⟨m,hm⟩:∃ n,n=EE.length:=⟨_,rfl⟩;obtain⟨q,hq⟩:∃ n,n=CC.length:=⟨_,rfl⟩;rw[<-hn] at hN ⊢;rw[<-hm] at hE ⊢;rw[<-hq] at hC ⊢;have A1:=hid a1;have A2:=hid a2;have A3:=hid a3;have B1:=hid b1;have B2:=hid b2;have B3:=hid b3;have HN:=hid hn;have HM:=hid hm;have HQ:=hid hq;have HP:=hid hP;clear a1 a2 a3 b1 b2 b3 hn hm hq hP;go_enter Tryz.func21,Tryz.ntmps21;go_wp2;obtain⟨w1,hw1⟩:∃ w1,w1=(w.alloc (.cells #[.string nm,.bool dir,.slice na n nac,.slice ea m eac,.slice ca q cac] 26)).alloc (.cells #[.string nm,.bool dir,.slice nb n nbc,.slice eb m ebc,.slice cb q cbc] 26):=⟨_,rfl⟩
 have X1:Hid (Ext ((w.alloc (.cells #[.string nm,.bool dir,.slice na n nac,.slice ea m eac,.slice ca q cac] 26)).alloc (.cells #[.string nm,.bool dir,.slice nb n nbc,.slice eb m ebc,.slice cb q cbc] 26)) w1):=hid (by rw[hw1];exact Ext.refl _);have XW:Hid (Ext w w1):=hid ((((Ext.refl _).alloc _).alloc _).trans X1.out);rw[<-hw1];clear hw1
 go_loopw [5] (fun i' wr=>∃ k:Nat,k<=n/\i'=.int .i64 k/\Ext w1 wr) (fun i' _=>n - (RowKit.intOf i').toNat)
 case atStart=>exact⟨0,Nat.zero_le _,rfl,Ext.refl _⟩
 obtain⟨k,hk,rfl,hx⟩:=hrel;obtain⟨bA,bB⟩:=boxes (X1.out.trans hx);have e0:=bA 2 _ rfl;have e1:=bB 2 _ rfl;have e2:=bA 3 _ rfl;have e3:=bB 3 _ rfl;clear bA bB;by_cases hlt:k < n
 ·have hkN:k < NN.length:=by rw[<-HN.out];exact hlt
  obtain⟨g1,o1,p1,c1,rfl,x0,x1,x2,x3,x4,x5,x6⟩:=(A1.out.ext (XW.out.trans hx)) k hkN;obtain⟨g2,o2,p2,c2,rfl,y0,y1,y2,y3,y4,y5,y6⟩:=(B1.out.ext (XW.out.trans hx)) k hkN;have hpl:=HP.out _ (List.getElem_mem hkN);have SN:=fun(w5:World) (x:Ext wr w5)=>sameNode_true NN[k].name NN[k].label NN[k].w NN[k].h NN[k].c NN[k].ports p1 p2 c1 c2 w5 (x6.ext x) (y6.ext x) (by omega)
  obtain⟨z,hz⟩:∃ z,z=NN[k]:=⟨_,rfl⟩;rw[<-hz] at x0 x1 x2 x3 x4 x5 y0 y1 y2 y3 y4 y5 SN;obtain⟨z0,z1,z2,z3,z4,z5⟩:=z;dsimp only at *;obtain⟨pl,hpl'⟩:∃ n,n=z5.length:=⟨_,rfl⟩;rw[<-hpl'] at x5 y5 SN;have HSN:=hid SN;have b0:(0:Int)<=(k:Int):=by omega
  have b1:(k:Int) < (n:Int):=by omega
  clear hz x6 y6 hpl SN hpl';go_wp2_with fail
  go_cut [65] from 47 to 65 (fun s65 wx=>s65=.bool false/\Hid (Ext wr wx))
  case first =>
   go_region_with (go_at_call 45;refine(HSN.out _ (by first | exact(Ext.refl _).drew | exact Ext.refl _)).mono ?_;rintro e w6 ⟨rfl,x6⟩)
   all_goals go_wp2
   all_goals go_meet
   all_goals exact⟨rfl,hid (((Ext.refl _).drew).trans x6)⟩
  obtain⟨rfl,hxd⟩:=hcut;have hx2:=hx.trans hxd.out;go_wp2
  go_roundw
  case rel=>exact⟨k+1,by omega,by go_num,hx2⟩
  case measure=>simp[RowKit.intOf];omega
 have hx2:=hid hx;clear hx;obtain⟨w2,hw2⟩:∃ w2:World,w2=wr:=⟨_,rfl⟩;subst hw2;go_wp2
 go_loopw [6] (fun i' wr=>∃ k:Nat,k<=m/\i'=.int .i64 k/\Ext w1 wr) (fun i' _=>m - (RowKit.intOf i').toNat)
 case atStart=>exact⟨0,Nat.zero_le _,rfl,hx2.out⟩
 clear e0 e1 e2 e3;obtain⟨j,hj,rfl,hx⟩:=hrel;obtain⟨bA,bB⟩:=boxes (X1.out.trans hx);have e2:=bA 3 _ rfl;have e3:=bB 3 _ rfl;have e4:=bA 4 _ rfl;have e5:=bB 4 _ rfl;clear bA bB;by_cases hlj:j < m
 ·have hjE:j < EE.length:=by rw[<-HM.out];exact hlj
  obtain⟨g1,o1,rfl,x0,x1,x2,x3,x4,x5,x6⟩:=(A2.out.ext (XW.out.trans hx)) j hjE;obtain⟨g2,o2,rfl,y0,y1,y2,y3,y4,y5,y6⟩:=(B2.out.ext (XW.out.trans hx)) j hjE;obtain⟨z,hz⟩:∃ z,z=EE[j]:=⟨_,rfl⟩;rw[<-hz] at x0 x1 x2 x3 x4 x5 x6 y0 y1 y2 y3 y4 y5 y6;obtain⟨z0,z1,z2,z3,z4,z5,z6⟩:=z;dsimp only at *;have b0:(0:Int)<=(j:Int):=by omega
  have b1:(j:Int) < (m:Int):=by omega
  clear hz;go_wp2_with fail
  go_quiet (fail)
  go_wp2
  go_roundw
  case rel=>exact⟨j+1,by omega,by go_num,by first | exact hx.drewN _ | exact hx.drew⟩
  case measure=>simp[RowKit.intOf];omega
 have hx3:=hid hx;clear hx;obtain⟨w3,hw3⟩:∃ w3:World,w3=wr:=⟨_,rfl⟩;subst hw3;go_wp2
 go_loopw [7] (fun i' wr=>∃ k:Nat,k<=q/\i'=.int .i64 k/\Ext w1 wr) (fun i' _=>q - (RowKit.intOf i').toNat)
 case atStart=>exact⟨0,Nat.zero_le _,rfl,hx3.out⟩
 clear e2 e3 e4 e5;obtain⟨l,hl,rfl,hx⟩:=hrel;obtain⟨bA,bB⟩:=boxes (X1.out.trans hx);have e4:=bA 4 _ rfl;have e5:=bB 4 _ rfl;clear bA bB;by_cases hll:l < q
 ·have hlC:l < CC.length:=by rw[<-HQ.out];exact hll
  obtain⟨g1,o1,rfl,x0,x1⟩:=(A3.out.ext (XW.out.trans hx)) l hlC;obtain⟨g2,o2,rfl,y0,y1⟩:=(B3.out.ext (XW.out.trans hx)) l hlC;obtain⟨s,hs⟩:∃ s,s=CC[l].1:=⟨_,rfl⟩;obtain⟨z,hz⟩:∃ z,z=CC[l].2:=⟨_,rfl⟩;rw[<-hs] at x0 y0;rw[<-hz] at x1 y1;have b0:(0:Int)<=(l:Int):=by omega
  have b1:(l:Int) < (q:Int):=by omega
  clear hs hz;go_wp2_with fail
  go_quiet (fail)
  go_wp2
  go_roundw
  case rel=>exact⟨l+1,by omega,by go_num,by first | exact hx.drewN _ | exact hx.drew⟩
  case measure=>simp[RowKit.intOf];omega
 go_wp2;go_ret;exact⟨rfl,XW.out.trans hx⟩
end Go.Proofs.YtjaeedbjknejdaaGreatDoor.Nm

namespace Go.Proofs.YtjaeedbjknejdaaGreatDoor.Nm
open Go.RowKit Go.Sort Go.Lib Go.Shelf Fx Lx Tr At
theorem same_true' (g:Gr)(va vb:Value)(w:World)(ha:GrIn w va g)(hb:GrIn w vb g)(hs:GrSm g):Calls Tryz.prog 21 #[va,vb] w fun e w'=>e=.returned (.bool true)/\Ext w w' :=
 same_true g va vb w ha hb hs.2.1 hs.2.2.1 hs.2.2.2.1 (fun x hx=>(hs.2.2.2.2.1 x hx).2.2.1)
theorem docR_all {g:Gr}{e:Ending}{w:World}(h:DocR (.ok g) e w):∃ n nc ed ec c cc,e=.returned (.tuple #[.agg #[.string g.name,.bool g.dir,.slice n g.N.length nc,.slice ed g.E.length ec,.slice c g.C.length cc],.int .i64 0])/\GrIn w (.agg #[.string g.name,.bool g.dir,.slice n g.N.length nc,.slice ed g.E.length ec,.slice c g.C.length cc]) g/\GrCp w (.agg #[.string g.name,.bool g.dir,.slice n g.N.length nc,.slice ed g.E.length ec,.slice c g.C.length cc]) g/\GrSm g:=by
 obtain⟨v,h1,h2,h4,h5⟩:=h;have h3:=h2;obtain⟨n,nc,ed,ec,c,cc,rfl,-⟩:=h3;exact⟨n,nc,ed,ec,c,cc,h1,h2,h4,h5⟩
end Go.Proofs.YtjaeedbjknejdaaGreatDoor.Nm

namespace Go.Proofs.YtjaeedbjknejdaaGreatDoor.Ex
open Go Go.RowKit Go.Sort Go.Lib Go.Shelf Fx Lx Tr At Pa Go.Proofs.YtjaeedbjknejdaaGreatDoor.Nm
theorem norm_tree {g:Gr}(ht:treeT g normO=.error 2\/∃ B,treeT g normO=.ok B):∃ (XN:ByteArray) (XD:Bool) (LB:List Stm) (f:Int),
  (∀ (n:Nat) (e:Ending) (w:World),TreeR g (treeT g normO) n e w->∃ b c,e=.returned (.tuple #[.agg #[.string XN,.bool XD,.slice b LB.length c],.int .i64 f])/\StmsP (n <= ·) w b LB) /\
  (f=2\/(f=0/\XN.size<=16/\BigL LB/\cntL LB<=341/\(∀ p ∈ flatL 0 LB,p.1.refs.length<=1048576/\p.1.attrs.length<=20)/\buildT XN XD LB=.ok g)):=by
 rcases ht with h | ⟨B,h⟩
 ·refine⟨⟨#[]⟩,false,[],2,fun n e w hr=>?_,.inl rfl⟩;rw[h] at hr;exact⟨none,0,hr,by rw[StmsP];trivial⟩
 obtain⟨hBe,hg0,ho5,hv,hfwB,hn16,-,hcn⟩:=tree_ok h;have hbig:BigL B:=by rw[hBe];exact body_big (gr_ok hg0) ho5
 refine⟨g.name,g.dir,B,0,fun n e w hr=>?_,.inr ⟨rfl,hn16,hbig,hcn,fun p hp=>⟨Nat.le_trans (hfwB p hp).1 (by decide),Nat.le_trans (hfwB p hp).2 (by decide)⟩,graph_back h⟩⟩;rw[h] at hr;obtain⟨b,c,h1,h2,-⟩:=hr;exact⟨b,c,h1,h2⟩
theorem declares_walk (nm:ByteArray)(dir:Bool)(b:Option Addr)(L:List Stm)(cap:Nat)(w:World)(h:StmsAt w.heap.size w b L)(hs:sizeL L<=1048576)(hnm:nm.size<=1048576)(he:Env w):
  Calls Tryz.prog 5 #[.agg #[.string nm,.bool dir,.slice b L.length cap]] w fun e w'=>e=.returned (.bool true)/\Ext w w':=by
 have hva:=fun(w5:World) (x:Ext w w5)=>validR_any nm dir b L cap w.heap.size w5 x.size (StmsAt.below x L h) hs (by omega)
 have hct:=fun(w5:World) (x:Ext w w5)=>countR_any nm dir b L cap w.heap.size w5 x.size (StmsAt.below x L h) hs
 have hawk:=fun(w5:World) (x:Ext w w5)=>awake_any w5 (he.ext x)
 simp only[cntL_flat 0 L] at hct;have hlc:=cntL_len L;have hdc:=fun(hc:cntL L<=80) (w5:World) (x:Ext w w5)=>declared_any L b cap w5 (by omega) (by omega) (stms_up h x)
 have hbd:=fun(hv:validE nm L=0) (hc:cntL L<=80) (w5:World) (x:Ext w w5)=>buildD_any nm dir b L cap w.heap.size w5 x.size (StmsAt.below x L h) (by unfold maxLen;omega) (by omega) (big_small hs) (by omega) (fw_of hv hs)
 have hwl:=fun(hv:validE nm L=0)=>(ok_valid hv (fw_of hv hs)).2.2
 obtain⟨V,hV⟩:∃ v,v=validE nm L:=⟨_,rfl⟩;obtain⟨M,hM⟩:∃ m,m=cntL L:=⟨_,rfl⟩;obtain⟨R,hR⟩:∃ r,r=buildT nm dir L:=⟨_,rfl⟩;obtain⟨N,hN⟩:∃ n,n=L.length:=⟨_,rfl⟩;simp only[<-hV,<- hM,<- hR,<- hN] at hva hct hdc hbd;rw[<-hV] at hwl;rw[<-hN];have X0:Hid (Ext w (w.alloc (.cells #[.string nm,.bool dir,.slice b N cap] 33))):=hid ((Ext.refl _).alloc _);have HB0:Hid ((w.alloc (.cells #[.string nm,.bool dir,.slice b N cap] 33)).heap[w.heap.size]? = some (.cells #[.string nm,.bool dir,.slice b N cap] 33 (0,0))):=hid (heap_alloc_new w _);have HVA:=hid hva;have HCT:=hid hct;have HAWK:=hid hawk;have HE:=hid he;clear hva hct hawk h hs hnm he hlc hN;by_cases hv0:V=0
 ·by_cases hm:M<=80
  ·have m1:decide ((80:Int) < M)=false:=decide_eq_false (by omega);have HDC:=hid (hdc hm);have hbd1:=hbd hv0 hm;have hwl2:=hwl hv0;clear hwl;subst hv0;obtain⟨f1,f2⟩:=efacts 0;clear hdc hbd hm hM;cases R with
   | error er =>
    have HBD:=hid hbd1;clear hbd1 hwl2 hV hR;go_enter Tryz.func5,Tryz.ntmps5
    go_upto_region 4 with(first
     | (go_at_call 15;refine Calls.mono (by with_reducible exact HVA.out _ X0.out) ?_;rintro e w1 ⟨rfl,x1⟩;have X1:=hid (X0.out.trans x1);have HB1:=hid (At.heap_ext HB0.out x1);obtain⟨t0,t1,t2,-⟩:=cells3t HB1.out)
     | (go_at_call 16;refine Calls.mono (by with_reducible exact HCT.out _ X1.out) ?_;rintro e w2 ⟨rfl,x2⟩;have X2:=hid (X1.out.trans x2);have HB2:=hid (At.heap_ext HB0.out (x1.trans x2));obtain⟨t0,t1,t2,-⟩:=cells3t HB2.out)
     | (go_at_call 17;refine Calls.mono (by with_reducible exact HDC.out _ X2.out) ?_;rintro e w3 ⟨⟨v3,b3,rfl⟩,x3⟩;have X3:=hid (X2.out.trans x3);have HB3:=hid (At.heap_ext HB2.out x3);obtain⟨t0,t1,t2,-⟩:=cells3t HB3.out))
    cases b3 with
    | false =>
     go_wp2_with (first
      | (go_at_call 18;refine Calls.mono (by with_reducible exact HBD.out _ X3.out) ?_;rintro e w4 ⟨⟨rfl,her⟩,x4⟩;have X4:=hid (X3.out.trans x4);unfold gr0V)
      | (go_at_call 9;refine Calls.mono (by with_reducible exact HAWK.out _ (X4.out.alloc _)) ?_;rintro e w9 ⟨rfl,x9⟩))
     go_returns;exact⟨rfl,(X4.out.alloc _).trans x9⟩
    | true =>
     go_wp2_with (first
      | (go_at_call 18;refine Calls.mono (by with_reducible exact HBD.out _ X3.out) ?_;rintro e w4 ⟨⟨rfl,her⟩,x4⟩;have X4:=hid (X3.out.trans x4);obtain⟨f3,f4⟩:=nfacts her;unfold gr0V)
      | (go_at_call 9;refine Calls.mono (by with_reducible exact HAWK.out _ (X4.out.alloc _)) ?_;rintro e w9 ⟨rfl,x9⟩))
     go_returns;exact⟨rfl,(X4.out.alloc _).trans x9⟩
   | ok g =>
    have hbd2:=fun(w5:World) (x:Ext w w5)=>(hbd1 w5 x).mono (fun e w' hh=>And.intro (docR_all hh.1) hh.2)
    have hg0:=(build_names hwl2 hR.symm).2.2.2.2.1;have hcv:=fun hm=>build_cover hwl2 hR.symm hm
    have ht2:=fun hm=>tree_02 hg0 (hcv hm)
    have hme:=fun(hsm:GrSm g) (w5:World) (va:Value) (ha:GrIn w5 va g) (k:Nat) (hk:k < g.C.length)=>membersR_any g va k w5 ha hsm hg0 hk
    have hse:=fun(hsm:GrSm g) (w5:World) (va vb:Value) (h1:GrIn w5 va g) (h2:GrIn w5 vb g)=>same_true' g va vb w5 h1 h2 hsm
    have htp:=fun(hsm:GrSm g) (w5:World) (x:Ext w w5) (na ea ca:Option Addr) (nac eac cac:Nat) (ha:GrIn w5 (.agg #[.string g.name,.bool g.dir,.slice na g.N.length nac,.slice ea g.E.length eac,.slice ca g.C.length cac]) g) (hcp:GrCp w5 (.agg #[.string g.name,.bool g.dir,.slice na g.N.length nac,.slice ea g.E.length eac,.slice ca g.C.length cac]) g)=>treeP_all g na ea ca nac eac cac normO w5 ha hcp hsm (HE.out.ext x)
    have hcs:=fun(hsm:GrSm g)=>hsm.2.2.2.1
    have hbk:=fun(XN:ByteArray) (XD:Bool) (LB:List Stm) (h1:XN.size<=16) (h2:BigL LB) (h3:cntL LB<=341) (h4:∀ p ∈ flatL 0 LB,p.1.refs.length<=1048576/\p.1.attrs.length<=20) (h5:buildT XN XD LB=.ok g) (w5:World) (b:Option Addr) (c:Nat) (h:StmsAt w5.heap.size w5 b LB)=>by
     have h6:=cntL_len LB;have h7:=buildD_any XN XD b LB c w5.heap.size w5 (Nat.le_refl _) h (by unfold maxLen;omega) (by omega) h2 (by omega) h4;rw[h5] at h7;exact h7.mono (fun e w' hh=>And.intro (docR_all hh.1) hh.2)
    clear hwl2 hR hV hbd1 hcv hg0;generalize g.name=GN at *;generalize g.dir=GD at *;generalize g.N.length=NL at *;generalize g.E.length=EL at *;generalize g.C.length=CL at *;have HBD:=hid hbd2;have HME:=hid hme;have HSE:=hid hse;have HTP:=hid htp;have HT2:=hid ht2;have HCS:=hid hcs;have HBK:=hid hbk;clear hbd2 hme hse htp ht2 hcs hbk;go_enter Tryz.func5,Tryz.ntmps5
    go_upto_region 4 with(first
     | (go_at_call 15;refine Calls.mono (by with_reducible exact HVA.out _ X0.out) ?_;rintro e w1 ⟨rfl,x1⟩;have X1:=hid (X0.out.trans x1);have HB1:=hid (At.heap_ext HB0.out x1);obtain⟨t0,t1,t2,-⟩:=cells3t HB1.out)
     | (go_at_call 16;refine Calls.mono (by with_reducible exact HCT.out _ X1.out) ?_;rintro e w2 ⟨rfl,x2⟩;have X2:=hid (X1.out.trans x2);have HB2:=hid (At.heap_ext HB0.out (x1.trans x2));obtain⟨t0,t1,t2,-⟩:=cells3t HB2.out)
     | (go_at_call 17;refine Calls.mono (by with_reducible exact HDC.out _ X2.out) ?_;rintro e w3 ⟨⟨v3,b3,rfl⟩,x3⟩;have X3:=hid (X2.out.trans x3);have HB3:=hid (At.heap_ext HB2.out x3);obtain⟨t0,t1,t2,-⟩:=cells3t HB3.out))
    cases b3 with
    | false =>
     go_wp2_with (first
      | (go_at_call 18;refine Calls.mono (by with_reducible exact HBD.out _ X3.out) ?_;rintro e w4 ⟨⟨n1,nc1,e1,ec1,c1,cc1,rfl,-,-,-⟩,x4⟩;have X4:=hid (X3.out.trans x4))
      | (go_at_call 9;refine Calls.mono (by with_reducible exact HAWK.out _ (X4.out.alloc _)) ?_;rintro e w9 ⟨rfl,x9⟩))
     go_returns;exact⟨rfl,(X4.out.alloc _).trans x9⟩
    | true =>
     go_wp2_with ((go_at_call 18;refine Calls.mono (by with_reducible exact HBD.out _ X3.out) ?_;rintro e w4 ⟨⟨n1,nc1,e1,ec1,c1,cc1,rfl,hgi,hgc,hgs⟩,x4⟩;have X4:=hid (X3.out.trans x4);have HGI:=hid hgi;have HGC:=hid hgc;have HGS:=hid hgs;clear hgi hgc hgs x4));clear t0 t1 t2;obtain⟨gb,hgb⟩:∃ n,n=w4.heap.size:=⟨_,rfl⟩;obtain⟨wd,hwd⟩:∃ w',w'=w4.alloc (.cells #[.string GN,.bool GD,.slice n1 NL nc1,.slice e1 EL ec1,.slice c1 CL cc1] 26):=⟨_,rfl⟩;have BG:Hid (wd.heap[gb]? = some (.cells #[.string GN,.bool GD,.slice n1 NL nc1,.slice e1 EL ec1,.slice c1 CL cc1] 26 (0,0))):=hid (by rw[hwd,hgb];exact heap_alloc_new w4 _);have XD4:Hid (Ext w4 wd):=hid (by rw[hwd];exact(Ext.refl _).alloc _);rw[<-hwd,<- hgb];have XD:=hid (X4.out.trans XD4.out);have GI:=hid (HGI.out.ext XD4.out)
     have GC:=hid (HGC.out.ext HGI.out XD4.out);have hcl:=HCS.out HGS.out;clear hwd hgb
     go_loopw [7] (fun k' wr=>∃ k:Nat,k<=CL/\k'=.int .i64 k/\Hid (∀ j,j < k->memT g j ≠ [])/\Hid (Ext wd wr)) (fun k' _=>CL - (RowKit.intOf k').toNat)
     case atStart=>exact⟨0,Nat.zero_le _,rfl,hid (fun j hj=>absurd hj (Nat.not_lt_zero _)),hid (Ext.refl _)⟩
     case round =>
      obtain⟨k,hk,rfl,HJ,HY⟩:=hrel;obtain⟨w1,hw1⟩:∃ w',w'=wr:=⟨_,rfl⟩;subst hw1;have HG1:=hid (At.heap_ext BG.out HY.out);obtain⟨g0,g1,g2,g3,g4⟩:=cells5g HG1.out;have e0:(0:Int)<=(k:Int):=by omega
      by_cases hlt:k < CL
      ·have e1':(k:Int) < (CL:Int):=by omega
       have hm1:=HME.out HGS.out w1 _ (GI.out.ext HY.out) k hlt
       have HM1:=hid (hm1.mono (fun e w' hh=>show(∃ a c,e=.returned (.slice a (memT g k).length c))/\Ext w1 w' by
        obtain⟨⟨v,h1,h2⟩,h3⟩:=hh;obtain⟨a,c,h4,-⟩:=row_val h2
        exact⟨⟨a,c,by rw[h1,h4]⟩,h3⟩))
       have hj1:(memT g k).length ≠ 0->∀ j,j < k+1->memT g j ≠ []:=fun h j hj=>by
        by_cases h2:j < k
        ·exact HJ.out j h2
        have h3:j=k:=by omega
        subst h3;exact fun h4=>h (by rw[h4];rfl)
       have HJ1:=hid hj1;clear hm1 hj1;generalize (memT g k).length=ML at *;by_cases hz:ML=0
       ·subst hz
        go_wp2_with (first
         | (go_at_call 19;refine Calls.mono (by with_reducible exact HM1.out) ?_;rintro e w5 ⟨⟨a5,c5,rfl⟩,x5⟩)
         | (go_at_call 9;refine Calls.mono (by with_reducible exact HAWK.out _ ((XD.out.trans HY.out).trans x5)) ?_;rintro e w9 ⟨rfl,x9⟩))
        go_returns;exact⟨rfl,((XD.out.trans HY.out).trans x5).trans x9⟩
       have z1:¬ (ML:Int)=0:=by omega
       go_wp2_with (go_at_call 19;refine Calls.mono (by with_reducible exact HM1.out) ?_;rintro e w5 ⟨⟨a5,c5,rfl⟩,x5⟩)
       go_roundw
       case rel=>exact⟨k+1,by omega,by go_num,hid (HJ1.out hz),hid (HY.out.trans x5)⟩
       case measure=>simp[RowKit.intOf];omega
      have e1':¬ (k:Int) < (CL:Int):=by omega
      have hkC:k=CL:=by omega
      obtain⟨XN,XDD,LB,f,hT,hF⟩:=norm_tree (HT2.out (fun c hc=>HJ.out c (by omega)));have GI1:=hid (GI.out.ext HY.out);have GC1:=hid (GC.out.ext GI.out HY.out);have Z1:=hid (XD.out.trans HY.out);have HT:Hid (∀ w5,Ext w1 w5->Calls Tryz.prog 10 #[.agg #[.string GN,.bool GD,.slice n1 NL nc1,.slice e1 EL ec1,.slice c1 CL cc1],.agg #[.int .i64 0,.int .i64 10000,.int .i64 20000,.int .i64 5000,.int .i64 8]] w5 fun e w'=>(∃ b c,e=.returned (.tuple #[.agg #[.string XN,.bool XDD,.slice b LB.length c],.int .i64 f])/\StmsP (w5.heap.size <= ·) w' b LB)/\Ext w5 w'):=hid (fun w5 x=>(HTP.out HGS.out w5 (Z1.out.trans x) n1 e1 c1 nc1 ec1 cc1 (GI1.out.ext x) (GC1.out.ext GI1.out x)).mono (fun e w' hh=>And.intro (hT _ e w' hh.1) hh.2))
      have HNO:Hid (∀ w5,Calls Tryz.prog 20 #[] w5 fun e w'=>e=.returned (.agg #[.int .i64 0,.int .i64 10000,.int .i64 20000,.int .i64 5000,.int .i64 8])/\Ext w5 w'):=hid (fun w5=>normal_any w5)
      have HF:Hid (f=2\/(f=0/\∀ (w5:World) (b:Option Addr) (c:Nat),StmsAt w5.heap.size w5 b LB->Calls Tryz.prog 18 #[.agg #[.string XN,.bool XDD,.slice b LB.length c]] w5 fun e w'=>(∃ n nc ed ec c cc,e=.returned (.tuple #[.agg #[.string GN,.bool GD,.slice n NL nc,.slice ed EL ec,.slice c CL cc],.int .i64 0])/\GrIn w' (.agg #[.string GN,.bool GD,.slice n NL nc,.slice ed EL ec,.slice c CL cc]) g/\GrCp w' (.agg #[.string GN,.bool GD,.slice n NL nc,.slice ed EL ec,.slice c CL cc]) g/\GrSm g)/\Ext w5 w')):=hid (by
       rcases hF with h | ⟨h,h1,h2,h3,h4,h5⟩
       ·exact .inl h
       exact .inr ⟨h,HBK.out XN XDD LB h1 h2 h3 h4 h5⟩)
      clear hT hF HBK HTP HT2 HME HBD HDC HJ;generalize LB.length=XL at *
      go_upto_if 12 with fail
      go_cut [8,9] from 10 to 79 (fun s8 s9 wx=>∃ tb b c,s8=.pointer (some ⟨tb,0,none⟩)/\s9=.int .i64 f/\Hid (wx.heap[tb]? = some (.cells #[.string XN,.bool XDD,.slice b XL c] 33 (0,0)))/\Hid (StmsAt wx.heap.size wx b LB)/\Hid (Ext w1 wx))
      case first =>
       go_wp2_with fail;refine wp_region_K (S:=fun w'=>w'.cell? ⟨gb,0,none⟩=some (.string GN)/\w'.cell? ⟨gb,1,none⟩=some (.bool GD)/\w'.cell? ⟨gb,2,none⟩=some (.slice n1 NL nc1)/\w'.cell? ⟨gb,3,none⟩=some (.slice e1 EL ec1)/\w'.cell? ⟨gb,4,none⟩=some (.slice c1 CL cc1)) (n:=8) (by kernel_rfl) (by exact⟨Ext.cell ((Ext.refl w1).drew) g0,Ext.cell ((Ext.refl w1).drew) g1,Ext.cell ((Ext.refl w1).drew) g2,Ext.cell ((Ext.refl w1).drew) g3,Ext.cell ((Ext.refl w1).drew) g4⟩) (fun hHeld=>?_);refine kU 8 0 rfl hHeld ?_
       (try simp only[Act.put,q1,q2,q3])
       refine wpAnyK_two (i:=1) (j:=6) (oi:=_) (oj:=_) rfl rfl (by kernel_rfl) (fun KK hKK=>?_) (fun KK hKK=>?_)
       ·go_simp
        (go_at_call 20;refine Calls.mono (by exact HNO.out _) ?_;rintro e w6 ⟨rfl,x6⟩)
        have ZN:Hid (Ext w1 w6):=hid (((Ext.refl w1).drew).trans x6);clear x6;refine hKK.out _ _ (fun _=>?_) (fun hH=>?_)
        ·(exact⟨Ext.cell (ZN.out) g0,Ext.cell (ZN.out) g1,Ext.cell (ZN.out) g2,Ext.cell (ZN.out) g3,Ext.cell (ZN.out) g4⟩)
        clear hHeld;have hHeld:=hH (by decide);clear hKK KK hH;(try dsimp only at hHeld)
        (try simp only[Act.put,q1,q2,q3])
        refine wpAnyK_two (i:=2) (j:=6) (oi:=_) (oj:=_) rfl rfl (by kernel_rfl) (fun KK hKK=>?_) (fun KK hKK=>?_)
        ·go_simp
         (go_at_call 10;refine Calls.mono (by exact HT.out _ (ZN.out)) ?_;rintro e w7 ⟨⟨b,c,rfl,hst⟩,x7⟩)
         have HST:=hid hst;have X7:=hid x7;have ZT:Hid (Ext w1 w7):=hid ((ZN.out).trans x7);clear hst x7;refine hKK.out _ _ (fun _=>?_) (fun hH=>?_)
         ·(exact⟨Ext.cell (ZT.out) g0,Ext.cell (ZT.out) g1,Ext.cell (ZT.out) g2,Ext.cell (ZT.out) g3,Ext.cell (ZT.out) g4⟩)
         clear hHeld;have hHeld:=hH (by decide);clear hKK KK hH;(try dsimp only at hHeld)
         (try simp only[Act.put,q1,q2,q3])
         refine kU 8 3 rfl hHeld ?_
         (try simp only[Act.put,q1,q2,q3])
         refine kU 8 4 rfl hHeld ?_
         (try simp only[Act.put,q1,q2,q3])
         refine kU 8 5 rfl hHeld ?_
         (try simp only[Act.put,q1,q2,q3])
         refine wpAnyK_step (o:=_) (i:=6) rfl (by kernel_rfl) (fun KK hKK=>?_);go_simp;obtain⟨tb,htb⟩:∃ n,n=(w7).heap.size:=⟨_,rfl⟩;obtain⟨wt,hwt⟩:∃ w',w'=((w7).alloc (.cells #[.string ⟨#[]⟩,.bool false,.slice none 0 0] 33)):=⟨_,rfl⟩;have HTE:Hid (tb=(w7).heap.size):=hid htb;have TX:Hid (wt.heap[tb]? = some (.cells #[.string ⟨#[]⟩,.bool false,.slice none 0 0] 33 (0,0))):=hid (by rw[hwt,htb];exact heap_alloc_new _ _);have XT:Hid (Ext (w7) wt):=hid (by rw[hwt];exact((Ext.refl _).alloc _));have HTB:Hid (tb+1=wt.heap.size):=hid (by rw[hwt,htb];simp);have ZA:Hid (Ext w1 wt):=hid ((ZT.out).trans XT.out);have HTW:Hid (w1.heap.size<=tb):=hid (by have h1:=(ZT.out).size;omega);have HST2:Hid (StmsAt tb w7 b LB):=hid (by rw[htb];exact stmsV_at HST.out);rw[<-hwt,<- htb];clear hwt htb
         refine hKK.out _ _ (fun _=>?_) (fun hH=>?_)
         ·(exact⟨Ext.cell (ZA.out) g0,Ext.cell (ZA.out) g1,Ext.cell (ZA.out) g2,Ext.cell (ZA.out) g3,Ext.cell (ZA.out) g4⟩)
         clear hHeld;have hHeld:=hH (by decide);clear hKK KK hH;(try dsimp only at hHeld)
         (try simp only[Act.put,q1,q2,q3])
         have q0:=(cells3t TX.out).1;have q1:=(cells3t TX.out).2.1;have q2:=(cells3t TX.out).2.2.1;have qf:=(cells3t TX.out).2.2.2;refine wpAnyK_step (o:=_) (i:=7) rfl (by kernel_rfl) (fun KK hKK=>?_);go_simp;refine hKK.out _ _ (fun _=>?_) (fun hH=>?_)
         ·(exact⟨Ext.cell (ext3t (ZA.out) HTW.out _ _ _) g0,Ext.cell (ext3t (ZA.out) HTW.out _ _ _) g1,Ext.cell (ext3t (ZA.out) HTW.out _ _ _) g2,Ext.cell (ext3t (ZA.out) HTW.out _ _ _) g3,Ext.cell (ext3t (ZA.out) HTW.out _ _ _) g4⟩)
         clear hHeld;have hHeld:=hH (by decide);clear hKK KK hH;(try dsimp only at hHeld)
         (try simp only[Act.put,q1,q2,q3])
         refine wpAnyK_step (o:=_) (i:=8) rfl (by kernel_rfl) (fun KK hKK=>?_);go_simp;refine hKK.out _ _ (fun h=>absurd rfl h) (fun _=>?_);clear hKK KK
         (try simp only[Act.put,q1,q2,q3])
         refine wpAnyK_done (by kernel_rfl) ?_ _;go_wp2_with fail
         go_meet
         exact⟨tb,b,c,rfl,rfl,hid (set3t (TX.out) _ _ _),hid (StmsAt.mono (by rw[size_setC,size_setC,size_setC];have:=HTB.out;omega) LB (StmsAt.below (below3 XT.out HTE.out) LB HST2.out)),hid (ext3t (ZA.out) HTW.out _ _ _)⟩
        go_simp;obtain⟨tb,htb⟩:∃ n,n=(w6).heap.size:=⟨_,rfl⟩;obtain⟨wt,hwt⟩:∃ w',w'=((w6).alloc (.cells #[.string ⟨#[]⟩,.bool false,.slice none 0 0] 33)):=⟨_,rfl⟩;have HTE:Hid (tb=(w6).heap.size):=hid htb;have TX:Hid (wt.heap[tb]? = some (.cells #[.string ⟨#[]⟩,.bool false,.slice none 0 0] 33 (0,0))):=hid (by rw[hwt,htb];exact heap_alloc_new _ _);have XT:Hid (Ext (w6) wt):=hid (by rw[hwt];exact((Ext.refl _).alloc _));have HTB:Hid (tb+1=wt.heap.size):=hid (by rw[hwt,htb];simp);have ZA:Hid (Ext w1 wt):=hid ((ZN.out).trans XT.out);have HTW:Hid (w1.heap.size<=tb):=hid (by have h1:=(ZN.out).size;omega);rw[<-hwt,<- htb];clear hwt htb;refine hKK.out _ _ (fun _=>?_) (fun hH=>?_)
        ·(exact⟨Ext.cell (ZA.out) g0,Ext.cell (ZA.out) g1,Ext.cell (ZA.out) g2,Ext.cell (ZA.out) g3,Ext.cell (ZA.out) g4⟩)
        clear hHeld;have hHeld:=hH (by decide);clear hKK KK hH;(try dsimp only at hHeld)
        (try simp only[Act.put,q1,q2,q3])
        refine wpAnyK_step (o:=_) (i:=2) rfl (by kernel_rfl) (fun KK hKK=>?_);go_simp
        (go_at_call 10;refine Calls.mono (by exact HT.out _ (ZA.out)) ?_;rintro e w7 ⟨⟨b,c,rfl,hst⟩,x7⟩)
        have HST:=hid hst;have X7:=hid x7;have ZT:Hid (Ext w1 w7):=hid ((ZA.out).trans x7);clear hst x7;refine hKK.out _ _ (fun _=>?_) (fun hH=>?_)
        ·(exact⟨Ext.cell (ZT.out) g0,Ext.cell (ZT.out) g1,Ext.cell (ZT.out) g2,Ext.cell (ZT.out) g3,Ext.cell (ZT.out) g4⟩)
        clear hHeld;have hHeld:=hH (by decide);clear hKK KK hH;(try dsimp only at hHeld)
        (try simp only[Act.put,q1,q2,q3])
        refine kU 8 3 rfl hHeld ?_
        (try simp only[Act.put,q1,q2,q3])
        refine kU 8 4 rfl hHeld ?_
        (try simp only[Act.put,q1,q2,q3])
        refine kU 8 5 rfl hHeld ?_
        (try simp only[Act.put,q1,q2,q3])
        have q0:=(cells3t (At.heap_ext TX.out X7.out)).1;have q1:=(cells3t (At.heap_ext TX.out X7.out)).2.1;have q2:=(cells3t (At.heap_ext TX.out X7.out)).2.2.1;have qf:=(cells3t (At.heap_ext TX.out X7.out)).2.2.2;refine wpAnyK_step (o:=_) (i:=7) rfl (by kernel_rfl) (fun KK hKK=>?_);go_simp;refine hKK.out _ _ (fun _=>?_) (fun hH=>?_)
        ·(exact⟨Ext.cell (ext3t (ZT.out) HTW.out _ _ _) g0,Ext.cell (ext3t (ZT.out) HTW.out _ _ _) g1,Ext.cell (ext3t (ZT.out) HTW.out _ _ _) g2,Ext.cell (ext3t (ZT.out) HTW.out _ _ _) g3,Ext.cell (ext3t (ZT.out) HTW.out _ _ _) g4⟩)
        clear hHeld;have hHeld:=hH (by decide);clear hKK KK hH;(try dsimp only at hHeld)
        (try simp only[Act.put,q1,q2,q3])
        refine wpAnyK_step (o:=_) (i:=8) rfl (by kernel_rfl) (fun KK hKK=>?_);go_simp;refine hKK.out _ _ (fun h=>absurd rfl h) (fun _=>?_);clear hKK KK
        (try simp only[Act.put,q1,q2,q3])
        refine wpAnyK_done (by kernel_rfl) ?_ _;go_wp2_with fail
        go_meet
        exact⟨tb,b,c,rfl,rfl,hid (set3t ((At.heap_ext TX.out X7.out)) _ _ _),hid (stmsV_at (stmsP_turn3 HST.out (Ext.refl _) (Array.getElem?_eq_some_iff.1 TX.out).1)),hid (ext3t (ZT.out) HTW.out _ _ _)⟩
       go_simp;obtain⟨tb,htb⟩:∃ n,n=(w1).heap.size:=⟨_,rfl⟩;obtain⟨wt,hwt⟩:∃ w',w'=((w1).alloc (.cells #[.string ⟨#[]⟩,.bool false,.slice none 0 0] 33)).drew:=⟨_,rfl⟩;have HTE:Hid (tb=(w1).heap.size):=hid htb;have TX:Hid (wt.heap[tb]? = some (.cells #[.string ⟨#[]⟩,.bool false,.slice none 0 0] 33 (0,0))):=hid (by rw[hwt,htb];exact heap_alloc_new _ _);have XT:Hid (Ext (w1) wt):=hid (by rw[hwt];exact((Ext.refl _).alloc _).drew);have HTB:Hid (tb+1=wt.heap.size):=hid (by rw[hwt,htb];simp);have ZA:Hid (Ext w1 wt):=hid ((Ext.refl w1).trans XT.out);have HTW:Hid (w1.heap.size<=tb):=hid (by have h1:=(Ext.refl w1).size;omega);rw[<-hwt,<- htb];clear hwt htb;refine hKK.out _ _ (fun _=>?_) (fun hH=>?_)
       ·(exact⟨Ext.cell (ZA.out) g0,Ext.cell (ZA.out) g1,Ext.cell (ZA.out) g2,Ext.cell (ZA.out) g3,Ext.cell (ZA.out) g4⟩)
       clear hHeld;have hHeld:=hH (by decide);clear hKK KK hH;(try dsimp only at hHeld)
       (try simp only[Act.put,q1,q2,q3])
       refine wpAnyK_step (o:=_) (i:=1) rfl (by kernel_rfl) (fun KK hKK=>?_);go_simp
       (go_at_call 20;refine Calls.mono (by exact HNO.out _) ?_;rintro e w6 ⟨rfl,x6⟩)
       have ZN:Hid (Ext w1 w6):=hid ((ZA.out).trans x6);have XN:Hid (Ext wt w6):=hid x6;clear x6;refine hKK.out _ _ (fun _=>?_) (fun hH=>?_)
       ·(exact⟨Ext.cell (ZN.out) g0,Ext.cell (ZN.out) g1,Ext.cell (ZN.out) g2,Ext.cell (ZN.out) g3,Ext.cell (ZN.out) g4⟩)
       clear hHeld;have hHeld:=hH (by decide);clear hKK KK hH;(try dsimp only at hHeld)
       (try simp only[Act.put,q1,q2,q3])
       refine wpAnyK_step (o:=_) (i:=2) rfl (by kernel_rfl) (fun KK hKK=>?_);go_simp
       (go_at_call 10;refine Calls.mono (by exact HT.out _ (ZN.out)) ?_;rintro e w7 ⟨⟨b,c,rfl,hst⟩,x7⟩)
       have HST:=hid hst;have X7:=hid x7;have ZT:Hid (Ext w1 w7):=hid ((ZN.out).trans x7);clear hst x7;refine hKK.out _ _ (fun _=>?_) (fun hH=>?_)
       ·(exact⟨Ext.cell (ZT.out) g0,Ext.cell (ZT.out) g1,Ext.cell (ZT.out) g2,Ext.cell (ZT.out) g3,Ext.cell (ZT.out) g4⟩)
       clear hHeld;have hHeld:=hH (by decide);clear hKK KK hH;(try dsimp only at hHeld)
       (try simp only[Act.put,q1,q2,q3])
       refine kU 8 3 rfl hHeld ?_
       (try simp only[Act.put,q1,q2,q3])
       refine kU 8 4 rfl hHeld ?_
       (try simp only[Act.put,q1,q2,q3])
       refine kU 8 5 rfl hHeld ?_
       (try simp only[Act.put,q1,q2,q3])
       have q0:=(cells3t (At.heap_ext TX.out (XN.out.trans X7.out))).1;have q1:=(cells3t (At.heap_ext TX.out (XN.out.trans X7.out))).2.1;have q2:=(cells3t (At.heap_ext TX.out (XN.out.trans X7.out))).2.2.1;have qf:=(cells3t (At.heap_ext TX.out (XN.out.trans X7.out))).2.2.2;refine wpAnyK_step (o:=_) (i:=7) rfl (by kernel_rfl) (fun KK hKK=>?_);go_simp;refine hKK.out _ _ (fun _=>?_) (fun hH=>?_)
       ·(exact⟨Ext.cell (ext3t (ZT.out) HTW.out _ _ _) g0,Ext.cell (ext3t (ZT.out) HTW.out _ _ _) g1,Ext.cell (ext3t (ZT.out) HTW.out _ _ _) g2,Ext.cell (ext3t (ZT.out) HTW.out _ _ _) g3,Ext.cell (ext3t (ZT.out) HTW.out _ _ _) g4⟩)
       clear hHeld;have hHeld:=hH (by decide);clear hKK KK hH;(try dsimp only at hHeld)
       (try simp only[Act.put,q1,q2,q3])
       refine wpAnyK_step (o:=_) (i:=8) rfl (by kernel_rfl) (fun KK hKK=>?_);go_simp;refine hKK.out _ _ (fun h=>absurd rfl h) (fun _=>?_);clear hKK KK
       (try simp only[Act.put,q1,q2,q3])
       refine wpAnyK_done (by kernel_rfl) ?_ _;go_wp2_with fail
       go_meet
       exact⟨tb,b,c,rfl,rfl,hid (set3t ((At.heap_ext TX.out (XN.out.trans X7.out))) _ _ _),hid (stmsV_at (stmsP_turn3 HST.out (Ext.refl _) (Nat.lt_of_lt_of_le (Array.getElem?_eq_some_iff.1 TX.out).1 XN.out.size))),hid (ext3t (ZT.out) HTW.out _ _ _)⟩
      obtain⟨tb,b',c',rfl,rfl,HTX,HST,ZC⟩:=hcut;obtain⟨t0,t1,t2,-⟩:=cells3t HTX.out;rcases HF.out with rfl | ⟨rfl,hbk⟩
      ·go_wp2_with ((go_at_call 9;refine Calls.mono (by with_reducible exact HAWK.out _ (Z1.out.trans ZC.out)) ?_;rintro e w9 ⟨rfl,x9⟩));go_returns;exact⟨rfl,(Z1.out.trans ZC.out).trans x9⟩
      have HBK:=hid hbk;have GI2:=hid (GI1.out.ext ZC.out);have HG2:=hid (At.heap_ext HG1.out ZC.out);clear hbk HF g0 g1 g2 g3 g4
      go_wp2_with (first
       | (go_at_call 18;refine Calls.mono (by with_reducible exact HBK.out _ _ _ HST.out) ?_;rintro e w5 ⟨⟨n2,nc2,e2,ec2,c2,cc2,rfl,hgi,-,-⟩,x5⟩;have Z5:=hid (((Z1.out.trans ZC.out).trans x5).alloc (.cells #[.string GN,.bool GD,.slice n2 NL nc2,.slice e2 EL ec2,.slice c2 CL cc2] 26));have GJ5:=hid (hgi.ext ((Ext.refl w5).alloc (.cells #[.string GN,.bool GD,.slice n2 NL nc2,.slice e2 EL ec2,.slice c2 CL cc2] 26)));have GI5:=hid (GI2.out.ext (x5.alloc (.cells #[.string GN,.bool GD,.slice n2 NL nc2,.slice e2 EL ec2,.slice c2 CL cc2] 26)));obtain⟨h0,h1,h2,h3,h4⟩:=cells5g (heap_alloc_new w5 (.cells #[.string GN,.bool GD,.slice n2 NL nc2,.slice e2 EL ec2,.slice c2 CL cc2] 26));obtain⟨g0,g1,g2,g3,g4⟩:=cells5g (At.heap_ext HG2.out (x5.alloc (.cells #[.string GN,.bool GD,.slice n2 NL nc2,.slice e2 EL ec2,.slice c2 CL cc2] 26)));clear hgi x5)
       | (go_at_call 21;refine Calls.mono (by with_reducible exact HSE.out HGS.out _ _ _ GI5.out GJ5.out) ?_;rintro e w6 ⟨rfl,x6⟩;have Z6:=hid (Z5.out.trans x6))
       | (go_at_call 9;refine Calls.mono (by with_reducible exact HAWK.out _ (Z6.out)) ?_;rintro e w9 ⟨rfl,x9⟩))
      go_returns;exact⟨rfl,Z6.out.trans x9⟩
  have m1:decide ((80:Int) < M)=true:=decide_eq_true (by omega);subst hv0;obtain⟨f1,f2⟩:=efacts 0;clear hdc hbd hm hM hwl hV hR;go_enter Tryz.func5,Tryz.ntmps5
  go_wp2_with (first
   | (go_at_call 15;refine Calls.mono (by with_reducible exact HVA.out _ X0.out) ?_;rintro e w1 ⟨rfl,x1⟩;have X1:=hid (X0.out.trans x1);have HB1:=hid (At.heap_ext HB0.out x1);obtain⟨t0,t1,t2,-⟩:=cells3t HB1.out)
   | (go_at_call 16;refine Calls.mono (by with_reducible exact HCT.out _ X1.out) ?_;rintro e w2 ⟨rfl,x2⟩;have X2:=hid (X1.out.trans x2);have HB2:=hid (At.heap_ext HB0.out (x1.trans x2));obtain⟨t0,t1,t2,-⟩:=cells3t HB2.out)
   | (go_at_call 9;refine Calls.mono (by with_reducible exact HAWK.out _ (X2.out)) ?_;rintro e w9 ⟨rfl,x9⟩))
  go_returns;exact⟨rfl,X2.out.trans x9⟩
 obtain⟨f1,f2⟩:=nfacts hv0;clear hdc hbd hM hwl hV hR;go_enter Tryz.func5,Tryz.ntmps5
 go_wp2_with (first
  | (go_at_call 15;refine Calls.mono (by with_reducible exact HVA.out _ X0.out) ?_;rintro e w1 ⟨rfl,x1⟩;have X1:=hid (X0.out.trans x1);have HB1:=hid (At.heap_ext HB0.out x1);obtain⟨t0,t1,t2,-⟩:=cells3t HB1.out)
  | (go_at_call 9;refine Calls.mono (by with_reducible exact HAWK.out _ (X1.out)) ?_;rintro e w9 ⟨rfl,x9⟩))
 go_returns;exact⟨rfl,X1.out.trans x9⟩
theorem declares_card (v:Value)(w:World)(hv:TreeUp w v)(he:Env w):Calls Tryz.prog 5 #[v] w fun e w'=>e=.returned (.bool true)/\Ext w w':=by
 obtain⟨nm,dir,b,L,cap,rfl,h1,h2,h3⟩:=hv;exact declares_walk nm dir b L cap w h1 h2 h3 he
end Go.Proofs.YtjaeedbjknejdaaGreatDoor.Ex
