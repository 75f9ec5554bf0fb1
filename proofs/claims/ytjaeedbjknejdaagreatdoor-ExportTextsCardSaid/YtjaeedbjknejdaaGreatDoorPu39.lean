/- Packed texts: ExpTreD -/
import Derived.Test.YtjaeedbjknejdaaGreatDoorPu33
import Derived.Test.YtjaeedbjknejdaaGreatDoorPu36
import Derived.Test.YtjaeedbjknejdaaGreatDoorPu37
import Derived.Test.YtjaeedbjknejdaaGreatDoorPu38
set_option linter.unusedVariables false
set_option linter.unusedSimpArgs false
set_option maxHeartbeats 16000000
set_option maxRecDepth 100000
namespace Go.Proofs.YtjaeedbjknejdaaGreatDoor.Ex
open Go Go.RowKit Go.Sort Go.Lib Go.Shelf Fx Lx Tr At Pa Go.Proofs.YtjaeedbjknejdaaGreatDoor.Nm
theorem but_grown {b:Nat}{w w':World}(x:But b w w'):w.grownBy w' (some b):=⟨x.os,x.tape,x.output,x.size,fun k h1 h2=>x.block k h1 (fun e=>h2 (by rw[e]))⟩
theorem BarT.butT {T:Nat->Prop}{B b:Nat}{L:List Stm}{v:Value}{w w':World}{cs:Array Value}{TT:TypeId}(h:BarT T B L v w)(x:But b w w')(hT:T b)(hb:w.heap[b]? = some (.cells cs TT (0,0)))(hne:TT ≠ 67):BarT T B L v w':=by
  obtain⟨X,o,c⟩:=h;exact⟨X,row_keep o (but_grown x) (cel_ty hb) (nope (Ne.symm hne)),StmsC.keep (fun g hk hlt=>x.block g hlt (fun e=>hk.2.2 (by rw[e];exact hT))) (fun g hk _=>hk) L X c⟩
theorem treJ_set {w4 w8:World}{nm:ByteArray}{dir:Bool}{tb B:Nat}{L:List Stm}{v u:Value}(x:Ext w4 w8)(h:w8.heap[tb]? = some (.cells #[.string nm,.bool dir,u] 33 (0,0)))(hr:BarT (· = tb) B L v w8)(h1:w4.heap.size<=tb)(h2:w4.heap.size<=B)(h3:B<=w8.heap.size):
    TreJ w4 nm dir tb B L v (w8.setCell ⟨tb,2,none⟩ v) :=
  ⟨x.setCell h1 _,blk_set h 2 v,hr.set rfl h (by decide),h1,h2,by rw[size_setC];exact h3⟩
theorem treeR_good (g:Gr)(na ea ca:Option Addr)(nac eac cac:Nat)(o:Op5)(w:World)(ha:GrIn w (.agg #[.string g.name,.bool g.dir,.slice na g.N.length nac,.slice ea g.E.length eac,.slice ca g.C.length cac]) g)(hsm:GrSm g)(hg0:grE g=0)(ho:inR5 o=true):
    Calls Tryz.prog 11 #[.agg #[.string g.name,.bool g.dir,.slice na g.N.length nac,.slice ea g.E.length eac,.slice ca g.C.length cac],opV o] w fun e w'=>TreeR g (treeT g o) w.heap.size e w'/\Ext w w':=by
  have hok:=gr_ok hg0;have hvg:=fun(w5:World) (x:Ext w w5)=>validGR_any g _ w5 (ha.ext x) hsm
  have hvo:=fun(w5:World)=>vopD_any o w5
  have e5:=ok5 o;rw[ho] at e5;simp only[hg0] at hvg;simp only[e5] at hvo;have hop:=fun(w5:World)=>optsR_any o ho w5
  have hbk:=fun(w0 w5:World) (x0:Ext w w0) (wb:Nat) (hwb:w0.heap.size<=wb) (x:Ext w0 w5) (hb:w5.heap[wb]? = some (boxO 80 g na ea ca nac eac cac 0 0))=>blkR_all w0 g na ea ca nac eac cac wb (ha.ext x0) hsm hg0 hwb (msr g 0 0+1) (-1) 0 0 w5 (Nat.lt_succ_self _) (Nat.zero_le _) (Nat.zero_le _) x hb
  obtain⟨R,hR⟩:∃ R,R=treeT g o:=⟨_,rfl⟩;obtain⟨OL,hOL⟩:∃ L,L=optsL o:=⟨_,rfl⟩;obtain⟨BD,hBD⟩:∃ b,b=blkT g (-1) 0 0:=⟨_,rfl⟩;rw[<-hR];simp only[<-hOL] at hop;simp only[<-hBD] at hbk;obtain⟨BL,n2,k2⟩:=BD;dsimp only at hbk;have hcn:OL.length+BL.length<=100:=by have h:=opts_blk hok o;rw[<-hOL,<- hBD] at h;exact h
  obtain⟨i0,hi0,hz0,hz1,hz2⟩:=info_parts info_stm;have HVG:=Lib.hid hvg;have HVO:=Lib.hid hvo;have HOP:=Lib.hid hop;have HBK:=Lib.hid hbk;have HR:=Lib.hid hR;have HOL:=Lib.hid hOL;have HBD:=Lib.hid hBD;have HOK:=Lib.hid hok;have HA:=Lib.hid ha;have HO:=Lib.hid ho;have HG0:=Lib.hid hg0;clear hvg hvo hop hbk hR hOL hBD hok ha hsm hg0 ho e5;obtain⟨mo,ns,rs,mg,rd⟩:=o;unfold opV at HVO HOP ⊢;dsimp only at HVO HOP ⊢;obtain⟨q,hq⟩:∃ n,n=g.N.length:=⟨_,rfl⟩;obtain⟨el,hel⟩:∃ n,n=g.E.length:=⟨_,rfl⟩;obtain⟨cl,hcle⟩:∃ n,n=g.C.length:=⟨_,rfl⟩;have HQ:=Lib.hid hq.symm;have HEL:=Lib.hid hel.symm;have HCL:=Lib.hid hcle.symm;simp only[<-hq,<- hel,<- hcle] at HVG ⊢;clear hq hel hcle;go_enter Tryz.func11,Tryz.ntmps11
  go_upto_region 3 with(first
    | (go_at_call 31;refine(HVG.out _ ((((Ext.refl _).alloc _).alloc _).alloc _)).mono ?_;rintro e w3 ⟨rfl,x3⟩;have X3:=Lib.hid x3;obtain⟨o0,o1,o2,o3,o4⟩:=cells5g (At.heap_ext (new2 _ _ _ (by simp)) (((Ext.refl _).alloc _).trans x3):w3.heap[w.heap.size+1]? = some (.cells #[.int .i64 mo,.int .i64 ns,.int .i64 rs,.int .i64 mg,.int .i64 rd] 28 (0,0)));clear x3)
    | (go_at_call 32;refine(HVO.out _).mono ?_;rintro e w4 ⟨rfl,x4⟩;have X4:=Lib.hid (X3.out.trans x4);have HG4:=Lib.hid (two_newT X4.out);have HO4:=Lib.hid (At.heap_ext (new2 _ _ _ (by simp)) (((Ext.refl _).alloc _).trans X4.out):w4.heap[w.heap.size+1]? = some (.cells #[.int .i64 mo,.int .i64 ns,.int .i64 rs,.int .i64 mg,.int .i64 rd] 28 (0,0)));have HB4:=Lib.hid (At.heap_ext (heap_alloc_new w _) ((((Ext.refl _).alloc _).alloc _).trans X4.out));obtain⟨g0,g1,g2,g3,g4⟩:=cells5g HB4.out;clear x4))
  have X04:Hid (Ext w w4):=Lib.hid (((((Ext.refl _).alloc _).alloc _).alloc _).trans X4.out);clear o0 o1 o2 o3 o4;obtain⟨y0,y1,y2,y3,y4⟩:=cells5g HO4.out
  go_cut [6] from 7 to 79 (fun s6 wx=>∃ tb B v,s6=.pointer (some ⟨tb,0,none⟩)/\Hid (TreJ w4 g.name g.dir tb B OL v wx))
  case first =>
    go_wp2_with fail;refine wp_region_K (S:=fun w'=>w'.cell? ⟨w.heap.size,0,none⟩=some (.string g.name)/\w'.cell? ⟨w.heap.size,1,none⟩=some (.bool g.dir)/\w'.cell? ⟨w.heap.size+1,0,none⟩=some (.int .i64 mo)/\w'.cell? ⟨w.heap.size+1,1,none⟩=some (.int .i64 ns)/\w'.cell? ⟨w.heap.size+1,2,none⟩=some (.int .i64 rs)/\w'.cell? ⟨w.heap.size+1,3,none⟩=some (.int .i64 mg)/\w'.cell? ⟨w.heap.size+1,4,none⟩=some (.int .i64 rd)) (n:=8) (by kernel_rfl) (by exact⟨Ext.cell ((Ext.refl w4).drew) g0,Ext.cell ((Ext.refl w4).drew) g1,Ext.cell ((Ext.refl w4).drew) y0,Ext.cell ((Ext.refl w4).drew) y1,Ext.cell ((Ext.refl w4).drew) y2,Ext.cell ((Ext.refl w4).drew) y3,Ext.cell ((Ext.refl w4).drew) y4⟩) (fun hHeld=>?_)
    refine kT 8 0 ?_ rfl (by kernel_rfl) (fun _ _ _ h=>h) (Or.inl ⟨by rfl,?_⟩) hHeld ?_;rotate_left
    · (intro w' hSw;(try dsimp only at hSw);go_simp <;> with_reducible rfl)
    (try simp only[Act.put,q1,q2,q3])
    refine kT 8 1 ?_ rfl (by kernel_rfl) (fun _ _ _ h=>h) (Or.inl ⟨by rfl,?_⟩) hHeld ?_;rotate_left
    · (intro w' hSw;(try dsimp only at hSw);go_simp <;> with_reducible rfl)
    (try simp only[Act.put,q1,q2,q3])
    refine kT 8 2 ?_ rfl (by kernel_rfl) (fun _ _ _ h=>h) (Or.inl ⟨by rfl,?_⟩) hHeld ?_;rotate_left
    · (intro w' hSw;(try dsimp only at hSw);go_simp <;> with_reducible rfl)
    (try simp only[Act.put,q1,q2,q3])
    refine kT 8 3 ?_ rfl (by kernel_rfl) (fun _ _ _ h=>h) (Or.inl ⟨by rfl,?_⟩) hHeld ?_;rotate_left
    · (intro w' hSw;(try dsimp only at hSw);go_simp <;> with_reducible rfl)
    (try simp only[Act.put,q1,q2,q3])
    refine kT 8 4 ?_ rfl (by kernel_rfl) (fun _ _ _ h=>h) (Or.inl ⟨by rfl,?_⟩) hHeld ?_;rotate_left
    · (intro w' hSw;(try dsimp only at hSw);go_simp <;> with_reducible rfl)
    (try simp only[Act.put,q1,q2,q3])
    refine wpAnyK_two (i:=5) (j:=7) (oi:=_) (oj:=_) rfl rfl (by kernel_rfl) (fun KK hKK=>?_) (fun KK hKK=>?_)
    · go_simp
      (go_at_call 33;refine Calls.mono (by with_reducible exact HOP.out _) ?_;rintro e w6 ⟨⟨u,B,rfl,hB1,hB2,hbar⟩,x6⟩)
      have Z6:Hid (Ext w4 w6):=Lib.hid (((Ext.refl w4).drew).trans x6);have HB1:Hid (w4.heap.size<=B/\B<=w6.heap.size):=Lib.hid ⟨Nat.le_trans ((Ext.refl w4).drew).size hB1,hB2⟩;have BR6:Hid (BarT (fun _=>False) B OL u w6):=Lib.hid (BarT.of hbar (fun _ _ _ h=>h));obtain⟨va,vc,rfl,hvc1,hvc2⟩:=barT_val BR6.out;clear hbar x6 hB1 hB2;refine hKK.out _ _ (fun _=>?_) (fun hH=>?_)
      · (exact⟨Ext.cell (Z6.out) g0,Ext.cell (Z6.out) g1,Ext.cell (Z6.out) y0,Ext.cell (Z6.out) y1,Ext.cell (Z6.out) y2,Ext.cell (Z6.out) y3,Ext.cell (Z6.out) y4⟩)
      have hHeld2:=hH;clear hKK KK hHeld hH;have hHeld:=hHeld2 (by decide);clear hHeld2
      (try dsimp only at hHeld)
      (try simp only[Act.put,q1,q2,q3])
      refine kT 8 6 ?_ rfl (by kernel_rfl) (fun _ _ _ h=>h) (Or.inl ⟨by rfl,?_⟩) hHeld ?_;rotate_left
      · (intro w' hSw;(try dsimp only at hSw);go_simp <;> with_reducible rfl)
      (try simp only[Act.put,q1,q2,q3])
      refine wpAnyK_step (o:=_) (i:=7) rfl (by kernel_rfl) (fun KK hKK=>?_);go_simp;obtain⟨tb,htb⟩:∃ n,n=(w6).heap.size:=⟨_,rfl⟩;obtain⟨wt,hwt⟩:∃ w',w'=((w6).alloc (.cells #[.string ⟨#[]⟩,.bool false,.slice none 0 0] 33)):=⟨_,rfl⟩;have TX:Hid (wt.heap[tb]? = some (.cells #[.string ⟨#[]⟩,.bool false,.slice none 0 0] 33 (0,0))):=Lib.hid (by rw[hwt,htb];exact heap_alloc_new _ _);have HXT:Hid (Ext (w6) wt):=Lib.hid (by rw[hwt];exact((Ext.refl _).alloc _));have HTB:Hid (tb+1=wt.heap.size):=Lib.hid (by rw[hwt,htb];simp);have HTW:Hid (w4.heap.size<=tb):=Lib.hid (by have h1:=(Z6.out).size;omega);have ZT:Hid (Ext w4 wt):=Lib.hid ((Z6.out).trans HXT.out);have BRT:Hid (BarT (· = tb) B OL (.slice va OL.length vc) wt):=Lib.hid (BarT.turn BR6.out HXT.out (fun g _ h1 _ e=>by have e:g=tb:=e;rw[htb] at e;omega))
      have HBT:Hid (B<=wt.heap.size):=Lib.hid (Nat.le_trans HB1.out.2 HXT.out.size);rw[<-hwt,<- htb];clear hwt htb;refine hKK.out _ _ (fun _=>?_) (fun hH=>?_)
      · (exact⟨Ext.cell (ZT.out) g0,Ext.cell (ZT.out) g1,Ext.cell (ZT.out) y0,Ext.cell (ZT.out) y1,Ext.cell (ZT.out) y2,Ext.cell (ZT.out) y3,Ext.cell (ZT.out) y4⟩)
      have hHeld2:=hH;clear hKK KK hHeld hH;have hHeld:=hHeld2 (by decide);clear hHeld2
      (try dsimp only at hHeld)
      (try simp only[Act.put,q1,q2,q3])
      have q0:=(cells3t TX.out).1;have q1:=(cells3t TX.out).2.1;have q2:=(cells3t TX.out).2.2.1;have qf:=(cells3t TX.out).2.2.2;refine wpAnyK_step (o:=_) (i:=8) rfl (by kernel_rfl) (fun KK hKK=>?_);go_simp;refine hKK.out _ _ (fun h=>absurd rfl h) (fun _=>?_);clear hKK KK
      (try simp only[Act.put,q1,q2,q3])
      refine wpAnyK_done (by kernel_rfl) ?_ _;go_wp2_with fail
      go_meet
      exact⟨tb,B,_,rfl,Lib.hid (treJ_made (ZT.out) TX.out BRT.out HTW.out HB1.out.1 HBT.out)⟩
    go_simp;obtain⟨tb,htb⟩:∃ n,n=(w4).heap.size:=⟨_,rfl⟩;obtain⟨wt,hwt⟩:∃ w',w'=((w4).alloc (.cells #[.string ⟨#[]⟩,.bool false,.slice none 0 0] 33)).drew:=⟨_,rfl⟩;have TX:Hid (wt.heap[tb]? = some (.cells #[.string ⟨#[]⟩,.bool false,.slice none 0 0] 33 (0,0))):=Lib.hid (by rw[hwt,htb];exact heap_alloc_new _ _);have HXT:Hid (Ext (w4) wt):=Lib.hid (by rw[hwt];exact((Ext.refl _).alloc _).drew);have HTB:Hid (tb+1=wt.heap.size):=Lib.hid (by rw[hwt,htb];simp);have HTW:Hid (w4.heap.size<=tb):=Lib.hid (by have h1:=((Ext.refl w4)).size;omega);have ZT:Hid (Ext w4 wt):=Lib.hid (((Ext.refl w4)).trans HXT.out);rw[<-hwt,<- htb];clear hwt htb;refine hKK.out _ _ (fun _=>?_) (fun hH=>?_)
    · (exact⟨Ext.cell (ZT.out) g0,Ext.cell (ZT.out) g1,Ext.cell (ZT.out) y0,Ext.cell (ZT.out) y1,Ext.cell (ZT.out) y2,Ext.cell (ZT.out) y3,Ext.cell (ZT.out) y4⟩)
    have hHeld2:=hH;clear hKK KK hHeld hH;have hHeld:=hHeld2 (by decide);clear hHeld2
    (try dsimp only at hHeld)
    (try simp only[Act.put,q1,q2,q3])
    refine wpAnyK_step (o:=_) (i:=5) rfl (by kernel_rfl) (fun KK hKK=>?_);go_simp
    (go_at_call 33;refine Calls.mono (by with_reducible exact HOP.out _) ?_;rintro e w6 ⟨⟨u,B,rfl,hB1,hB2,hbar⟩,x6⟩)
    have Z6:Hid (Ext w4 w6):=Lib.hid ((ZT.out).trans x6);have HB1:Hid (w4.heap.size<=B/\B<=w6.heap.size):=Lib.hid ⟨Nat.le_trans (ZT.out).size hB1,hB2⟩;have TX6:=Lib.hid (At.heap_ext TX.out x6);have BR6:Hid (BarT (· = tb) B OL u w6):=Lib.hid (BarT.of hbar (fun g h1 _ e=>by have e:g=tb:=e;have h0:=HTB.out;have h2:wt.heap.size<=B:=hB1;omega));obtain⟨va,vc,rfl,hvc1,hvc2⟩:=barT_val BR6.out;clear hbar x6 hB1 hB2;refine hKK.out _ _ (fun _=>?_) (fun hH=>?_)
    · (exact⟨Ext.cell (Z6.out) g0,Ext.cell (Z6.out) g1,Ext.cell (Z6.out) y0,Ext.cell (Z6.out) y1,Ext.cell (Z6.out) y2,Ext.cell (Z6.out) y3,Ext.cell (Z6.out) y4⟩)
    have hHeld2:=hH;clear hKK KK hHeld hH;have hHeld:=hHeld2 (by decide);clear hHeld2
    (try dsimp only at hHeld)
    (try simp only[Act.put,q1,q2,q3])
    refine kT 8 6 ?_ rfl (by kernel_rfl) (fun _ _ _ h=>h) (Or.inl ⟨by rfl,?_⟩) hHeld ?_;rotate_left
    · (intro w' hSw;(try dsimp only at hSw);go_simp <;> with_reducible rfl)
    (try simp only[Act.put,q1,q2,q3])
    have q0:=(cells3t TX6.out).1;have q1:=(cells3t TX6.out).2.1;have q2:=(cells3t TX6.out).2.2.1;have qf:=(cells3t TX6.out).2.2.2;refine wpAnyK_step (o:=_) (i:=8) rfl (by kernel_rfl) (fun KK hKK=>?_);go_simp;refine hKK.out _ _ (fun h=>absurd rfl h) (fun _=>?_);clear hKK KK
    (try simp only[Act.put,q1,q2,q3])
    refine wpAnyK_done (by kernel_rfl) ?_ _;go_wp2_with fail
    go_meet
    exact⟨tb,B,_,rfl,Lib.hid (treJ_made (Z6.out) TX6.out BR6.out HTW.out HB1.out.1 HB1.out.2)⟩
  obtain⟨tb,B,v0,rfl,HJ⟩:=hcut;clear g0 g1 g2 g3 g4 y0 y1 y2 y3 y4;obtain⟨va0,vc0,rfl,-,-⟩:=barT_val HJ.out.row;have XC:Hid (Ext w wc):=Lib.hid (X04.out.trans HJ.out.X);obtain⟨g0,g1,g2,g3,g4⟩:=cells5g (At.heap_ext HB4.out HJ.out.X);obtain⟨ON,hON⟩:∃ n,n=OL.length:=⟨_,rfl⟩;rw[<-hON] at HJ;have hcn2:=hcn;clear hON
  go_upto_region 5 with fail
  obtain⟨wb,hwb⟩:∃ n,n=wc.heap.size:=⟨_,rfl⟩;obtain⟨w5,hw5⟩:∃ w',w'=wc.alloc (.cells #[.string g.name,.bool g.dir,.slice na q nac,.slice ea el eac,.slice ca cl cac,.int .i64 0,.int .i64 0] 80):=⟨_,rfl⟩;have X5:Hid (Ext wc w5):=Lib.hid (by rw[hw5];exact(Ext.refl _).alloc _);have BX5:Hid (w5.heap[wb]? = some (boxO 80 g na ea ca nac eac cac 0 0)):=Lib.hid (by unfold boxO;rw[hw5,hwb,HQ.out,HEL.out,HCL.out];exact heap_alloc_new wc _);have HWB:Hid (wc.heap.size<=wb/\wb+1=w5.heap.size):=Lib.hid ⟨by omega,by rw[hw5,hwb];simp⟩;have HTB:Hid (tb < wb/\B<=wb):=Lib.hid ⟨by rw[hwb];exact(Array.getElem?_eq_some_iff.1 HJ.out.tx).1,by rw[hwb];exact HJ.out.lo.2.2⟩;have BR5:Hid (BarT (fun g=>g=tb\/g=wb) B OL (.slice va0 ON vc0) w5):=Lib.hid (BarT.turn HJ.out.row X5.out (fun g _ h1 h2 e=>e.elim h2 (fun e=>by omega)))
  have TX5:=Lib.hid (At.heap_ext HJ.out.tx X5.out);rw[<-hw5,<- hwb];clear hw5 hwb g0 g1 g2 g3 g4;have t2:=(cells3t TX5.out).2.2.1;go_wp2_with fail;refine wp_region_K (S:=fun w'=>w'.cell? ⟨tb,2,none⟩=some (.slice va0 ON vc0)) (n:=6) (by kernel_rfl) (by exact Ext.cell ((Ext.refl w5).drew) t2) (fun hHeld=>?_);refine kT 6 0 ?_ rfl (by kernel_rfl) (fun _ _ _ h=>h) (Or.inl ⟨by rfl,?_⟩) hHeld ?_;rotate_left
  · (intro w' hSw;(try dsimp only at hSw);go_simp <;> with_reducible rfl)
  (try simp only[Act.put,q1,q2,q3])
  refine kT 6 1 ?_ rfl (by kernel_rfl) (fun _ _ _ h=>h) (Or.inl ⟨by rfl,?_⟩) hHeld ?_;rotate_left
  · (intro w' hSw;(try dsimp only at hSw);go_simp <;> with_reducible rfl)
  (try simp only[Act.put,q1,q2,q3])
  refine kT 6 2 ?_ rfl (by kernel_rfl) (fun _ _ _ h=>h) (Or.inl ⟨by rfl,?_⟩) hHeld ?_;rotate_left
  · (intro w' hSw;(try dsimp only at hSw);go_simp <;> with_reducible rfl)
  (try simp only[Act.put,q1,q2,q3])
  refine wpAnyK_step (o:=_) (i:=3) rfl (by kernel_rfl) (fun KK hKK=>?_);go_simp
  (go_at_call 34;refine Calls.mono (by exact HBK.out wc _ XC.out wb HWB.out.1 X5.out.drew (At.heap_ext BX5.out ((Ext.refl _).drew))) ?_;rintro e w7 ⟨⟨b,bc,rfl,hmp,hbl,hbc⟩,x7,hbx7⟩;have Z7:Hid (Ext w4 w7):=Lib.hid (But.fresh (HJ.out.X.trans X5.out.drew) x7 (Nat.le_trans HJ.out.X.size HWB.out.1));have BX7:=Lib.hid hbx7;have BR7:Hid (BarT (fun g=>g=tb\/g=wb) B OL (.slice va0 ON vc0) w7):=Lib.hid (BarT.butT (BR5.out.turn (Ext.refl w5).drew (fun _ _ _ h=>h)) x7 (.inr rfl) (show(w5.drew).heap[wb]? = some (.cells #[.string g.name,.bool g.dir,.slice na g.N.length nac,.slice ea g.E.length eac,.slice ca g.C.length cac,.int .i64 ((0:Nat):Int),.int .i64 ((0:Nat):Int)] 80 (0,0)) from BX5.out) (by decide));have HB7:Hid (B<=w7.heap.size):=Lib.hid (Nat.le_trans HTB.out.2 (Nat.le_of_lt (Array.getElem?_eq_some_iff.1 hbx7).1));have HOW:=Lib.hid (barT_own BR5.out);have MP7:Hid (StmsP (fun g=>B<=g/\some g ≠ (Value.slice va0 ON vc0).ownBlock/\¬ (g=tb\/g=wb)) w7 b BL):=Lib.hid (StmsP.wide hmp (fun g h1=>by have h1:w5.heap.size<=g:=h1;have h2:=HWB.out.2;have h3:=HTB.out;exact⟨by omega,fun e=>by have:=(HOW.out g e.symm).2;omega,by omega⟩));have TX7:=Lib.hid ((x7.block tb (Array.getElem?_eq_some_iff.1 TX5.out).1 (by have:=HTB.out.1;omega)).trans TX5.out);have v2:=(cells3t TX7.out).2.2.1;clear x7 hbx7 hmp)
  refine hKK.out _ _ (fun _=>?_) (fun hH=>?_)
  · (exact v2)
  have hHeld2:=hH;clear hKK KK hHeld hH;have hHeld:=hHeld2 (by decide);clear hHeld2
  (try dsimp only at hHeld)
  (try simp only[Act.put,q1,q2,q3])
  refine wpAnyK_step (o:=_) (i:=4) rfl (by kernel_rfl) (fun KK hKK=>?_);refine step_append_stmsT (T:=fun g=>g=tb\/g=wb) (by rfl) _ _ 31 (by rfl) B Tryz.underlying31 hi0 hz0 hz1 hz2 (by decide) OL BL (.slice va0 ON vc0) b bc (by rfl) (by rfl) BR7.out MP7.out (by omega) HB7.out ?_;intro v8 w8 hb8 hg8 hl8;have Z8:Hid (Ext w4 w8):=Lib.hid (ext_grown Z7.out hg8 (fun g e=>Nat.le_trans HJ.out.lo.2.1 (hl8 g e)));have TX8:Hid (w8.heap[tb]? = some (.cells #[.string g.name,.bool g.dir,(.slice va0 ON vc0)] 33 (0,0))):=Lib.hid (by obtain⟨X9,o9,-⟩:=BR7.out;exact cel_keep TX7.out hg8 (row_ty o9) (nope (by decide)));have BX8:Hid (w8.heap[wb]? = some (boxO 80 g na ea ca nac eac cac n2 k2)):=Lib.hid (by obtain⟨X9,o9,-⟩:=BR7.out;exact cel_keep (show w7.heap[wb]? = some (.cells _ 80 (0,0)) from BX7.out) hg8 (row_ty o9) (nope (by decide)))
  have HB8:Hid (B<=w8.heap.size):=Lib.hid (Nat.le_trans HB7.out hg8.size);have BR8:Hid (BarT (· = tb) B (OL++BL) v8 w8):=Lib.hid (BarT.turn hb8 (Ext.refl _) (fun g _ _ h e=>h (.inl e)));obtain⟨va,vc,hve,hvc1,hvc2⟩:=barT_val hb8;obtain⟨LN,hLN⟩:∃ n,n=(OL++BL).length:=⟨_,rfl⟩;rw[<-hLN] at hve;subst hve;clear hLN;obtain⟨-,-,u2,uf⟩:=cells3t TX8.out;clear hb8 hg8 hl8;refine hKK.out _ _ (fun _=>?_) (fun hH=>?_)
  · (exact u2)
  have hHeld2:=hH;clear hKK KK hHeld hH;have hHeld:=hHeld2 (by decide);clear hHeld2
  (try dsimp only at hHeld)
  (try simp only[Act.put,q1,q2,q3])
  refine wpAnyK_step (o:=_) (i:=5) rfl (by kernel_rfl) (fun KK hKK=>?_);go_simp;refine hKK.out _ _ (fun _=>?_) (fun hH=>?_)
  · (exact u2)
  have hHeld2:=hH;clear hKK KK hHeld hH;have hHeld:=hHeld2 (by decide);clear hHeld2
  (try dsimp only at hHeld)
  (try simp only[Act.put,q1,q2,q3])
  refine wpAnyK_step (o:=_) (i:=6) rfl (by kernel_rfl) (fun KK hKK=>?_);go_simp;refine hKK.out _ _ (fun h=>absurd rfl h) (fun _=>?_);clear hKK KK
  (try simp only[Act.put,q1,q2,q3])
  refine wpAnyK_done (by kernel_rfl) ?_ _;obtain⟨wd,hwd⟩:∃ w',w'=w8.setCell ⟨tb,2,none⟩ (.slice va LN vc):=⟨_,rfl⟩;have HJD:Hid (TreJ w4 g.name g.dir tb B (OL++BL) (.slice va LN vc) wd):=Lib.hid (by rw[hwd];exact treJ_set Z8.out TX8.out BR8.out HJ.out.lo.1 HJ.out.lo.2.1 HB8.out);have HBD2:Hid (wd.heap[wb]? = some (boxO 80 g na ea ca nac eac cac n2 k2)):=Lib.hid (by rw[hwd,Below.heap_setCell _ _ _ _ (show wb ≠ tb by have:=HTB.out.1;omega)];exact BX8.out);rw[<-hwd];clear hwd;have XD:Hid (Ext w wd):=Lib.hid (X04.out.trans HJD.out.X);have HBC:=Lib.hid (At.heap_ext HB4.out HJD.out.X);have HGC:=Lib.hid (At.heap_ext HG4.out HJD.out.X)
  obtain⟨b0,b1,b2,b3,b4,b5,b6⟩:=cells7w (show wd.heap[wb]? = some (.cells #[.string g.name,.bool g.dir,.slice na g.N.length nac,.slice ea g.E.length eac,.slice ca g.C.length cac,.int .i64 n2,.int .i64 k2] 80 (0,0)) from HBD2.out);clear b0 b1 b2 b3 b4;obtain⟨g0,g1,g2,g3,g4⟩:=cells5g HBC.out;have HN2:Hid ((blkT g (-1) 0 0).2=(n2,k2)):=Lib.hid (by rw[<-HBD.out]);by_cases h1:n2 < q
  · have hr:Hid (R=.error 1):=Lib.hid (by rw[HR.out];exact tree_short HG0.out HO.out (.inl (by rw[HN2.out,HQ.out];exact h1)));have f1:(n2:Int) < (q:Int):=by omega
    have f2:decide ((n2:Int) < (q:Int))=true:=decide_eq_true f1;have f2':decide (n2 < q)=true:=decide_eq_true h1;go_wp2_with fail
    go_quiet (fail)
    obtain⟨w9,hw9⟩:∃ w9,w9=wd.drewN nq:=⟨_,rfl⟩;have X9:Hid (Ext wd w9):=Lib.hid (by rw[hw9];exact(Ext.refl wd).drewN _);rw[<-hw9];clear hw9;have HZ9:=Lib.hid (At.heap_ext HGC.out X9.out);obtain⟨z0,z1,z2,zf⟩:=cells3t HZ9.out;go_wp2
    (try simp only[Exit.inBlock,Exit.then])
    refine bodyPost_ret (results_tr rfl _ _ (w.heap.size+1+1) _ (.int .i64 1) rfl rfl rfl (set3t HZ9.out _ _ _)) rfl ?_;rw[hr.out];exact⟨rfl,ext3t (XD.out.trans X9.out) (by omega) _ _ _⟩
  have f1:¬ (n2:Int) < (q:Int):=by omega
  have f2:decide ((n2:Int) < (q:Int))=false:=decide_eq_false f1;have f2':decide (n2 < q)=false:=decide_eq_false h1;by_cases h2:k2 < cl
  · have hr:Hid (R=.error 1):=Lib.hid (by rw[HR.out];exact tree_short HG0.out HO.out (.inr (by rw[HN2.out,HCL.out];exact h2)));have f3:(k2:Int) < (cl:Int):=by omega
    have f4:decide ((k2:Int) < (cl:Int))=true:=decide_eq_true f3;have f4':decide (k2 < cl)=true:=decide_eq_true h2;go_wp2_with fail
    go_quiet (fail)
    obtain⟨w9,hw9⟩:∃ w9,w9=wd.drewN nq:=⟨_,rfl⟩;have X9:Hid (Ext wd w9):=Lib.hid (by rw[hw9];exact(Ext.refl wd).drewN _);rw[<-hw9];clear hw9;have HZ9:=Lib.hid (At.heap_ext HGC.out X9.out);obtain⟨z0,z1,z2,zf⟩:=cells3t HZ9.out;go_wp2
    (try simp only[Exit.inBlock,Exit.then])
    refine bodyPost_ret (results_tr rfl _ _ (w.heap.size+1+1) _ (.int .i64 1) rfl rfl rfl (set3t HZ9.out _ _ _)) rfl ?_;rw[hr.out];exact⟨rfl,ext3t (XD.out.trans X9.out) (by omega) _ _ _⟩
  have f3:¬ (k2:Int) < (cl:Int):=by omega
  have f4:decide ((k2:Int) < (cl:Int))=false:=decide_eq_false f3;have f4':decide (k2 < cl)=false:=decide_eq_false h2;have hr:Hid (R=if validE g.name (bodyT g ⟨mo,ns,rs,mg,rd⟩) ≠ 0 then .error (validE g.name (bodyT g ⟨mo,ns,rs,mg,rd⟩)) else .ok (bodyT g ⟨mo,ns,rs,mg,rd⟩)):=Lib.hid (by rw[HR.out];exact tree_long HG0.out HO.out (by rw[HN2.out,HQ.out,HCL.out];omega));clear h1 h2;go_wp2_with fail
  go_quiet (fail)
  obtain⟨w9,hw9⟩:∃ w9,w9=wd.drewN nq:=⟨_,rfl⟩;have X9:Hid (Ext wd w9):=Lib.hid (by rw[hw9];exact(Ext.refl wd).drewN _);rw[<-hw9];clear hw9 g0 g1 g2 g3 g4 b5 b6;have HJ9:=Lib.hid (HJD.out.ext X9.out);obtain⟨g0,g1,g2,g3,g4⟩:=cells5g (At.heap_ext HBC.out X9.out);go_wp2_with fail;clear g0 g1 g2 g3 g4 f1 f2 f3 f4 f2' f4';have hel256:el<=256:=by rw[<-HEL.out];exact HOK.out.el
  go_loopw [8] (fun i' wr=>∃ (i:Nat) (v:Value),i<=el/\i'=.int .i64 i/\Hid (TreJ w4 g.name g.dir tb B (OL++BL++(g.E.take i).map (edgeS g.N)) v wr)) (fun i' _=>el - (RowKit.intOf i').toNat)
  case atStart=>exact⟨0,_,Nat.zero_le _,rfl,Lib.hid (by simpa using HJ9.out)⟩
  obtain⟨i,v2,hi,rfl,HC⟩:=hrel;have XR:Hid (Ext w wr):=Lib.hid (X04.out.trans HC.out.X);have HBR:=Lib.hid (At.heap_ext HB4.out HC.out.X);obtain⟨g0,g1,g2,g3,g4⟩:=cells5g HBR.out;have d0:(0:Int)<=(i:Int):=by omega
  by_cases hlt:i < el
  · have hkl:i < g.E.length:=by rw[HEL.out];exact hlt
    have d1:(i:Int) < (el:Int):=by omega
    obtain⟨na',nac',ea',eac',ca',cac',hv,-,hed,-⟩:=HA.out;cases hv;obtain⟨ge,oe,rfl,q0,q1,q2,q3,q4,q5,q6⟩:=hed i hkl;have hEX:(g.E.take (i+1)).map (edgeS g.N)=(g.E.take i).map (edgeS g.N)++[edgeS g.N g.E[i]]:=by rw[List.take_add_one,List.getElem?_eq_getElem hkl,List.map_append];rfl
    have hev:=HOK.out.ed g.E[i] (List.getElem_mem hkl);have hcd:=fun(w5:World) (x:Ext w w5)=>edgeR_any g _ g.E[i] w5 (HA.out.ext x) hev HOK.out
    obtain⟨x,hx⟩:∃ x,x=g.E[i]:=⟨_,rfl⟩;rw[<-hx] at q0 q1 q2 q3 q4 q5 q6 hEX;simp only[<-hx,HQ.out,HEL.out,HCL.out] at hcd;have HEX:=Lib.hid hEX;clear hx hed hev hEX;obtain⟨sx,hsx⟩:∃ s,s=edgeS g.N x:=⟨_,rfl⟩;rw[<-hsx] at HEX;simp only[<-hsx] at hcd;clear hsx;obtain⟨xa,xb,xp,xq,xl,xw,xn⟩:=x;dsimp only at q0 q1 q2 q3 q4 q5 q6 hcd;have HK7:=Lib.hid (fun(w':World) (x:Ext w w')=>And.intro (x.cell q0) (And.intro (x.cell q1) (And.intro (x.cell q2) (And.intro (x.cell q3) (And.intro (x.cell q4) (And.intro (x.cell q5) (x.cell q6)))))));obtain⟨k0,k1,k2',k3,k4,k5,k6⟩:=HK7.out _ XR.out;clear q0 q1 q2 q3 q4 q5 q6;have HCD:=Lib.hid hcd;clear hcd;obtain⟨X,own,hcc⟩:=HC.out.row;obtain⟨LN,hLN⟩:∃ n,n=(OL++BL++(g.E.take i).map (edgeS g.N)).length:=⟨_,rfl⟩;rw[<-hLN] at own
    have hLb:LN<=400:=by rw[hLN];have:=HOK.out.el;simp;omega
    obtain⟨va,vc,rfl,hvc1,hvc2⟩:=row_val own;have OW:=Lib.hid own;have OC:=Lib.hid hcc;have HLN:=Lib.hid hLN;clear own hcc hLN;go_wp2_with fail;have t2:=(cells3t HC.out.tx).2.2.1
    refine wp_region_K (S:=fun w'=>w'.cell? ⟨tb,2,none⟩=some ((.slice va LN vc))/\w'.cell? ⟨w.heap.size,0,none⟩=some (.string g.name)/\w'.cell? ⟨w.heap.size,1,none⟩=some (.bool g.dir)/\w'.cell? ⟨w.heap.size,2,none⟩=some (.slice na q nac)/\w'.cell? ⟨w.heap.size,3,none⟩=some (.slice (some ⟨ge,oe,none⟩) el eac)/\w'.cell? ⟨w.heap.size,4,none⟩=some (.slice ca cl cac)/\w'.cell? ⟨ge,oe+i * 7,none⟩=some (.int .i64 xa)/\w'.cell? ⟨ge,oe+i * 7+1,none⟩=some (.int .i64 xb)/\w'.cell? ⟨ge,oe+i * 7+2,none⟩=some (.int .i64 xp)/\w'.cell? ⟨ge,oe+i * 7+3,none⟩=some (.int .i64 xq)/\w'.cell? ⟨ge,oe+i * 7+4,none⟩=some (.string xl)/\w'.cell? ⟨ge,oe+i * 7+5,none⟩=some (.int .i64 xw)/\w'.cell? ⟨ge,oe+i * 7+6,none⟩=some (.int .i64 xn)) (n:=12) (by kernel_rfl) (by exact⟨Ext.cell ((Ext.refl wr).drew) t2,Ext.cell ((Ext.refl wr).drew) g0,Ext.cell ((Ext.refl wr).drew) g1,Ext.cell ((Ext.refl wr).drew) g2,Ext.cell ((Ext.refl wr).drew) g3,Ext.cell ((Ext.refl wr).drew) g4,Ext.cell ((Ext.refl wr).drew) k0,Ext.cell ((Ext.refl wr).drew) k1,Ext.cell ((Ext.refl wr).drew) k2',Ext.cell ((Ext.refl wr).drew) k3,Ext.cell ((Ext.refl wr).drew) k4,Ext.cell ((Ext.refl wr).drew) k5,Ext.cell ((Ext.refl wr).drew) k6⟩) (fun hHeld=>?_)
    refine kT 12 0 ?_ rfl (by kernel_rfl) (fun _ _ _ h=>h) (Or.inl ⟨by rfl,?_⟩) hHeld ?_;rotate_left
    · (intro w' hSw;(try dsimp only at hSw);go_simp <;> with_reducible rfl)
    (try simp only[Act.put,q1,q2,q3])
    refine kT 12 1 ?_ rfl (by kernel_rfl) (fun _ _ _ h=>h) (Or.inl ⟨by rfl,?_⟩) hHeld ?_;rotate_left
    · (intro w' hSw;(try dsimp only at hSw);go_simp <;> with_reducible rfl)
    (try simp only[Act.put,q1,q2,q3])
    refine kT 12 2 ?_ rfl (by kernel_rfl) (fun _ _ _ h=>h) (Or.inl ⟨by rfl,?_⟩) hHeld ?_;rotate_left
    · (intro w' hSw;(try dsimp only at hSw);go_simp <;> with_reducible rfl)
    (try simp only[Act.put,q1,q2,q3])
    refine kT 12 3 ?_ rfl (by kernel_rfl) (fun _ _ _ h=>h) (Or.inl ⟨by rfl,?_⟩) hHeld ?_;rotate_left
    · (intro w' hSw;(try dsimp only at hSw);go_simp <;> with_reducible rfl)
    (try simp only[Act.put,q1,q2,q3])
    refine kT 12 4 ?_ rfl (by kernel_rfl) (fun _ _ _ h=>h) (Or.inl ⟨by rfl,?_⟩) hHeld ?_;rotate_left
    · (intro w' hSw;(try dsimp only at hSw);go_simp <;> with_reducible rfl)
    (try simp only[Act.put,q1,q2,q3])
    refine kT 12 5 ?_ rfl (by kernel_rfl) (fun _ _ _ h=>h) (Or.inl ⟨by rfl,?_⟩) hHeld ?_;rotate_left
    · (intro w' hSw;(try dsimp only at hSw);go_simp <;> with_reducible rfl)
    (try simp only[Act.put,q1,q2,q3])
    refine kT 12 6 ?_ rfl (by kernel_rfl) (fun _ _ _ h=>h) (Or.inl ⟨by rfl,?_⟩) hHeld ?_;rotate_left
    · (intro w' hSw;(try dsimp only at hSw);go_simp <;> with_reducible rfl)
    (try simp only[Act.put,q1,q2,q3])
    refine kT 12 7 ?_ rfl (by kernel_rfl) (fun _ _ _ h=>h) (Or.inl ⟨by rfl,?_⟩) hHeld ?_;rotate_left
    · (intro w' hSw;(try dsimp only at hSw);go_simp <;> with_reducible rfl)
    (try simp only[Act.put,q1,q2,q3])
    refine wpAnyK_step (o:=_) (i:=8) rfl (by kernel_rfl) (fun KK hKK=>?_);go_simp
    (go_at_call 35;refine Calls.mono (by with_reducible exact HCD.out _ XR.out.drew) ?_;rintro e w6 ⟨⟨u,rfl,hu⟩,x6⟩;obtain⟨xs,rfl,hst⟩:=hu;obtain⟨r5,rc5,a5,ac5,b5,bc5,rfl,hrest⟩:=(stmP_mk _ _ _ _).1 hst;have HST:=Lib.hid hst;clear hst hrest;have X6:Hid (Ext wr w6):=Lib.hid ((Ext.refl wr).drew.trans x6);have XA:Hid (Ext wr (w6.alloc (.cells #[.int .i64 sx.kind,.string sx.name,.slice r5 sx.refs.length rc5,.slice a5 sx.attrs.length ac5,.slice b5 sx.body.length bc5] 67))):=Lib.hid (X6.out.alloc _);clear x6)
    refine hKK.out _ _ (fun _=>?_) (fun hH=>?_)
    · (exact⟨Ext.cell (X6.out) t2,Ext.cell (X6.out) g0,Ext.cell (X6.out) g1,Ext.cell (X6.out) g2,Ext.cell (X6.out) g3,Ext.cell (X6.out) g4,Ext.cell (X6.out) k0,Ext.cell (X6.out) k1,Ext.cell (X6.out) k2',Ext.cell (X6.out) k3,Ext.cell (X6.out) k4,Ext.cell (X6.out) k5,Ext.cell (X6.out) k6⟩)
    have hHeld2:=hH;clear hKK KK hHeld hH;have hHeld:=hHeld2 (by decide);clear hHeld2
    (try dsimp only at hHeld)
    (try simp only[Act.put,q1,q2,q3])
    refine wpAnyK_step (o:=_) (i:=9) rfl (by kernel_rfl) (fun KK hKK=>?_);go_simp;refine hKK.out _ _ (fun _=>?_) (fun hH=>?_)
    · (exact⟨Ext.cell ((X6.out.alloc _)) t2,Ext.cell ((X6.out.alloc _)) g0,Ext.cell ((X6.out.alloc _)) g1,Ext.cell ((X6.out.alloc _)) g2,Ext.cell ((X6.out.alloc _)) g3,Ext.cell ((X6.out.alloc _)) g4,Ext.cell ((X6.out.alloc _)) k0,Ext.cell ((X6.out.alloc _)) k1,Ext.cell ((X6.out.alloc _)) k2',Ext.cell ((X6.out.alloc _)) k3,Ext.cell ((X6.out.alloc _)) k4,Ext.cell ((X6.out.alloc _)) k5,Ext.cell ((X6.out.alloc _)) k6⟩)
    have hHeld2:=hH;clear hKK KK hHeld hH;have hHeld:=hHeld2 (by decide);clear hHeld2
    (try dsimp only at hHeld)
    (try simp only[Act.put,q1,q2,q3])
    refine wpAnyK_step (o:=_) (i:=10) rfl (by kernel_rfl) (fun KK hKK=>?_);refine step_append_lies _ (by rfl) _ _ 31 (by rfl) B 67 i0 _ 5 96 Tryz.underlying31 hi0 hz0 hz1 hz2 rfl (by decide) _ _ _ (by rfl) (At.own_ext OW.out XA.out) ⟨w6.heap.size,0,none⟩ 1 1 [.int .i64 sx.kind,.string sx.name,.slice r5 sx.refs.length rc5,.slice a5 sx.attrs.length ac5,.slice b5 sx.body.length bc5] (by rfl) (by rfl) (World.news_of_block (cs:=#[.int .i64 sx.kind,.string sx.name,.slice r5 sx.refs.length rc5,.slice a5 sx.attrs.length ac5,.slice b5 sx.body.length bc5]) (t:=67) (fr:=(0,0)) (heap_alloc_new w6 _)) (by intro u hu;simp at hu;rcases hu with rfl | rfl | rfl | rfl | rfl <;> rfl) (by omega) (by unfold maxLen;omega) (by omega) (by have:=HC.out.lo.2.2;have:=XA.out.size;omega) _ rfl ?_;intro g7 c7 w7 hown7 hgrow7 hor7 _
    have NX:=Lib.hid (treJ_next HC.out HLN.out OW.out OC.out XA.out (StmP.keep (fun g _ hlt=>((Ext.refl w6).alloc _).block g hlt) (fun g hk _=>by have hk:wr.heap.size<=g:=hk;omega) _ _ HST.out) rfl hgrow7 hown7 hor7);obtain⟨-,-,v2,vf⟩:=cells3t NX.out.2;have XW7:Hid (Ext w4 w7):=Lib.hid (ext_grown (HC.out.X.trans XA.out) hgrow7 (fun k e=>Nat.le_trans HC.out.lo.2.1 (OW.out.lt k e).1));obtain⟨h0,h1,h2,h3,h4⟩:=cells5g (At.heap_ext HB4.out XW7.out);obtain⟨p0,p1,p2,p3,p4,p5,p6⟩:=HK7.out _ (X04.out.trans XW7.out);clear hown7 hgrow7 hor7;refine hKK.out _ _ (fun _=>?_) (fun hH=>?_)
    · (exact⟨v2,h0,h1,h2,h3,h4,p0,p1,p2,p3,p4,p5,p6⟩)
    have hHeld2:=hH;clear hKK KK hHeld hH;have hHeld:=hHeld2 (by decide);clear hHeld2
    (try dsimp only at hHeld)
    (try simp only[Act.put,q1,q2,q3])
    refine wpAnyK_step (o:=_) (i:=11) rfl (by kernel_rfl) (fun KK hKK=>?_);go_simp;refine hKK.out _ _ (fun _=>?_) (fun hH=>?_)
    · (exact⟨v2,h0,h1,h2,h3,h4,p0,p1,p2,p3,p4,p5,p6⟩)
    have hHeld2:=hH;clear hKK KK hHeld hH;have hHeld:=hHeld2 (by decide);clear hHeld2
    (try dsimp only at hHeld)
    (try simp only[Act.put,q1,q2,q3])
    refine wpAnyK_step (o:=_) (i:=12) rfl (by kernel_rfl) (fun KK hKK=>?_);go_simp;refine hKK.out _ _ (fun h=>absurd rfl h) (fun _=>?_);clear hKK KK
    (try simp only[Act.put,q1,q2,q3])
    refine wpAnyK_done (by kernel_rfl) ?_ _;go_wp2
    go_roundw
    case rel=>exact⟨i+1,_,by omega,by go_num,Lib.hid (by rw[HEX.out,<- List.append_assoc];exact NX.out.1)⟩
    case measure=>simp[RowKit.intOf];omega
  have d1:¬ (i:Int) < (el:Int):=by omega
  obtain⟨BN,hBN⟩:∃ L,L=bodyT g ⟨mo,ns,rs,mg,rd⟩:=⟨_,rfl⟩
  have hbody:OL++BL++(g.E.take i).map (edgeS g.N)=BN:=by
    rw[hBN];unfold bodyT;rw[<-HOL.out,<- HBD.out,List.take_of_length_le (by rw[HEL.out];omega)]
  rw[<-hBN] at hr;obtain⟨b,c,rfl,hst,hbl,hbc⟩:=treJ_out (w:=w4) HC.out (Nat.le_refl _);rw[hbody] at HC hst hbl;have hcb:cntL BN<=1099511627776:=by rw[hBN];exact Nat.le_trans (cnt_body HOK.out _) (by decide)
  have hbb:BigL BN:=by rw[hBN];exact body_big HOK.out HO.out
  have hnb:g.name.size<=9223372036854775807:=Nat.le_trans (name16c HOK.out.nm) (by decide);have hvl:=validR_big g.name g.dir b BN c wr.heap.size wr (Nat.le_refl _) (stmsV_at hst) (by rw[cntL_flat];exact hcb) hbb hnb;obtain⟨V,hV⟩:∃ V,V=validE g.name BN:=⟨_,rfl⟩;rw[<-hV] at hvl hr;obtain⟨t0,t1,t2,-⟩:=cells3t HC.out.tx;have HXR4:=Lib.hid HC.out.X;have XRW:Hid (Ext w wr):=Lib.hid (X04.out.trans HC.out.X);have HST:=Lib.hid hst;have HBL:=Lib.hid (And.intro hbl hbc);have HVL:=Lib.hid hvl;have HTX:=Lib.hid HC.out.tx;obtain⟨BNL,hBNL⟩:∃ n,n=BN.length:=⟨_,rfl⟩;have HBNL:=Lib.hid hBNL;rw[<-hBNL] at HVL t2 HTX HBL;clear hbody hBN hV hst hbl hbc hvl hcb hbb hnb hBNL HC;by_cases hv0:V=0
  · subst hv0;have hr2:Hid (R=.ok BN):=Lib.hid (by rw[hr.out,if_neg (by decide)]);go_wp2_with (go_at_call 15;refine Calls.mono (by exact HVL.out) ?_;rintro e w8 ⟨rfl,x8⟩;have X8:=Lib.hid x8;have HZ8:=Lib.hid (At.heap_ext HG4.out ((HXR4.out.trans x8)));obtain⟨z0,z1,z2,zf⟩:=cells3t HZ8.out;obtain⟨t0,t1,t2,-⟩:=cells3t (At.heap_ext HTX.out x8);clear x8)
    (try simp only[Exit.inBlock,Exit.then])
    refine bodyPost_ret (results_tr rfl _ _ (w.heap.size+1+1) _ (.int .i64 0) rfl rfl rfl (set3t HZ8.out _ _ _)) rfl ?_;rw[hr2.out];exact⟨⟨b,c,by rw[<-HBNL.out],StmsP.wide (stmsP_turn3 HST.out X8.out (Array.getElem?_eq_some_iff.1 HG4.out).1) (fun k hk=>Nat.le_trans X04.out.size hk),by rw[<-HBNL.out];exact HBL.out.1,HBL.out.2⟩,ext3t (XRW.out.trans X8.out) (by omega) _ _ _⟩
  obtain⟨f1,f2⟩:=nfacts hv0;have hr2:Hid (R=.error V):=Lib.hid (by rw[hr.out,if_pos hv0]);go_wp2_with (go_at_call 15;refine Calls.mono (by exact HVL.out) ?_;rintro e w8 ⟨rfl,x8⟩;have X8:=Lib.hid x8;have HZ8:=Lib.hid (At.heap_ext HG4.out ((HXR4.out.trans x8)));obtain⟨z0,z1,z2,zf⟩:=cells3t HZ8.out;clear x8)
  (try simp only[Exit.inBlock,Exit.then])
  refine bodyPost_ret (results_tr rfl _ _ (w.heap.size+1+1) _ (.int .i64 V) rfl rfl rfl (set3t HZ8.out _ _ _)) rfl ?_;rw[hr2.out];exact⟨rfl,ext3t (XRW.out.trans X8.out) (by omega) _ _ _⟩
end Go.Proofs.YtjaeedbjknejdaaGreatDoor.Ex
