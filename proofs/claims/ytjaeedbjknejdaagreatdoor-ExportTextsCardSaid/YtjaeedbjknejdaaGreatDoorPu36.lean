/- Packed texts: ExpBlkR -/
import Derived.Test.YtjaeedbjknejdaaGreatDoorPu29
import Derived.Test.YtjaeedbjknejdaaGreatDoorPu35
set_option linter.unusedVariables false
set_option linter.unusedSimpArgs false
set_option maxHeartbeats 16000000
set_option maxRecDepth 100000
namespace Go.Proofs.YtjaeedbjknejdaaGreatDoor.Ex
open Go.RowKit Go.Sort Go.Lib Go.Shelf Fx Lx Tr At Pa Go.Proofs.YtjaeedbjknejdaaGreatDoor.Nm
def BlkRC (w00:World)(g:Gr)(na ea ca:Option Addr)(nac eac cac wb M:Nat):Prop :=
  ∀ (p:Int) (n k:Nat) (w:World),msr g n k < M->n<=g.N.length->k<=g.C.length->Ext w00 w->w.heap[wb]? = some (boxO 80 g na ea ca nac eac cac n k) ->
    Calls Tryz.prog 34 #[.pointer (some ⟨wb,0,none⟩),.int .i64 p] w fun e w'=>(∃ a c,e=.returned (.slice a (blkT g p n k).1.length c)/\StmsP (w.heap.size <= ·) w' a (blkT g p n k).1/\(blkT g p n k).1.length<=c/\c<=maxLen)/\But wb w w'/\w'.heap[wb]? = some (boxO 80 g na ea ca nac eac cac (blkT g p n k).2.1 (blkT g p n k).2.2)
theorem BarAt.set {B b j:Nat}{L:List Stm}{v u:Value}{w:World}(h:BarAt B 0 L v w)(hb:b < B):BarAt B 0 L v (w.setCell ⟨b,j,none⟩ u):=by
  obtain⟨X,o,c⟩:=h.own;refine⟨X,own_but (c:=b) o (But.setCell (c:=b) (But.refl b w) ⟨b,j,none⟩ rfl u) hb,StmsC.keep (fun g hk hlt=>Below.heap_setCell _ _ _ _ ?_) (fun g hk _=>hk) _ X c⟩;intro e;have e:g=b:=e;rcases hk with hk | hk
  · omega
  omega
theorem blkR_step (w00:World)(g:Gr)(na ea ca:Option Addr)(nac eac cac wb M:Nat)(ha:GrIn w00 (.agg #[.string g.name,.bool g.dir,.slice na g.N.length nac,.slice ea g.E.length eac,.slice ca g.C.length cac]) g)(hsm:GrSm g)(hg0:grE g=0)(hwb:w00.heap.size<=wb)(ih:BlkRC w00 g na ea ca nac eac cac wb M):BlkRC w00 g na ea ca nac eac cac wb (M+1):=by
  intro p n k w hm hn0 hk0 x0 hb0;have hok:=gr_ok hg0;obtain⟨RL,hRL⟩:∃ RL,RL=(blkT g p n k).1:=⟨_,rfl⟩;obtain⟨RS,hRS⟩:∃ RS,RS=(blkT g p n k).2:=⟨_,rfl⟩;rw[<-hRL,<- hRS];obtain⟨j0,hj0,hjz0,hjz1,hjz2⟩:=info_parts info_stm;have hwl:=(Array.getElem?_eq_some_iff.1 hb0).1;have HST:Hid (BlkI w wb 80 g na ea ca nac eac cac p RL RS n k [] (.slice (some ⟨w.heap.size,0,none⟩) 0 0) (w.alloc (.cells #[] 67))):=Lib.hid ⟨⟨[],World.ownsRow_made (base:=w.heap.size) (size:=5) (e:=67) w #[] 0 (Nat.le_refl _) (by unfold maxLen;omega) rfl,rfl⟩,(But.refl _ _).alloc _,At.heap_ext hb0 ((Ext.refl w).alloc _),⟨by rw[hRL];rfl,hRS⟩,⟨hn0,hk0⟩,by have:=msr_le hok n k;simpa using Nat.le_trans this (by decide)⟩
  have HM:=Lib.hid hm;have HA:=Lib.hid ha;have HSM:=Lib.hid hsm;have HG0:=Lib.hid hg0;have HWB:=Lib.hid hwb;have HIH:=Lib.hid ih;have HOK:=Lib.hid hok;have HX0:=Lib.hid x0;have HWL:=Lib.hid hwl;obtain⟨q,hq⟩:∃ n,n=g.N.length:=⟨_,rfl⟩;obtain⟨cl,hcle⟩:∃ n,n=g.C.length:=⟨_,rfl⟩;have HQ:=Lib.hid hq.symm;have HCL:=Lib.hid hcle.symm;have hql:q<=64:=by rw[hq];exact hok.nl
  have hcll:cl<=16:=by rw[hcle];exact hok.cl
  clear hm ha hsm hg0 hwb ih hok x0 hb0 hn0 hk0 hRL hRS hq hcle hwl;go_enter Tryz.func34,Tryz.ntmps34;go_wp2_with fail
  go_loopg [5] (msr g n k) (fun f ov wr=>∃ (n1 k1:Nat) (L:List Stm) (oa:Option Addr) (LN oc:Nat),f=msr g n1 k1/\f<=msr g n k/\ov=.slice oa LN oc/\LN<=oc/\oc<=maxLen/\LN<=100/\Hid (LN=L.length)/\Hid (BlkI w wb 80 g na ea ca nac eac cac p RL RS n1 k1 L (.slice oa LN oc) wr))
  case atStart=>exact⟨n,k,[],_,0,0,rfl,Nat.le_refl _,rfl,Nat.le_refl _,Nat.zero_le _,Nat.zero_le _,Lib.hid rfl,HST⟩
  clear HST;obtain⟨n1,k1,L,oa,LN,oc,hf,hf2,rfl,hoc,hom,hLN,HLN,HI⟩:=hrel;have hn1:n1<=q:=by rw[<-HQ.out];exact HI.out.lo.1
  have hk1:k1<=cl:=by rw[<-HCL.out];exact HI.out.lo.2
  have xr:Hid (Ext w00 wr):=Lib.hid (But.fresh HX0.out HI.out.b HWB.out);have hcon:=fun(h:k1 < g.C.length) (w5:World) (x:Ext wr w5)=>contains_any g na ea ca nac eac cac n1 k1 k1 wb w5 (HA.out.ext (xr.out.trans x)) HSM.out HG0.out (At.heap_ext HI.out.bx x) h HI.out.lo.1
  by_cases hr:readyT g p n1 k1=true
  · have hkl:=ready_lt hr;have hcon:=hcon hkl;have hpp:g.C[k1].2=p:=Classical.byContradiction fun h=>by rw[ready_no hkl h] at hr;cases hr
    rw[ready_at hkl hpp] at hr;simp only[hr] at hcon;have hc:=blk_clu (g:=g) (p:=p) (n:=n1) (k:=k1) (by rw[ready_at hkl hpp];exact hr);obtain⟨BD,hBD⟩:∃ b,b=blkT g k1 n1 (k1+1):=⟨_,rfl⟩;have hlt:msr g n1 (k1+1) < M:=by have:=HM.out;have:msr g n1 (k1+1)+1=msr g n1 k1:=by { unfold msr;omega };omega
    have hmo:=blk_mono g k1 n1 (k1+1);have hle:=blk_le (p:=(k1:Int)) HI.out.lo.1 (show k1+1<=g.C.length from hkl);have hln:=blk_len (p:=(k1:Int)) HI.out.lo.1 (show k1+1<=g.C.length from hkl);have hm80:=msr_le HOK.out n1 (k1+1);have hih:=fun(w5:World) (x:Ext w00 w5) (hb:w5.heap[wb]? = some (boxO 80 g na ea ca nac eac cac n1 (k1+1)))=>HIH.out k1 n1 (k1+1) w5 hlt HI.out.lo.1 hkl x hb
    simp only[<-hBD] at hc hmo hle hln hih;obtain⟨BL,n2,k2⟩:=BD;dsimp only at hc hmo hle hln hih;obtain⟨na',nac',ea',eac',ca',cac',hv,-,-,a3⟩:=HA.out;cases hv;obtain⟨gc,oc2,rfl,kn,kq⟩:=a3 k1 hkl;have hnm:(Option.map Prod.fst g.C[k1]?).getD ⟨#[]⟩=g.C[k1].1:=by rw[List.getElem?_eq_getElem hkl];rfl
    rw[hnm] at hc;obtain⟨nm,hnm2⟩:∃ x,x=g.C[k1].1:=⟨_,rfl⟩;obtain⟨pk,hpk⟩:∃ x,x=g.C[k1].2:=⟨_,rfl⟩;rw[<-hnm2] at hc kn;rw[<-hpk] at kq hpp;have f1:(pk == p)=true:=beq_iff_eq.2 hpp;have hmn:n2<=q:=by rw[<-HQ.out];exact hle.1
    have hmk:k2<=cl:=by rw[<-HCL.out];exact hle.2
    have hme:msr g n2 k2+1<=msr g n1 k1:=by unfold msr;omega
    have HC:=Lib.hid hc;have HCON:=Lib.hid hcon;have HIH2:=Lib.hid hih;have HLE:=Lib.hid hle;have HKN:=Lib.hid kn;have HKQ:=Lib.hid kq;have HBL:=Lib.hid (show BL.length<=80 by omega);have HME:=Lib.hid hme;have hkl':k1 < cl:=by rw[<-HCL.out];exact hkl
    clear hc hcon hih hmo hle hln hm80 hlt hBD kn kq hnm hnm2 hkl hr a3 hme hpp hpk;by_cases hnq:n1 < q
    · clear HIH;have q1:decide ((n1:Int) < (q:Int))=true:=decide_eq_true (by have:=HQ.out;omega);have q2:decide (n1 < q)=true:=decide_eq_true (by have:=HQ.out;omega);have r1:decide ((k1:Int) < (cl:Int))=true:=decide_eq_true (by have:=HCL.out;omega);have r2:decide (k1 < cl)=true:=decide_eq_true (by have:=HCL.out;omega);have hnn:(0:Int)<=(n1:Int):=by omega
      have hkk:(0:Int)<=(k1:Int):=by omega
      have hnq:(n1:Int) < (q:Int):=by have:=HQ.out;omega
      have hkq:(k1:Int) < (cl:Int):=by have:=HCL.out;omega
      obtain⟨b0,b1,b2,b3,b4,b5,b6⟩:=cells7w HI.out.bx;rw[HQ.out] at b2;rw[HCL.out] at b4;go_wp2_with fail
      go_quiet (fail)
      obtain⟨wA,hwA⟩:∃ w9,w9=wr.drewN nq:=⟨_,rfl⟩;have YA:Hid (Ext wr wA):=Lib.hid (by rw[hwA];exact(Ext.refl wr).drewN _);rw[<-hwA];clear hwA b0 b1 b2 b3 b4 b5 b6;have XA:=Lib.hid (YA.out);have HIA:=Lib.hid (HI.out.ext XA.out);have X0A:=Lib.hid (xr.out.trans XA.out);obtain⟨b0,b1,b2,b3,b4,b5,b6⟩:=cells7w HIA.out.bx;rw[HQ.out] at b2;rw[HCL.out] at b4;have kn:=X0A.out.cell HKN.out;have kq:=X0A.out.cell HKQ.out;go_wp2_with fail
      go_region_held3 (fun w'=>w'.cell? ⟨wb,0,none⟩=some (.string g.name)/\w'.cell? ⟨wb,1,none⟩=some (.bool g.dir)/\w'.cell? ⟨wb,2,none⟩=some (.slice na q nac)/\w'.cell? ⟨wb,3,none⟩=some (.slice ea g.E.length eac)/\w'.cell? ⟨wb,4,none⟩=some (.slice (some ⟨gc,oc2,none⟩) cl cac)/\w'.cell? ⟨wb,5,none⟩=some (.int .i64 n1)/\w'.cell? ⟨wb,6,none⟩=some (.int .i64 k1)/\w'.cell? ⟨gc,oc2+k1 * 2,none⟩=some (.string nm)/\w'.cell? ⟨gc,oc2+k1 * 2+1,none⟩=some (.int .i64 pk))
        (refine⟨Ext.cell (w:=wA) ?_ b0,Ext.cell (w:=wA) ?_ b1,Ext.cell (w:=wA) ?_ b2,Ext.cell (w:=wA) ?_ b3,Ext.cell (w:=wA) ?_ b4,Ext.cell (w:=wA) ?_ b5,Ext.cell (w:=wA) ?_ b6,Ext.cell (w:=wA) ?_ kn,Ext.cell (w:=wA) ?_ kq⟩ <;> (repeat (first | (with_reducible refine Ext.drew ?_) | (with_reducible exact X6.out) | (with_reducible exact Ext.refl _))))
        (first | (go_at_call 78;refine Calls.mono (by with_reducible exact HCON.out _ XA.out.drew) ?_;rintro e w6 ⟨rfl,x6⟩;have X6:=Lib.hid (show Ext wA w6 from(Ext.refl wA).drew.trans x6)))
      obtain⟨wE,hwE⟩:∃ w9:World,w9=w6:=⟨_,rfl⟩;subst hwE;have XE:=Lib.hid (XA.out.trans X6.out);have HIE:=Lib.hid (HI.out.ext XE.out);have X0E:=Lib.hid (xr.out.trans XE.out);clear b0 b1 b2 b3 b4 b5 b6 kn kq;obtain⟨b0,b1,b2,b3,b4,b5,b6⟩:=cells7w HIE.out.bx;rw[HQ.out] at b2;rw[HCL.out] at b4;have kn:=X0E.out.cell HKN.out;have kq:=X0E.out.cell HKQ.out;have cf6:wE.frozen? ⟨wb,6,none⟩=false:=Lib.frozen_of_heap HIE.out.bx 6;have cf5:wE.frozen? ⟨wb,5,none⟩=false:=Lib.frozen_of_heap HIE.out.bx 5;obtain⟨X,hown,hrow⟩:=HI.out.row.own;rw[<-HLN.out] at hown;have OW:=Lib.hid hown;have HR:=Lib.hid hrow;clear hown hrow;have U6:Hid (But wb wr (wE.setCell ⟨wb,6,none⟩ (.int .i64 ((k1:Int)+1)))):=Lib.hid (But.setCell (c:=wb) (But.of XE.out) ⟨wb,6,none⟩ rfl _)
      have B6:Hid ((wE.setCell ⟨wb,6,none⟩ (.int .i64 ((k1:Int)+1))).heap[wb]? = some (boxO 80 g na ea (some ⟨gc,oc2,none⟩) nac eac cac n1 (k1+1))):=Lib.hid (boxK HIE.out.bx);have X60:Hid (Ext w00 (wE.setCell ⟨wb,6,none⟩ (.int .i64 ((k1:Int)+1)))):=Lib.hid (But.fresh HX0.out (HI.out.b.trans U6.out) HWB.out)
      go_wp2_with (first
        | (go_at_call 34;refine Calls.mono (by with_reducible exact HIH2.out _ X60.out B6.out) ?_;rintro e w7 ⟨⟨ba,bc,rfl,hsp,hl1,hl2⟩,u7,b7⟩;have U7:Hid (But wb wr w7):=Lib.hid (U6.out.trans u7);have B7:=Lib.hid b7;have X70:Hid (Ext w00 w7):=Lib.hid (But.fresh HX0.out (HI.out.b.trans U7.out) HWB.out);have z4:w7.cell? ⟨wb,4,none⟩=some (.slice (some ⟨gc,oc2,none⟩) cl cac):=(by rw[Lib.cell_of_heap b7,<- HCL.out];rfl);have zn:=X70.out.cell HKN.out;obtain⟨BN,hBN⟩:∃ n,n=BL.length:=⟨_,rfl⟩;have hSP:Hid (StmP (fun g=>wr.heap.size<=g) w7 (.mk 5 nm [] [] BL) [.int .i64 5,.string nm,.slice none 0 0,.slice none 0 0,.slice ba BN bc]):=Lib.hid (by rw[hBN];have s6:=U6.out.size;exact StmP.keep (fun _ _ _=>rfl) (fun g hg _=>Nat.le_trans s6 hg) _ _ (clu_made hsp (Nat.le_trans HBL.out (by unfold maxLen;decide))));rw[<-hBN];have OW7:=Lib.hid (At.own_ext (own_but OW.out U7.out HWL.out) ((Ext.refl w7).alloc (.cells #[.int .i64 5,.string nm,.slice none 0 0,.slice none 0 0,.slice ba BN bc] 67)));clear u7 b7 hsp hBN)
        | (at_builtin;refine wpList_append_lies _ rfl _ _ 31 rfl w.heap.size 67 j0 _ 5 96 Tryz.underlying31 hj0 hjz0 hjz1 hjz2 rfl (by decide) _ _ _ rfl OW7.out ⟨w7.heap.size,0,none⟩ 1 1 [.int .i64 5,.string nm,.slice none 0 0,.slice none 0 0,.slice ba BN bc] rfl rfl ?c1 ?c2 (by decide) ?c3 ?c4 ?c5 _ rfl ?_))
      case c1=>exact World.news_of_block (cs:=#[.int .i64 5,.string nm,.slice none 0 0,.slice none 0 0,.slice ba BN bc]) (t:=67) (fr:=(0,0)) (heap_alloc_new w7 _)
      case c2=>intro u hu;simp at hu;rcases hu with rfl | rfl | rfl | rfl | rfl <;> rfl
      case c3=>unfold maxLen;omega
      case c4=>omega
      case c5=>have:=HI.out.b.size;have:=U7.out.size;simp;omega
      intro g7 c7 w9 hown9 hgrow9 hor9 _;have HNX:Hid (BarAt w.heap.size 0 (L++[.mk 5 nm [] [] BL]) (.slice (some ⟨g7,0,none⟩) (LN+1) c7) w9):=Lib.hid (BarAt.nextB HLN.out OW.out HR.out HWL.out HI.out.b.size (U7.out.ext ((Ext.refl w7).alloc (.cells #[.int .i64 5,.string nm,.slice none 0 0,.slice none 0 0,.slice ba BN bc] 67))) (StmP.keep (fun g _ hlt=>((Ext.refl w7).alloc _).block g hlt) (fun _ h _=>h) _ _ hSP.out) rfl (.inr rfl) hgrow9 hown9 (hor9.imp (fun h=>⟨rfl,h⟩) (fun h=>by simpa using h)));have UW9:Hid (But wb w w9):=Lib.hid (But.grown ((HI.out.b.trans U7.out).ext ((Ext.refl w7).alloc (.cells #[.int .i64 5,.string nm,.slice none 0 0,.slice none 0 0,.slice ba BN bc] 67))) hgrow9 (fun k e=>(OW.out.lt k e).1))
      have B9:Hid (w9.heap[wb]? = some (boxO 80 g na ea (some ⟨gc,oc2,none⟩) nac eac cac n2 k2)):=Lib.hid (by rw[hgrow9.block wb (by have:=(Array.getElem?_eq_some_iff.1 B7.out).1;simp;omega) (fun e=>by have:=(OW.out.lt wb e.symm).1;have:=HWL.out;omega)];exact At.heap_ext B7.out ((Ext.refl w7).alloc _));obtain⟨hcap1,hcap2⟩:=bar_cap HLN.out HNX.out;clear hown9 hgrow9 hor9;go_wp2
      go_roundg (msr g n2 k2)
      case measure=>have:=HME.out;omega
      case rel=>exact⟨n2,k2,_,_,_,_,rfl,by have:=HME.out;omega,rfl,hcap1,hcap2,by have:=HI.out.ll;have:=HME.out;have:=HLN.out;omega,Lib.hid (by rw[List.length_append,HLN.out];rfl),Lib.hid ⟨HNX.out,UW9.out,B9.out,⟨by rw[HI.out.eq.1,HC.out];simp,by rw[HI.out.eq.2,HC.out]⟩,HLE.out,by have:=HI.out.ll;have:=HME.out;rw[List.length_append];simp;omega⟩⟩
    clear HIH;have q1:decide ((n1:Int) < (q:Int))=false:=decide_eq_false (by have:=HQ.out;omega);have q2:decide (n1 < q)=false:=decide_eq_false (by have:=HQ.out;omega);have r1:decide ((k1:Int) < (cl:Int))=true:=decide_eq_true (by have:=HCL.out;omega);have r2:decide (k1 < cl)=true:=decide_eq_true (by have:=HCL.out;omega);have hnn:(0:Int)<=(n1:Int):=by omega
    have hkk:(0:Int)<=(k1:Int):=by omega
    have hkq:(k1:Int) < (cl:Int):=by have:=HCL.out;omega
    obtain⟨b0,b1,b2,b3,b4,b5,b6⟩:=cells7w HI.out.bx;rw[HQ.out] at b2;rw[HCL.out] at b4;go_wp2_with fail
    go_quiet (fail)
    obtain⟨wA,hwA⟩:∃ w9,w9=wr.drewN nq:=⟨_,rfl⟩;have YA:Hid (Ext wr wA):=Lib.hid (by rw[hwA];exact(Ext.refl wr).drewN _);rw[<-hwA];clear hwA b0 b1 b2 b3 b4 b5 b6;have XA:=Lib.hid (YA.out);have HIA:=Lib.hid (HI.out.ext XA.out);have X0A:=Lib.hid (xr.out.trans XA.out);obtain⟨b0,b1,b2,b3,b4,b5,b6⟩:=cells7w HIA.out.bx;rw[HQ.out] at b2;rw[HCL.out] at b4;have kn:=X0A.out.cell HKN.out;have kq:=X0A.out.cell HKQ.out;go_wp2_with fail
    go_region_held3 (fun w'=>w'.cell? ⟨wb,0,none⟩=some (.string g.name)/\w'.cell? ⟨wb,1,none⟩=some (.bool g.dir)/\w'.cell? ⟨wb,2,none⟩=some (.slice na q nac)/\w'.cell? ⟨wb,3,none⟩=some (.slice ea g.E.length eac)/\w'.cell? ⟨wb,4,none⟩=some (.slice (some ⟨gc,oc2,none⟩) cl cac)/\w'.cell? ⟨wb,5,none⟩=some (.int .i64 n1)/\w'.cell? ⟨wb,6,none⟩=some (.int .i64 k1)/\w'.cell? ⟨gc,oc2+k1 * 2,none⟩=some (.string nm)/\w'.cell? ⟨gc,oc2+k1 * 2+1,none⟩=some (.int .i64 pk))
      (refine⟨Ext.cell (w:=wA) ?_ b0,Ext.cell (w:=wA) ?_ b1,Ext.cell (w:=wA) ?_ b2,Ext.cell (w:=wA) ?_ b3,Ext.cell (w:=wA) ?_ b4,Ext.cell (w:=wA) ?_ b5,Ext.cell (w:=wA) ?_ b6,Ext.cell (w:=wA) ?_ kn,Ext.cell (w:=wA) ?_ kq⟩ <;> (repeat (first | (with_reducible refine Ext.drew ?_) | (with_reducible exact X6.out) | (with_reducible exact Ext.refl _))))
      (first | (go_at_call 78;refine Calls.mono (by with_reducible exact HCON.out _ XA.out.drew) ?_;rintro e w6 ⟨rfl,x6⟩;have X6:=Lib.hid (show Ext wA w6 from(Ext.refl wA).drew.trans x6)))
    obtain⟨wE,hwE⟩:∃ w9:World,w9=w6:=⟨_,rfl⟩;subst hwE;have XE:=Lib.hid (XA.out.trans X6.out);have HIE:=Lib.hid (HI.out.ext XE.out);have X0E:=Lib.hid (xr.out.trans XE.out);clear b0 b1 b2 b3 b4 b5 b6 kn kq;obtain⟨b0,b1,b2,b3,b4,b5,b6⟩:=cells7w HIE.out.bx;rw[HQ.out] at b2;rw[HCL.out] at b4;have kn:=X0E.out.cell HKN.out;have kq:=X0E.out.cell HKQ.out;have cf6:wE.frozen? ⟨wb,6,none⟩=false:=Lib.frozen_of_heap HIE.out.bx 6;have cf5:wE.frozen? ⟨wb,5,none⟩=false:=Lib.frozen_of_heap HIE.out.bx 5;obtain⟨X,hown,hrow⟩:=HI.out.row.own;rw[<-HLN.out] at hown;have OW:=Lib.hid hown;have HR:=Lib.hid hrow;clear hown hrow;have U6:Hid (But wb wr (wE.setCell ⟨wb,6,none⟩ (.int .i64 ((k1:Int)+1)))):=Lib.hid (But.setCell (c:=wb) (But.of XE.out) ⟨wb,6,none⟩ rfl _)
    have B6:Hid ((wE.setCell ⟨wb,6,none⟩ (.int .i64 ((k1:Int)+1))).heap[wb]? = some (boxO 80 g na ea (some ⟨gc,oc2,none⟩) nac eac cac n1 (k1+1))):=Lib.hid (boxK HIE.out.bx);have X60:Hid (Ext w00 (wE.setCell ⟨wb,6,none⟩ (.int .i64 ((k1:Int)+1)))):=Lib.hid (But.fresh HX0.out (HI.out.b.trans U6.out) HWB.out)
    go_wp2_with (first
      | (go_at_call 34;refine Calls.mono (by with_reducible exact HIH2.out _ X60.out B6.out) ?_;rintro e w7 ⟨⟨ba,bc,rfl,hsp,hl1,hl2⟩,u7,b7⟩;have U7:Hid (But wb wr w7):=Lib.hid (U6.out.trans u7);have B7:=Lib.hid b7;have X70:Hid (Ext w00 w7):=Lib.hid (But.fresh HX0.out (HI.out.b.trans U7.out) HWB.out);have z4:w7.cell? ⟨wb,4,none⟩=some (.slice (some ⟨gc,oc2,none⟩) cl cac):=(by rw[Lib.cell_of_heap b7,<- HCL.out];rfl);have zn:=X70.out.cell HKN.out;obtain⟨BN,hBN⟩:∃ n,n=BL.length:=⟨_,rfl⟩;have hSP:Hid (StmP (fun g=>wr.heap.size<=g) w7 (.mk 5 nm [] [] BL) [.int .i64 5,.string nm,.slice none 0 0,.slice none 0 0,.slice ba BN bc]):=Lib.hid (by rw[hBN];have s6:=U6.out.size;exact StmP.keep (fun _ _ _=>rfl) (fun g hg _=>Nat.le_trans s6 hg) _ _ (clu_made hsp (Nat.le_trans HBL.out (by unfold maxLen;decide))));rw[<-hBN];have OW7:=Lib.hid (At.own_ext (own_but OW.out U7.out HWL.out) ((Ext.refl w7).alloc (.cells #[.int .i64 5,.string nm,.slice none 0 0,.slice none 0 0,.slice ba BN bc] 67)));clear u7 b7 hsp hBN)
      | (at_builtin;refine wpList_append_lies _ rfl _ _ 31 rfl w.heap.size 67 j0 _ 5 96 Tryz.underlying31 hj0 hjz0 hjz1 hjz2 rfl (by decide) _ _ _ rfl OW7.out ⟨w7.heap.size,0,none⟩ 1 1 [.int .i64 5,.string nm,.slice none 0 0,.slice none 0 0,.slice ba BN bc] rfl rfl ?c1 ?c2 (by decide) ?c3 ?c4 ?c5 _ rfl ?_))
    case c1=>exact World.news_of_block (cs:=#[.int .i64 5,.string nm,.slice none 0 0,.slice none 0 0,.slice ba BN bc]) (t:=67) (fr:=(0,0)) (heap_alloc_new w7 _)
    case c2=>intro u hu;simp at hu;rcases hu with rfl | rfl | rfl | rfl | rfl <;> rfl
    case c3=>unfold maxLen;omega
    case c4=>omega
    case c5=>have:=HI.out.b.size;have:=U7.out.size;simp;omega
    intro g7 c7 w9 hown9 hgrow9 hor9 _;have HNX:Hid (BarAt w.heap.size 0 (L++[.mk 5 nm [] [] BL]) (.slice (some ⟨g7,0,none⟩) (LN+1) c7) w9):=Lib.hid (BarAt.nextB HLN.out OW.out HR.out HWL.out HI.out.b.size (U7.out.ext ((Ext.refl w7).alloc (.cells #[.int .i64 5,.string nm,.slice none 0 0,.slice none 0 0,.slice ba BN bc] 67))) (StmP.keep (fun g _ hlt=>((Ext.refl w7).alloc _).block g hlt) (fun _ h _=>h) _ _ hSP.out) rfl (.inr rfl) hgrow9 hown9 (hor9.imp (fun h=>⟨rfl,h⟩) (fun h=>by simpa using h)));have UW9:Hid (But wb w w9):=Lib.hid (But.grown ((HI.out.b.trans U7.out).ext ((Ext.refl w7).alloc (.cells #[.int .i64 5,.string nm,.slice none 0 0,.slice none 0 0,.slice ba BN bc] 67))) hgrow9 (fun k e=>(OW.out.lt k e).1))
    have B9:Hid (w9.heap[wb]? = some (boxO 80 g na ea (some ⟨gc,oc2,none⟩) nac eac cac n2 k2)):=Lib.hid (by rw[hgrow9.block wb (by have:=(Array.getElem?_eq_some_iff.1 B7.out).1;simp;omega) (fun e=>by have:=(OW.out.lt wb e.symm).1;have:=HWL.out;omega)];exact At.heap_ext B7.out ((Ext.refl w7).alloc _));obtain⟨hcap1,hcap2⟩:=bar_cap HLN.out HNX.out;clear hown9 hgrow9 hor9;go_wp2
    go_roundg (msr g n2 k2)
    case measure=>have:=HME.out;omega
    case rel=>exact⟨n2,k2,_,_,_,_,rfl,by have:=HME.out;omega,rfl,hcap1,hcap2,by have:=HI.out.ll;have:=HME.out;have:=HLN.out;omega,Lib.hid (by rw[List.length_append,HLN.out];rfl),Lib.hid ⟨HNX.out,UW9.out,B9.out,⟨by rw[HI.out.eq.1,HC.out];simp,by rw[HI.out.eq.2,HC.out]⟩,HLE.out,by have:=HI.out.ll;have:=HME.out;rw[List.length_append];simp;omega⟩⟩
  have hrf:readyT g p n1 k1=false:=Bool.eq_false_iff.2 hr;have hcf:∀ h:k1 < g.C.length,g.C[k1].2=p->((memT g k1).isEmpty || (memT g k1).contains n1)=false:=fun h e=>by rw[<-ready_at h e];exact hrf
  have HCF:=Lib.hid hcf;have HCON:=Lib.hid hcon;clear hcf hcon;by_cases hnl:n1 < g.N.length
  · have hnda:=nd_at HOK.out hnl;have hbn:=fun h=>blk_node (p:=p) hr (List.getElem?_eq_getElem hnl) h
    have hbe:=fun h=>blk_end (p:=p) hr (fun x hx=>by rw[List.getElem?_eq_getElem hnl] at hx;rw[<-Option.some.inj hx];exact h)
    obtain⟨na',nac',ea',eac',ca',cac',hv,a1,-,a3⟩:=HA.out;cases hv;have HA3:=Lib.hid a3;obtain⟨gn,on,pa,pc,rfl,k0,kl,kw,kh,kc,kp,kpp⟩:=a1 n1 hnl;have hmn:msr g (n1+1) k1+1=msr g n1 k1:=by unfold msr;omega
    obtain⟨x,hx⟩:∃ x,x=g.N[n1]:=⟨_,rfl⟩;rw[<-hx] at hnda k0 kl kw kh kc kp kpp;simp only[<-hx] at hbn hbe;have hna:=fun(w5:World) (y:Ext w00 w5)=>nodeR_any x pa pc w5 (kpp.ext y) hnda.1 hnda.2.1 hnda.2.2.1 hnda.2.2.2
    obtain⟨AL,hAL⟩:∃ l,l=nodeA x:=⟨_,rfl⟩;have hns:nodeS x=.mk 1 x.name [] AL []:=by rw[hAL];rfl
    rw[hns] at hbn;simp only[hns] at hna;obtain⟨xn,xl,xw,xh,xc,xp⟩:=x;dsimp only at hbn hbe k0 kl kw kh kc kp hna hnda;obtain⟨pl,hpl⟩:∃ n,n=xp.length:=⟨_,rfl⟩;rw[<-hpl] at kp;simp only[<-hpl] at hna;have HK0:=Lib.hid k0;have HKL:=Lib.hid kl;have HKW:=Lib.hid kw;have HKH:=Lib.hid kh;have HKC:=Lib.hid kc;have HKP:=Lib.hid kp;have HMN:=Lib.hid hmn;have HNA:=Lib.hid hna;have HBN:=Lib.hid hbn;have HBE:=Lib.hid hbe;have HNQ:=Lib.hid (show n1+1<=g.N.length from hnl);have hnq0:n1 < q:=by rw[<-HQ.out];exact hnl
    clear hrf hr hnda hx hns hAL hna hbn hbe k0 kl kw kh kc kp kpp hpl hnl hmn a1 a3 HIH;by_cases hcp:xc=p
    · have fn:(xc == p)=true:=beq_iff_eq.2 hcp;have HB1:=Lib.hid (HBN.out hcp);clear HBN HBE hcp;by_cases hkl:k1 < g.C.length
      · obtain⟨gc,oc2,rfl,kn,kq⟩:=HA3.out k1 hkl;have hcon:=HCON.out hkl;have hkq0:k1 < cl:=by rw[<-HCL.out];exact hkl
        have hcf:=HCF.out hkl;obtain⟨nm,hnm2⟩:∃ x,x=g.C[k1].1:=⟨_,rfl⟩;obtain⟨pk,hpk⟩:∃ x,x=g.C[k1].2:=⟨_,rfl⟩;rw[<-hnm2] at kn;rw[<-hpk] at kq hcf;have HKN:=Lib.hid kn;have HKQ:=Lib.hid kq;clear HCON HCF hkl kn kq hnm2 hpk HA3;by_cases hpp:pk=p
        · have fc:(pk == p)=true:=beq_iff_eq.2 hpp;simp only[hcf hpp] at hcon;have HCON:=Lib.hid hcon;clear hcf hcon hpp;have q1:decide ((n1:Int) < (q:Int))=true:=decide_eq_true (by have:=HQ.out;omega);have q2:decide (n1 < q)=true:=decide_eq_true (by have:=HQ.out;omega);have r1:decide ((k1:Int) < (cl:Int))=true:=decide_eq_true (by have:=HCL.out;omega);have r2:decide (k1 < cl)=true:=decide_eq_true (by have:=HCL.out;omega);have hnn:(0:Int)<=(n1:Int):=by omega
          have hkk:(0:Int)<=(k1:Int):=by omega
          have hnq:(n1:Int) < (q:Int):=by have:=HQ.out;omega
          have hkq:(k1:Int) < (cl:Int):=by have:=HCL.out;omega
          obtain⟨b0,b1,b2,b3,b4,b5,b6⟩:=cells7w HI.out.bx;rw[HQ.out] at b2;rw[HCL.out] at b4;go_wp2_with fail
          go_quiet (fail)
          obtain⟨wA,hwA⟩:∃ w9,w9=wr.drewN nq:=⟨_,rfl⟩;have YA:Hid (Ext wr wA):=Lib.hid (by rw[hwA];exact(Ext.refl wr).drewN _);rw[<-hwA];clear hwA b0 b1 b2 b3 b4 b5 b6;have XA:=Lib.hid (YA.out);have HIA:=Lib.hid (HI.out.ext XA.out);have X0A:=Lib.hid (xr.out.trans XA.out);obtain⟨b0,b1,b2,b3,b4,b5,b6⟩:=cells7w HIA.out.bx;rw[HQ.out] at b2;rw[HCL.out] at b4;have kn:=X0A.out.cell HKN.out;have kq:=X0A.out.cell HKQ.out;go_wp2_with fail
          go_region_held3 (fun w'=>w'.cell? ⟨wb,0,none⟩=some (.string g.name)/\w'.cell? ⟨wb,1,none⟩=some (.bool g.dir)/\w'.cell? ⟨wb,2,none⟩=some (.slice (some ⟨gn,on,none⟩) q nac)/\w'.cell? ⟨wb,3,none⟩=some (.slice ea g.E.length eac)/\w'.cell? ⟨wb,4,none⟩=some (.slice (some ⟨gc,oc2,none⟩) cl cac)/\w'.cell? ⟨wb,5,none⟩=some (.int .i64 n1)/\w'.cell? ⟨wb,6,none⟩=some (.int .i64 k1)/\w'.cell? ⟨gc,oc2+k1 * 2,none⟩=some (.string nm)/\w'.cell? ⟨gc,oc2+k1 * 2+1,none⟩=some (.int .i64 pk))
            (refine⟨Ext.cell (w:=wA) ?_ b0,Ext.cell (w:=wA) ?_ b1,Ext.cell (w:=wA) ?_ b2,Ext.cell (w:=wA) ?_ b3,Ext.cell (w:=wA) ?_ b4,Ext.cell (w:=wA) ?_ b5,Ext.cell (w:=wA) ?_ b6,Ext.cell (w:=wA) ?_ kn,Ext.cell (w:=wA) ?_ kq⟩ <;> (repeat (first | (with_reducible refine Ext.drew ?_) | (with_reducible exact X6.out) | (with_reducible exact Ext.refl _))))
            (first | (go_at_call 78;refine Calls.mono (by with_reducible exact HCON.out _ XA.out.drew) ?_;rintro e w6 ⟨rfl,x6⟩;have X6:=Lib.hid (show Ext wA w6 from(Ext.refl wA).drew.trans x6)))
          obtain⟨wE,hwE⟩:∃ w9:World,w9=w6:=⟨_,rfl⟩;subst hwE;have XE:=Lib.hid (XA.out.trans X6.out);have HIE:=Lib.hid (HI.out.ext XE.out);have X0E:=Lib.hid (xr.out.trans XE.out);clear b0 b1 b2 b3 b4 b5 b6 kn kq;obtain⟨b0,b1,b2,b3,b4,b5,b6⟩:=cells7w HIE.out.bx;rw[HQ.out] at b2;rw[HCL.out] at b4;have kn:=X0E.out.cell HKN.out;have kq:=X0E.out.cell HKQ.out;have k0:=X0E.out.cell HK0.out;have kl:=X0E.out.cell HKL.out;have kw:=X0E.out.cell HKW.out;have kh:=X0E.out.cell HKH.out;have kc:=X0E.out.cell HKC.out;have kp:=X0E.out.cell HKP.out;have cf6:wE.frozen? ⟨wb,6,none⟩=false:=Lib.frozen_of_heap HIE.out.bx 6;have cf5:wE.frozen? ⟨wb,5,none⟩=false:=Lib.frozen_of_heap HIE.out.bx 5;obtain⟨X,hown,hrow⟩:=HI.out.row.own;rw[<-HLN.out] at hown;have OW:=Lib.hid hown;have HR:=Lib.hid hrow;clear hown hrow
          go_wp2_with fail
          go_quiet (fail)
          obtain⟨wF,hwF⟩:∃ w9,w9=wE.drewN nq:=⟨_,rfl⟩;have YF:Hid (Ext wE wF):=Lib.hid (by rw[hwF];exact(Ext.refl wE).drewN _);rw[<-hwF];clear hwF b0 b1 b2 b3 b4 b5 b6 k0 kl kw kh kc kp kn kq cf5 cf6;have XF:=Lib.hid (XE.out.trans YF.out);have HIF:=Lib.hid (HI.out.ext XF.out);have X0F:=Lib.hid (xr.out.trans XF.out);obtain⟨b0,b1,b2,b3,b4,b5,b6⟩:=cells7w HIF.out.bx;rw[HQ.out] at b2;rw[HCL.out] at b4;have k0:=X0F.out.cell HK0.out;have kl:=X0F.out.cell HKL.out;have kw:=X0F.out.cell HKW.out;have kh:=X0F.out.cell HKH.out;have kc:=X0F.out.cell HKC.out;have kp:=X0F.out.cell HKP.out;go_wp2_with fail
          refine wp_region_K (S:=fun w'=>w'.cell? ⟨wb,2,none⟩=some (.slice (some ⟨gn,on,none⟩) q nac)/\w'.cell? ⟨wb,5,none⟩=some (.int .i64 n1)/\w'.cell? ⟨gn,on+n1 * 6,none⟩=some (.string xn)/\w'.cell? ⟨gn,on+n1 * 6+1,none⟩=some (.string xl)/\w'.cell? ⟨gn,on+n1 * 6+2,none⟩=some (.int .i64 xw)/\w'.cell? ⟨gn,on+n1 * 6+3,none⟩=some (.int .i64 xh)/\w'.cell? ⟨gn,on+n1 * 6+4,none⟩=some (.int .i64 xc)/\w'.cell? ⟨gn,on+n1 * 6+5,none⟩=some (.slice pa pl pc)) (n:=15) (by kernel_rfl) (by exact⟨Ext.cell ((Ext.refl wF).drew) b2,Ext.cell ((Ext.refl wF).drew) b5,Ext.cell ((Ext.refl wF).drew) k0,Ext.cell ((Ext.refl wF).drew) kl,Ext.cell ((Ext.refl wF).drew) kw,Ext.cell ((Ext.refl wF).drew) kh,Ext.cell ((Ext.refl wF).drew) kc,Ext.cell ((Ext.refl wF).drew) kp⟩) (fun hHeld=>?_)
          refine kT 15 0 ?_ rfl (by kernel_rfl) (fun _ _ _ h=>h) (Or.inl ⟨by rfl,?_⟩) hHeld ?_;rotate_left
          · (intro w' hSw;(try dsimp only at hSw);go_simp <;> with_reducible rfl)
          (try simp only[Act.put,q1,q2,q3])
          refine kT 15 1 ?_ rfl (by kernel_rfl) (fun _ _ _ h=>h) (Or.inl ⟨by rfl,?_⟩) hHeld ?_;rotate_left
          · (intro w' hSw;(try dsimp only at hSw);go_simp <;> with_reducible rfl)
          (try simp only[Act.put,q1,q2,q3])
          refine kT 15 2 ?_ rfl (by kernel_rfl) (fun _ _ _ h=>h) (Or.inl ⟨by rfl,?_⟩) hHeld ?_;rotate_left
          · (intro w' hSw;(try dsimp only at hSw);go_simp <;> with_reducible rfl)
          (try simp only[Act.put,q1,q2,q3])
          refine kT 15 3 ?_ rfl (by kernel_rfl) (fun _ _ _ h=>h) (Or.inl ⟨by rfl,?_⟩) hHeld ?_;rotate_left
          · (intro w' hSw;(try dsimp only at hSw);go_simp <;> with_reducible rfl)
          (try simp only[Act.put,q1,q2,q3])
          refine kT 15 4 ?_ rfl (by kernel_rfl) (fun _ _ _ h=>h) (Or.inl ⟨by rfl,?_⟩) hHeld ?_;rotate_left
          · (intro w' hSw;(try dsimp only at hSw);go_simp <;> with_reducible rfl)
          (try simp only[Act.put,q1,q2,q3])
          refine kT 15 5 ?_ rfl (by kernel_rfl) (fun _ _ _ h=>h) (Or.inl ⟨by rfl,?_⟩) hHeld ?_;rotate_left
          · (intro w' hSw;(try dsimp only at hSw);go_simp <;> with_reducible rfl)
          (try simp only[Act.put,q1,q2,q3])
          refine kT 15 6 ?_ rfl (by kernel_rfl) (fun _ _ _ h=>h) (Or.inl ⟨by rfl,?_⟩) hHeld ?_;rotate_left
          · (intro w' hSw;(try dsimp only at hSw);go_simp <;> with_reducible rfl)
          (try simp only[Act.put,q1,q2,q3])
          refine kT 15 7 ?_ rfl (by kernel_rfl) (fun _ _ _ h=>h) (Or.inl ⟨by rfl,?_⟩) hHeld ?_;rotate_left
          · (intro w' hSw;(try dsimp only at hSw);go_simp <;> with_reducible rfl)
          (try simp only[Act.put,q1,q2,q3])
          refine kT 15 8 ?_ rfl (by kernel_rfl) (fun _ _ _ h=>h) (Or.inl ⟨by rfl,?_⟩) hHeld ?_;rotate_left
          · (intro w' hSw;(try dsimp only at hSw);go_simp <;> with_reducible rfl)
          (try simp only[Act.put,q1,q2,q3])
          refine kT 15 9 ?_ rfl (by kernel_rfl) (fun _ _ _ h=>h) (Or.inl ⟨by rfl,?_⟩) hHeld ?_;rotate_left
          · (intro w' hSw;(try dsimp only at hSw);go_simp <;> with_reducible rfl)
          (try simp only[Act.put,q1,q2,q3])
          refine kT 15 10 ?_ rfl (by kernel_rfl) (fun _ _ _ h=>h) (Or.inl ⟨by rfl,?_⟩) hHeld ?_;rotate_left
          · (intro w' hSw;(try dsimp only at hSw);go_simp <;> with_reducible rfl)
          (try simp only[Act.put,q1,q2,q3])
          refine kT 15 11 ?_ rfl (by kernel_rfl) (fun _ _ _ h=>h) (Or.inl ⟨by rfl,?_⟩) hHeld ?_;rotate_left
          · (intro w' hSw;(try dsimp only at hSw);go_simp <;> with_reducible rfl)
          (try simp only[Act.put,q1,q2,q3])
          refine wpAnyK_step (o:=_) (i:=12) rfl (by kernel_rfl) (fun KK hKK=>?_);go_simp
          (go_at_call 79;refine Calls.mono (by with_reducible exact HNA.out _ (X0F.out.drew)) ?_;rintro e w7 ⟨⟨u,rfl,xs,rfl,hst⟩,x7⟩)
          have XF7:Hid (Ext wF w7):=Lib.hid ((Ext.refl wF).drew.trans x7);have X7:=Lib.hid (XF.out.trans XF7.out);have U7:Hid (But wb wr w7):=Lib.hid (But.of X7.out);have B7:=Lib.hid (HI.out.ext X7.out).bx;have hst2:=hst;rw[StmP] at hst2;obtain⟨ra,rc,va,vc,nb,nc,rfl,-⟩:=hst2;have hSP:Hid (StmP (fun g=>wr.heap.size<=g) w7 (.mk 1 xn [] AL []) [.int .i64 1,.string xn,.slice ra ([]:List Two).length rc,.slice va AL.length vc,.slice nb ([]:List Stm).length nc]):=Lib.hid (by have s6:=XF.out.size;exact StmP.keep (fun _ _ _=>rfl) (fun g hg _=>Nat.le_trans s6 hg) _ _ hst);obtain⟨AN,hAN⟩:∃ n,n=AL.length:=⟨_,rfl⟩;simp only[List.length_nil] at hSP;rw[<-hAN] at hSP;simp only[List.length_nil];rw[<-hAN]
          have OW7:=Lib.hid (At.own_ext (own_but OW.out U7.out HWL.out) ((Ext.refl w7).alloc (.cells #[.int .i64 1,.string xn,.slice ra 0 rc,.slice va AN vc,.slice nb 0 nc] 67)));clear x7 hst hAN;refine hKK.out _ _ (fun _=>?_) (fun hH=>?_)
          · (exact⟨Ext.cell (XF7.out) b2,Ext.cell (XF7.out) b5,Ext.cell (XF7.out) k0,Ext.cell (XF7.out) kl,Ext.cell (XF7.out) kw,Ext.cell (XF7.out) kh,Ext.cell (XF7.out) kc,Ext.cell (XF7.out) kp⟩)
          have hHeld2:=hH;clear hKK KK hHeld hH;have hHeld:=hHeld2 (by decide);clear hHeld2
          (try dsimp only at hHeld)
          (try simp only[Act.put,q1,q2,q3])
          refine wpAnyK_step (o:=_) (i:=13) rfl (by kernel_rfl) (fun KK hKK=>?_);go_simp;refine hKK.out _ _ (fun _=>?_) (fun hH=>?_)
          · (exact⟨Ext.cell (XF7.out.alloc _) b2,Ext.cell (XF7.out.alloc _) b5,Ext.cell (XF7.out.alloc _) k0,Ext.cell (XF7.out.alloc _) kl,Ext.cell (XF7.out.alloc _) kw,Ext.cell (XF7.out.alloc _) kh,Ext.cell (XF7.out.alloc _) kc,Ext.cell (XF7.out.alloc _) kp⟩)
          have hHeld2:=hH;clear hKK KK hHeld hH;have hHeld:=hHeld2 (by decide);clear hHeld2
          (try dsimp only at hHeld)
          (try simp only[Act.put,q1,q2,q3])
          refine wpAnyK_step (o:=_) (i:=14) rfl (by kernel_rfl) (fun KK hKK=>?_);refine step_append_lies _ (by rfl) _ _ 31 (by rfl) w.heap.size 67 j0 _ 5 96 Tryz.underlying31 hj0 hjz0 hjz1 hjz2 rfl (by decide) _ _ _ (by rfl) OW7.out ⟨w7.heap.size,0,none⟩ 1 1 [.int .i64 1,.string xn,.slice ra 0 rc,.slice va AN vc,.slice nb 0 nc] (by rfl) (by rfl) (World.news_of_block (cs:=#[.int .i64 1,.string xn,.slice ra 0 rc,.slice va AN vc,.slice nb 0 nc]) (t:=67) (fr:=(0,0)) (heap_alloc_new w7 _)) (by intro u hu;simp at hu;rcases hu with rfl | rfl | rfl | rfl | rfl <;> rfl) (by omega) (by unfold maxLen;omega) (by omega) (by have:=HI.out.b.size;have:=U7.out.size;simp;omega) _ rfl ?_;intro g7 c7 w9 hown9 hgrow9 hor9 _
          have HNX:Hid (BarAt w.heap.size 0 (L++[.mk 1 xn [] AL []]) (.slice (some ⟨g7,0,none⟩) (LN+1) c7) w9):=Lib.hid (BarAt.nextB HLN.out OW.out HR.out HWL.out HI.out.b.size (U7.out.ext ((Ext.refl w7).alloc (.cells #[.int .i64 1,.string xn,.slice ra 0 rc,.slice va AN vc,.slice nb 0 nc] 67))) (StmP.keep (fun g _ hlt=>((Ext.refl w7).alloc _).block g hlt) (fun _ h _=>h) _ _ hSP.out) rfl (.inr rfl) hgrow9 hown9 (hor9.imp (fun h=>⟨rfl,h⟩) (fun h=>by simpa using h)));have UW9:Hid (But wb w w9):=Lib.hid (But.grown ((HI.out.b.trans U7.out).ext ((Ext.refl w7).alloc (.cells #[.int .i64 1,.string xn,.slice ra 0 rc,.slice va AN vc,.slice nb 0 nc] 67))) hgrow9 (fun k e=>(OW.out.lt k e).1))
          have B9:Hid (w9.heap[wb]? = some (boxO 80 g (some ⟨gn,on,none⟩) ea (some ⟨gc,oc2,none⟩) nac eac cac n1 k1)):=Lib.hid (by rw[hgrow9.block wb (by have:=(Array.getElem?_eq_some_iff.1 B7.out).1;simp;omega) (fun e=>by have:=(OW.out.lt wb e.symm).1;have:=HWL.out;omega)];exact At.heap_ext B7.out ((Ext.refl w7).alloc _));obtain⟨hcap1,hcap2⟩:=bar_cap HLN.out HNX.out;clear hown9 hgrow9 hor9;have X90:Hid (Ext w00 w9):=Lib.hid (But.fresh HX0.out UW9.out HWB.out);obtain⟨e0,e1,e2,e3,e4,e5,e6⟩:=cells7w B9.out;rw[HQ.out] at e2;have ef:w9.frozen? ⟨wb,5,none⟩=false:=Lib.frozen_of_heap B9.out 5;have m0:=X90.out.cell HK0.out;have ml:=X90.out.cell HKL.out;have mw:=X90.out.cell HKW.out;have mh:=X90.out.cell HKH.out;have mc:=X90.out.cell HKC.out;have mp:=X90.out.cell HKP.out;refine hKK.out _ _ (fun _=>?_) (fun hH=>?_)
          · (exact⟨e2,e5,m0,ml,mw,mh,mc,mp⟩)
          have hHeld2:=hH;clear hKK KK hHeld hH;have hHeld:=hHeld2 (by decide);clear hHeld2
          (try dsimp only at hHeld)
          (try simp only[Act.put,q1,q2,q3])
          refine wpAnyK_step (o:=_) (i:=15) rfl (by kernel_rfl) (fun KK hKK=>?_);go_simp;refine hKK.out _ _ (fun h=>absurd rfl h) (fun _=>?_);clear hKK KK
          (try simp only[Act.put,q1,q2,q3])
          refine wpAnyK_done (by kernel_rfl) ?_ _;go_wp2
          go_roundg (msr g (n1+1) k1)
          case measure=>have:=HMN.out;omega
          case rel=>exact⟨n1+1,k1,_,_,_,_,rfl,by have:=HMN.out;omega,rfl,hcap1,hcap2,by have:=HI.out.ll;have:=HMN.out;have:=HLN.out;omega,Lib.hid (by rw[List.length_append,HLN.out];rfl),Lib.hid ⟨BarAt.set HNX.out HWL.out,But.setCell (c:=wb) UW9.out ⟨wb,5,none⟩ rfl _,boxN B9.out,⟨by rw[HI.out.eq.1,HB1.out];simp,by rw[HI.out.eq.2,HB1.out]⟩,⟨HNQ.out,HI.out.lo.2⟩,by have:=HI.out.ll;have:=HMN.out;rw[List.length_append];simp;omega⟩⟩
        have fc:(pk == p)=false:=beq_eq_false_iff_ne.2 hpp;clear hcf hcon hpp;have q1:decide ((n1:Int) < (q:Int))=true:=decide_eq_true (by have:=HQ.out;omega);have q2:decide (n1 < q)=true:=decide_eq_true (by have:=HQ.out;omega);have r1:decide ((k1:Int) < (cl:Int))=true:=decide_eq_true (by have:=HCL.out;omega);have r2:decide (k1 < cl)=true:=decide_eq_true (by have:=HCL.out;omega);have hnn:(0:Int)<=(n1:Int):=by omega
        have hkk:(0:Int)<=(k1:Int):=by omega
        have hnq:(n1:Int) < (q:Int):=by have:=HQ.out;omega
        have hkq:(k1:Int) < (cl:Int):=by have:=HCL.out;omega
        obtain⟨b0,b1,b2,b3,b4,b5,b6⟩:=cells7w HI.out.bx;rw[HQ.out] at b2;rw[HCL.out] at b4;go_wp2_with fail
        go_quiet (fail)
        obtain⟨wA,hwA⟩:∃ w9,w9=wr.drewN nq:=⟨_,rfl⟩;have YA:Hid (Ext wr wA):=Lib.hid (by rw[hwA];exact(Ext.refl wr).drewN _);rw[<-hwA];clear hwA b0 b1 b2 b3 b4 b5 b6;have XA:=Lib.hid (YA.out);have HIA:=Lib.hid (HI.out.ext XA.out);have X0A:=Lib.hid (xr.out.trans XA.out);obtain⟨b0,b1,b2,b3,b4,b5,b6⟩:=cells7w HIA.out.bx;rw[HQ.out] at b2;rw[HCL.out] at b4;have kn:=X0A.out.cell HKN.out;have kq:=X0A.out.cell HKQ.out;go_wp2_with fail
        go_quiet (fail)
        obtain⟨wE,hwE⟩:∃ w9,w9=wA.drewN nq:=⟨_,rfl⟩;have YE:Hid (Ext wA wE):=Lib.hid (by rw[hwE];exact(Ext.refl wA).drewN _);rw[<-hwE];clear hwE b0 b1 b2 b3 b4 b5 b6 kn kq;have XE:=Lib.hid (XA.out.trans YE.out);have HIE:=Lib.hid (HI.out.ext XE.out);have X0E:=Lib.hid (xr.out.trans XE.out);obtain⟨b0,b1,b2,b3,b4,b5,b6⟩:=cells7w HIE.out.bx;rw[HQ.out] at b2;rw[HCL.out] at b4;have kn:=X0E.out.cell HKN.out;have kq:=X0E.out.cell HKQ.out;have k0:=X0E.out.cell HK0.out;have kl:=X0E.out.cell HKL.out;have kw:=X0E.out.cell HKW.out;have kh:=X0E.out.cell HKH.out;have kc:=X0E.out.cell HKC.out;have kp:=X0E.out.cell HKP.out;have cf6:wE.frozen? ⟨wb,6,none⟩=false:=Lib.frozen_of_heap HIE.out.bx 6;have cf5:wE.frozen? ⟨wb,5,none⟩=false:=Lib.frozen_of_heap HIE.out.bx 5;obtain⟨X,hown,hrow⟩:=HI.out.row.own
        rw[<-HLN.out] at hown;have OW:=Lib.hid hown;have HR:=Lib.hid hrow;clear hown hrow;go_wp2_with fail
        go_quiet (fail)
        obtain⟨wF,hwF⟩:∃ w9,w9=wE.drewN nq:=⟨_,rfl⟩;have YF:Hid (Ext wE wF):=Lib.hid (by rw[hwF];exact(Ext.refl wE).drewN _);rw[<-hwF];clear hwF b0 b1 b2 b3 b4 b5 b6 k0 kl kw kh kc kp kn kq cf5 cf6;have XF:=Lib.hid (XE.out.trans YF.out);have HIF:=Lib.hid (HI.out.ext XF.out);have X0F:=Lib.hid (xr.out.trans XF.out);obtain⟨b0,b1,b2,b3,b4,b5,b6⟩:=cells7w HIF.out.bx;rw[HQ.out] at b2;rw[HCL.out] at b4;have k0:=X0F.out.cell HK0.out;have kl:=X0F.out.cell HKL.out;have kw:=X0F.out.cell HKW.out;have kh:=X0F.out.cell HKH.out;have kc:=X0F.out.cell HKC.out;have kp:=X0F.out.cell HKP.out;go_wp2_with fail
        refine wp_region_K (S:=fun w'=>w'.cell? ⟨wb,2,none⟩=some (.slice (some ⟨gn,on,none⟩) q nac)/\w'.cell? ⟨wb,5,none⟩=some (.int .i64 n1)/\w'.cell? ⟨gn,on+n1 * 6,none⟩=some (.string xn)/\w'.cell? ⟨gn,on+n1 * 6+1,none⟩=some (.string xl)/\w'.cell? ⟨gn,on+n1 * 6+2,none⟩=some (.int .i64 xw)/\w'.cell? ⟨gn,on+n1 * 6+3,none⟩=some (.int .i64 xh)/\w'.cell? ⟨gn,on+n1 * 6+4,none⟩=some (.int .i64 xc)/\w'.cell? ⟨gn,on+n1 * 6+5,none⟩=some (.slice pa pl pc)) (n:=15) (by kernel_rfl) (by exact⟨Ext.cell ((Ext.refl wF).drew) b2,Ext.cell ((Ext.refl wF).drew) b5,Ext.cell ((Ext.refl wF).drew) k0,Ext.cell ((Ext.refl wF).drew) kl,Ext.cell ((Ext.refl wF).drew) kw,Ext.cell ((Ext.refl wF).drew) kh,Ext.cell ((Ext.refl wF).drew) kc,Ext.cell ((Ext.refl wF).drew) kp⟩) (fun hHeld=>?_)
        refine kT 15 0 ?_ rfl (by kernel_rfl) (fun _ _ _ h=>h) (Or.inl ⟨by rfl,?_⟩) hHeld ?_;rotate_left
        · (intro w' hSw;(try dsimp only at hSw);go_simp <;> with_reducible rfl)
        (try simp only[Act.put,q1,q2,q3])
        refine kT 15 1 ?_ rfl (by kernel_rfl) (fun _ _ _ h=>h) (Or.inl ⟨by rfl,?_⟩) hHeld ?_;rotate_left
        · (intro w' hSw;(try dsimp only at hSw);go_simp <;> with_reducible rfl)
        (try simp only[Act.put,q1,q2,q3])
        refine kT 15 2 ?_ rfl (by kernel_rfl) (fun _ _ _ h=>h) (Or.inl ⟨by rfl,?_⟩) hHeld ?_;rotate_left
        · (intro w' hSw;(try dsimp only at hSw);go_simp <;> with_reducible rfl)
        (try simp only[Act.put,q1,q2,q3])
        refine kT 15 3 ?_ rfl (by kernel_rfl) (fun _ _ _ h=>h) (Or.inl ⟨by rfl,?_⟩) hHeld ?_;rotate_left
        · (intro w' hSw;(try dsimp only at hSw);go_simp <;> with_reducible rfl)
        (try simp only[Act.put,q1,q2,q3])
        refine kT 15 4 ?_ rfl (by kernel_rfl) (fun _ _ _ h=>h) (Or.inl ⟨by rfl,?_⟩) hHeld ?_;rotate_left
        · (intro w' hSw;(try dsimp only at hSw);go_simp <;> with_reducible rfl)
        (try simp only[Act.put,q1,q2,q3])
        refine kT 15 5 ?_ rfl (by kernel_rfl) (fun _ _ _ h=>h) (Or.inl ⟨by rfl,?_⟩) hHeld ?_;rotate_left
        · (intro w' hSw;(try dsimp only at hSw);go_simp <;> with_reducible rfl)
        (try simp only[Act.put,q1,q2,q3])
        refine kT 15 6 ?_ rfl (by kernel_rfl) (fun _ _ _ h=>h) (Or.inl ⟨by rfl,?_⟩) hHeld ?_;rotate_left
        · (intro w' hSw;(try dsimp only at hSw);go_simp <;> with_reducible rfl)
        (try simp only[Act.put,q1,q2,q3])
        refine kT 15 7 ?_ rfl (by kernel_rfl) (fun _ _ _ h=>h) (Or.inl ⟨by rfl,?_⟩) hHeld ?_;rotate_left
        · (intro w' hSw;(try dsimp only at hSw);go_simp <;> with_reducible rfl)
        (try simp only[Act.put,q1,q2,q3])
        refine kT 15 8 ?_ rfl (by kernel_rfl) (fun _ _ _ h=>h) (Or.inl ⟨by rfl,?_⟩) hHeld ?_;rotate_left
        · (intro w' hSw;(try dsimp only at hSw);go_simp <;> with_reducible rfl)
        (try simp only[Act.put,q1,q2,q3])
        refine kT 15 9 ?_ rfl (by kernel_rfl) (fun _ _ _ h=>h) (Or.inl ⟨by rfl,?_⟩) hHeld ?_;rotate_left
        · (intro w' hSw;(try dsimp only at hSw);go_simp <;> with_reducible rfl)
        (try simp only[Act.put,q1,q2,q3])
        refine kT 15 10 ?_ rfl (by kernel_rfl) (fun _ _ _ h=>h) (Or.inl ⟨by rfl,?_⟩) hHeld ?_;rotate_left
        · (intro w' hSw;(try dsimp only at hSw);go_simp <;> with_reducible rfl)
        (try simp only[Act.put,q1,q2,q3])
        refine kT 15 11 ?_ rfl (by kernel_rfl) (fun _ _ _ h=>h) (Or.inl ⟨by rfl,?_⟩) hHeld ?_;rotate_left
        · (intro w' hSw;(try dsimp only at hSw);go_simp <;> with_reducible rfl)
        (try simp only[Act.put,q1,q2,q3])
        refine wpAnyK_step (o:=_) (i:=12) rfl (by kernel_rfl) (fun KK hKK=>?_);go_simp
        (go_at_call 79;refine Calls.mono (by with_reducible exact HNA.out _ (X0F.out.drew)) ?_;rintro e w7 ⟨⟨u,rfl,xs,rfl,hst⟩,x7⟩)
        have XF7:Hid (Ext wF w7):=Lib.hid ((Ext.refl wF).drew.trans x7);have X7:=Lib.hid (XF.out.trans XF7.out);have U7:Hid (But wb wr w7):=Lib.hid (But.of X7.out);have B7:=Lib.hid (HI.out.ext X7.out).bx;have hst2:=hst;rw[StmP] at hst2;obtain⟨ra,rc,va,vc,nb,nc,rfl,-⟩:=hst2;have hSP:Hid (StmP (fun g=>wr.heap.size<=g) w7 (.mk 1 xn [] AL []) [.int .i64 1,.string xn,.slice ra ([]:List Two).length rc,.slice va AL.length vc,.slice nb ([]:List Stm).length nc]):=Lib.hid (by have s6:=XF.out.size;exact StmP.keep (fun _ _ _=>rfl) (fun g hg _=>Nat.le_trans s6 hg) _ _ hst);obtain⟨AN,hAN⟩:∃ n,n=AL.length:=⟨_,rfl⟩;simp only[List.length_nil] at hSP;rw[<-hAN] at hSP;simp only[List.length_nil];rw[<-hAN]
        have OW7:=Lib.hid (At.own_ext (own_but OW.out U7.out HWL.out) ((Ext.refl w7).alloc (.cells #[.int .i64 1,.string xn,.slice ra 0 rc,.slice va AN vc,.slice nb 0 nc] 67)));clear x7 hst hAN;refine hKK.out _ _ (fun _=>?_) (fun hH=>?_)
        · (exact⟨Ext.cell (XF7.out) b2,Ext.cell (XF7.out) b5,Ext.cell (XF7.out) k0,Ext.cell (XF7.out) kl,Ext.cell (XF7.out) kw,Ext.cell (XF7.out) kh,Ext.cell (XF7.out) kc,Ext.cell (XF7.out) kp⟩)
        have hHeld2:=hH;clear hKK KK hHeld hH;have hHeld:=hHeld2 (by decide);clear hHeld2
        (try dsimp only at hHeld)
        (try simp only[Act.put,q1,q2,q3])
        refine wpAnyK_step (o:=_) (i:=13) rfl (by kernel_rfl) (fun KK hKK=>?_);go_simp;refine hKK.out _ _ (fun _=>?_) (fun hH=>?_)
        · (exact⟨Ext.cell (XF7.out.alloc _) b2,Ext.cell (XF7.out.alloc _) b5,Ext.cell (XF7.out.alloc _) k0,Ext.cell (XF7.out.alloc _) kl,Ext.cell (XF7.out.alloc _) kw,Ext.cell (XF7.out.alloc _) kh,Ext.cell (XF7.out.alloc _) kc,Ext.cell (XF7.out.alloc _) kp⟩)
        have hHeld2:=hH;clear hKK KK hHeld hH;have hHeld:=hHeld2 (by decide);clear hHeld2
        (try dsimp only at hHeld)
        (try simp only[Act.put,q1,q2,q3])
        refine wpAnyK_step (o:=_) (i:=14) rfl (by kernel_rfl) (fun KK hKK=>?_);refine step_append_lies _ (by rfl) _ _ 31 (by rfl) w.heap.size 67 j0 _ 5 96 Tryz.underlying31 hj0 hjz0 hjz1 hjz2 rfl (by decide) _ _ _ (by rfl) OW7.out ⟨w7.heap.size,0,none⟩ 1 1 [.int .i64 1,.string xn,.slice ra 0 rc,.slice va AN vc,.slice nb 0 nc] (by rfl) (by rfl) (World.news_of_block (cs:=#[.int .i64 1,.string xn,.slice ra 0 rc,.slice va AN vc,.slice nb 0 nc]) (t:=67) (fr:=(0,0)) (heap_alloc_new w7 _)) (by intro u hu;simp at hu;rcases hu with rfl | rfl | rfl | rfl | rfl <;> rfl) (by omega) (by unfold maxLen;omega) (by omega) (by have:=HI.out.b.size;have:=U7.out.size;simp;omega) _ rfl ?_;intro g7 c7 w9 hown9 hgrow9 hor9 _
        have HNX:Hid (BarAt w.heap.size 0 (L++[.mk 1 xn [] AL []]) (.slice (some ⟨g7,0,none⟩) (LN+1) c7) w9):=Lib.hid (BarAt.nextB HLN.out OW.out HR.out HWL.out HI.out.b.size (U7.out.ext ((Ext.refl w7).alloc (.cells #[.int .i64 1,.string xn,.slice ra 0 rc,.slice va AN vc,.slice nb 0 nc] 67))) (StmP.keep (fun g _ hlt=>((Ext.refl w7).alloc _).block g hlt) (fun _ h _=>h) _ _ hSP.out) rfl (.inr rfl) hgrow9 hown9 (hor9.imp (fun h=>⟨rfl,h⟩) (fun h=>by simpa using h)));have UW9:Hid (But wb w w9):=Lib.hid (But.grown ((HI.out.b.trans U7.out).ext ((Ext.refl w7).alloc (.cells #[.int .i64 1,.string xn,.slice ra 0 rc,.slice va AN vc,.slice nb 0 nc] 67))) hgrow9 (fun k e=>(OW.out.lt k e).1))
        have B9:Hid (w9.heap[wb]? = some (boxO 80 g (some ⟨gn,on,none⟩) ea (some ⟨gc,oc2,none⟩) nac eac cac n1 k1)):=Lib.hid (by rw[hgrow9.block wb (by have:=(Array.getElem?_eq_some_iff.1 B7.out).1;simp;omega) (fun e=>by have:=(OW.out.lt wb e.symm).1;have:=HWL.out;omega)];exact At.heap_ext B7.out ((Ext.refl w7).alloc _));obtain⟨hcap1,hcap2⟩:=bar_cap HLN.out HNX.out;clear hown9 hgrow9 hor9;have X90:Hid (Ext w00 w9):=Lib.hid (But.fresh HX0.out UW9.out HWB.out);obtain⟨e0,e1,e2,e3,e4,e5,e6⟩:=cells7w B9.out;rw[HQ.out] at e2;have ef:w9.frozen? ⟨wb,5,none⟩=false:=Lib.frozen_of_heap B9.out 5;have m0:=X90.out.cell HK0.out;have ml:=X90.out.cell HKL.out;have mw:=X90.out.cell HKW.out;have mh:=X90.out.cell HKH.out;have mc:=X90.out.cell HKC.out;have mp:=X90.out.cell HKP.out;refine hKK.out _ _ (fun _=>?_) (fun hH=>?_)
        · (exact⟨e2,e5,m0,ml,mw,mh,mc,mp⟩)
        have hHeld2:=hH;clear hKK KK hHeld hH;have hHeld:=hHeld2 (by decide);clear hHeld2
        (try dsimp only at hHeld)
        (try simp only[Act.put,q1,q2,q3])
        refine wpAnyK_step (o:=_) (i:=15) rfl (by kernel_rfl) (fun KK hKK=>?_);go_simp;refine hKK.out _ _ (fun h=>absurd rfl h) (fun _=>?_);clear hKK KK
        (try simp only[Act.put,q1,q2,q3])
        refine wpAnyK_done (by kernel_rfl) ?_ _;go_wp2
        go_roundg (msr g (n1+1) k1)
        case measure=>have:=HMN.out;omega
        case rel=>exact⟨n1+1,k1,_,_,_,_,rfl,by have:=HMN.out;omega,rfl,hcap1,hcap2,by have:=HI.out.ll;have:=HMN.out;have:=HLN.out;omega,Lib.hid (by rw[List.length_append,HLN.out];rfl),Lib.hid ⟨BarAt.set HNX.out HWL.out,But.setCell (c:=wb) UW9.out ⟨wb,5,none⟩ rfl _,boxN B9.out,⟨by rw[HI.out.eq.1,HB1.out];simp,by rw[HI.out.eq.2,HB1.out]⟩,⟨HNQ.out,HI.out.lo.2⟩,by have:=HI.out.ll;have:=HMN.out;rw[List.length_append];simp;omega⟩⟩
      clear HCON HCF HA3;have q1:decide ((n1:Int) < (q:Int))=true:=decide_eq_true (by have:=HQ.out;omega);have q2:decide (n1 < q)=true:=decide_eq_true (by have:=HQ.out;omega);have r1:decide ((k1:Int) < (cl:Int))=false:=decide_eq_false (by have:=HCL.out;omega);have r2:decide (k1 < cl)=false:=decide_eq_false (by have:=HCL.out;omega);have hnn:(0:Int)<=(n1:Int):=by omega
      have hkk:(0:Int)<=(k1:Int):=by omega
      have hnq:(n1:Int) < (q:Int):=by have:=HQ.out;omega
      obtain⟨b0,b1,b2,b3,b4,b5,b6⟩:=cells7w HI.out.bx;rw[HQ.out] at b2;rw[HCL.out] at b4;go_wp2_with fail
      go_quiet (fail)
      obtain⟨wA,hwA⟩:∃ w9,w9=wr.drewN nq:=⟨_,rfl⟩;have YA:Hid (Ext wr wA):=Lib.hid (by rw[hwA];exact(Ext.refl wr).drewN _);rw[<-hwA];clear hwA b0 b1 b2 b3 b4 b5 b6;have XA:=Lib.hid (YA.out);have HIA:=Lib.hid (HI.out.ext XA.out);have X0A:=Lib.hid (xr.out.trans XA.out);obtain⟨b0,b1,b2,b3,b4,b5,b6⟩:=cells7w HIA.out.bx;rw[HQ.out] at b2;rw[HCL.out] at b4;go_wp2_with fail
      go_quiet (fail)
      obtain⟨wE,hwE⟩:∃ w9,w9=wA.drewN nq:=⟨_,rfl⟩;have YE:Hid (Ext wA wE):=Lib.hid (by rw[hwE];exact(Ext.refl wA).drewN _);rw[<-hwE];clear hwE b0 b1 b2 b3 b4 b5 b6;have XE:=Lib.hid (XA.out.trans YE.out);have HIE:=Lib.hid (HI.out.ext XE.out);have X0E:=Lib.hid (xr.out.trans XE.out);obtain⟨b0,b1,b2,b3,b4,b5,b6⟩:=cells7w HIE.out.bx;rw[HQ.out] at b2;rw[HCL.out] at b4;have k0:=X0E.out.cell HK0.out;have kl:=X0E.out.cell HKL.out;have kw:=X0E.out.cell HKW.out;have kh:=X0E.out.cell HKH.out;have kc:=X0E.out.cell HKC.out;have kp:=X0E.out.cell HKP.out;have cf6:wE.frozen? ⟨wb,6,none⟩=false:=Lib.frozen_of_heap HIE.out.bx 6;have cf5:wE.frozen? ⟨wb,5,none⟩=false:=Lib.frozen_of_heap HIE.out.bx 5;obtain⟨X,hown,hrow⟩:=HI.out.row.own;rw[<-HLN.out] at hown;have OW:=Lib.hid hown;have HR:=Lib.hid hrow;clear hown hrow
      go_wp2_with fail
      go_quiet (fail)
      obtain⟨wF,hwF⟩:∃ w9,w9=wE.drewN nq:=⟨_,rfl⟩;have YF:Hid (Ext wE wF):=Lib.hid (by rw[hwF];exact(Ext.refl wE).drewN _);rw[<-hwF];clear hwF b0 b1 b2 b3 b4 b5 b6 k0 kl kw kh kc kp cf5 cf6;have XF:=Lib.hid (XE.out.trans YF.out);have HIF:=Lib.hid (HI.out.ext XF.out);have X0F:=Lib.hid (xr.out.trans XF.out);obtain⟨b0,b1,b2,b3,b4,b5,b6⟩:=cells7w HIF.out.bx;rw[HQ.out] at b2;rw[HCL.out] at b4;have k0:=X0F.out.cell HK0.out;have kl:=X0F.out.cell HKL.out;have kw:=X0F.out.cell HKW.out;have kh:=X0F.out.cell HKH.out;have kc:=X0F.out.cell HKC.out;have kp:=X0F.out.cell HKP.out;go_wp2_with fail
      refine wp_region_K (S:=fun w'=>w'.cell? ⟨wb,2,none⟩=some (.slice (some ⟨gn,on,none⟩) q nac)/\w'.cell? ⟨wb,5,none⟩=some (.int .i64 n1)/\w'.cell? ⟨gn,on+n1 * 6,none⟩=some (.string xn)/\w'.cell? ⟨gn,on+n1 * 6+1,none⟩=some (.string xl)/\w'.cell? ⟨gn,on+n1 * 6+2,none⟩=some (.int .i64 xw)/\w'.cell? ⟨gn,on+n1 * 6+3,none⟩=some (.int .i64 xh)/\w'.cell? ⟨gn,on+n1 * 6+4,none⟩=some (.int .i64 xc)/\w'.cell? ⟨gn,on+n1 * 6+5,none⟩=some (.slice pa pl pc)) (n:=15) (by kernel_rfl) (by exact⟨Ext.cell ((Ext.refl wF).drew) b2,Ext.cell ((Ext.refl wF).drew) b5,Ext.cell ((Ext.refl wF).drew) k0,Ext.cell ((Ext.refl wF).drew) kl,Ext.cell ((Ext.refl wF).drew) kw,Ext.cell ((Ext.refl wF).drew) kh,Ext.cell ((Ext.refl wF).drew) kc,Ext.cell ((Ext.refl wF).drew) kp⟩) (fun hHeld=>?_)
      refine kT 15 0 ?_ rfl (by kernel_rfl) (fun _ _ _ h=>h) (Or.inl ⟨by rfl,?_⟩) hHeld ?_;rotate_left
      · (intro w' hSw;(try dsimp only at hSw);go_simp <;> with_reducible rfl)
      (try simp only[Act.put,q1,q2,q3])
      refine kT 15 1 ?_ rfl (by kernel_rfl) (fun _ _ _ h=>h) (Or.inl ⟨by rfl,?_⟩) hHeld ?_;rotate_left
      · (intro w' hSw;(try dsimp only at hSw);go_simp <;> with_reducible rfl)
      (try simp only[Act.put,q1,q2,q3])
      refine kT 15 2 ?_ rfl (by kernel_rfl) (fun _ _ _ h=>h) (Or.inl ⟨by rfl,?_⟩) hHeld ?_;rotate_left
      · (intro w' hSw;(try dsimp only at hSw);go_simp <;> with_reducible rfl)
      (try simp only[Act.put,q1,q2,q3])
      refine kT 15 3 ?_ rfl (by kernel_rfl) (fun _ _ _ h=>h) (Or.inl ⟨by rfl,?_⟩) hHeld ?_;rotate_left
      · (intro w' hSw;(try dsimp only at hSw);go_simp <;> with_reducible rfl)
      (try simp only[Act.put,q1,q2,q3])
      refine kT 15 4 ?_ rfl (by kernel_rfl) (fun _ _ _ h=>h) (Or.inl ⟨by rfl,?_⟩) hHeld ?_;rotate_left
      · (intro w' hSw;(try dsimp only at hSw);go_simp <;> with_reducible rfl)
      (try simp only[Act.put,q1,q2,q3])
      refine kT 15 5 ?_ rfl (by kernel_rfl) (fun _ _ _ h=>h) (Or.inl ⟨by rfl,?_⟩) hHeld ?_;rotate_left
      · (intro w' hSw;(try dsimp only at hSw);go_simp <;> with_reducible rfl)
      (try simp only[Act.put,q1,q2,q3])
      refine kT 15 6 ?_ rfl (by kernel_rfl) (fun _ _ _ h=>h) (Or.inl ⟨by rfl,?_⟩) hHeld ?_;rotate_left
      · (intro w' hSw;(try dsimp only at hSw);go_simp <;> with_reducible rfl)
      (try simp only[Act.put,q1,q2,q3])
      refine kT 15 7 ?_ rfl (by kernel_rfl) (fun _ _ _ h=>h) (Or.inl ⟨by rfl,?_⟩) hHeld ?_;rotate_left
      · (intro w' hSw;(try dsimp only at hSw);go_simp <;> with_reducible rfl)
      (try simp only[Act.put,q1,q2,q3])
      refine kT 15 8 ?_ rfl (by kernel_rfl) (fun _ _ _ h=>h) (Or.inl ⟨by rfl,?_⟩) hHeld ?_;rotate_left
      · (intro w' hSw;(try dsimp only at hSw);go_simp <;> with_reducible rfl)
      (try simp only[Act.put,q1,q2,q3])
      refine kT 15 9 ?_ rfl (by kernel_rfl) (fun _ _ _ h=>h) (Or.inl ⟨by rfl,?_⟩) hHeld ?_;rotate_left
      · (intro w' hSw;(try dsimp only at hSw);go_simp <;> with_reducible rfl)
      (try simp only[Act.put,q1,q2,q3])
      refine kT 15 10 ?_ rfl (by kernel_rfl) (fun _ _ _ h=>h) (Or.inl ⟨by rfl,?_⟩) hHeld ?_;rotate_left
      · (intro w' hSw;(try dsimp only at hSw);go_simp <;> with_reducible rfl)
      (try simp only[Act.put,q1,q2,q3])
      refine kT 15 11 ?_ rfl (by kernel_rfl) (fun _ _ _ h=>h) (Or.inl ⟨by rfl,?_⟩) hHeld ?_;rotate_left
      · (intro w' hSw;(try dsimp only at hSw);go_simp <;> with_reducible rfl)
      (try simp only[Act.put,q1,q2,q3])
      refine wpAnyK_step (o:=_) (i:=12) rfl (by kernel_rfl) (fun KK hKK=>?_);go_simp
      (go_at_call 79;refine Calls.mono (by with_reducible exact HNA.out _ (X0F.out.drew)) ?_;rintro e w7 ⟨⟨u,rfl,xs,rfl,hst⟩,x7⟩)
      have XF7:Hid (Ext wF w7):=Lib.hid ((Ext.refl wF).drew.trans x7);have X7:=Lib.hid (XF.out.trans XF7.out);have U7:Hid (But wb wr w7):=Lib.hid (But.of X7.out);have B7:=Lib.hid (HI.out.ext X7.out).bx;have hst2:=hst;rw[StmP] at hst2;obtain⟨ra,rc,va,vc,nb,nc,rfl,-⟩:=hst2;have hSP:Hid (StmP (fun g=>wr.heap.size<=g) w7 (.mk 1 xn [] AL []) [.int .i64 1,.string xn,.slice ra ([]:List Two).length rc,.slice va AL.length vc,.slice nb ([]:List Stm).length nc]):=Lib.hid (by have s6:=XF.out.size;exact StmP.keep (fun _ _ _=>rfl) (fun g hg _=>Nat.le_trans s6 hg) _ _ hst);obtain⟨AN,hAN⟩:∃ n,n=AL.length:=⟨_,rfl⟩;simp only[List.length_nil] at hSP;rw[<-hAN] at hSP;simp only[List.length_nil];rw[<-hAN]
      have OW7:=Lib.hid (At.own_ext (own_but OW.out U7.out HWL.out) ((Ext.refl w7).alloc (.cells #[.int .i64 1,.string xn,.slice ra 0 rc,.slice va AN vc,.slice nb 0 nc] 67)));clear x7 hst hAN;refine hKK.out _ _ (fun _=>?_) (fun hH=>?_)
      · (exact⟨Ext.cell (XF7.out) b2,Ext.cell (XF7.out) b5,Ext.cell (XF7.out) k0,Ext.cell (XF7.out) kl,Ext.cell (XF7.out) kw,Ext.cell (XF7.out) kh,Ext.cell (XF7.out) kc,Ext.cell (XF7.out) kp⟩)
      have hHeld2:=hH;clear hKK KK hHeld hH;have hHeld:=hHeld2 (by decide);clear hHeld2
      (try dsimp only at hHeld)
      (try simp only[Act.put,q1,q2,q3])
      refine wpAnyK_step (o:=_) (i:=13) rfl (by kernel_rfl) (fun KK hKK=>?_);go_simp;refine hKK.out _ _ (fun _=>?_) (fun hH=>?_)
      · (exact⟨Ext.cell (XF7.out.alloc _) b2,Ext.cell (XF7.out.alloc _) b5,Ext.cell (XF7.out.alloc _) k0,Ext.cell (XF7.out.alloc _) kl,Ext.cell (XF7.out.alloc _) kw,Ext.cell (XF7.out.alloc _) kh,Ext.cell (XF7.out.alloc _) kc,Ext.cell (XF7.out.alloc _) kp⟩)
      have hHeld2:=hH;clear hKK KK hHeld hH;have hHeld:=hHeld2 (by decide);clear hHeld2
      (try dsimp only at hHeld)
      (try simp only[Act.put,q1,q2,q3])
      refine wpAnyK_step (o:=_) (i:=14) rfl (by kernel_rfl) (fun KK hKK=>?_);refine step_append_lies _ (by rfl) _ _ 31 (by rfl) w.heap.size 67 j0 _ 5 96 Tryz.underlying31 hj0 hjz0 hjz1 hjz2 rfl (by decide) _ _ _ (by rfl) OW7.out ⟨w7.heap.size,0,none⟩ 1 1 [.int .i64 1,.string xn,.slice ra 0 rc,.slice va AN vc,.slice nb 0 nc] (by rfl) (by rfl) (World.news_of_block (cs:=#[.int .i64 1,.string xn,.slice ra 0 rc,.slice va AN vc,.slice nb 0 nc]) (t:=67) (fr:=(0,0)) (heap_alloc_new w7 _)) (by intro u hu;simp at hu;rcases hu with rfl | rfl | rfl | rfl | rfl <;> rfl) (by omega) (by unfold maxLen;omega) (by omega) (by have:=HI.out.b.size;have:=U7.out.size;simp;omega) _ rfl ?_;intro g7 c7 w9 hown9 hgrow9 hor9 _
      have HNX:Hid (BarAt w.heap.size 0 (L++[.mk 1 xn [] AL []]) (.slice (some ⟨g7,0,none⟩) (LN+1) c7) w9):=Lib.hid (BarAt.nextB HLN.out OW.out HR.out HWL.out HI.out.b.size (U7.out.ext ((Ext.refl w7).alloc (.cells #[.int .i64 1,.string xn,.slice ra 0 rc,.slice va AN vc,.slice nb 0 nc] 67))) (StmP.keep (fun g _ hlt=>((Ext.refl w7).alloc _).block g hlt) (fun _ h _=>h) _ _ hSP.out) rfl (.inr rfl) hgrow9 hown9 (hor9.imp (fun h=>⟨rfl,h⟩) (fun h=>by simpa using h)));have UW9:Hid (But wb w w9):=Lib.hid (But.grown ((HI.out.b.trans U7.out).ext ((Ext.refl w7).alloc (.cells #[.int .i64 1,.string xn,.slice ra 0 rc,.slice va AN vc,.slice nb 0 nc] 67))) hgrow9 (fun k e=>(OW.out.lt k e).1))
      have B9:Hid (w9.heap[wb]? = some (boxO 80 g (some ⟨gn,on,none⟩) ea ca nac eac cac n1 k1)):=Lib.hid (by rw[hgrow9.block wb (by have:=(Array.getElem?_eq_some_iff.1 B7.out).1;simp;omega) (fun e=>by have:=(OW.out.lt wb e.symm).1;have:=HWL.out;omega)];exact At.heap_ext B7.out ((Ext.refl w7).alloc _));obtain⟨hcap1,hcap2⟩:=bar_cap HLN.out HNX.out;clear hown9 hgrow9 hor9;have X90:Hid (Ext w00 w9):=Lib.hid (But.fresh HX0.out UW9.out HWB.out);obtain⟨e0,e1,e2,e3,e4,e5,e6⟩:=cells7w B9.out;rw[HQ.out] at e2;have ef:w9.frozen? ⟨wb,5,none⟩=false:=Lib.frozen_of_heap B9.out 5;have m0:=X90.out.cell HK0.out;have ml:=X90.out.cell HKL.out;have mw:=X90.out.cell HKW.out;have mh:=X90.out.cell HKH.out;have mc:=X90.out.cell HKC.out;have mp:=X90.out.cell HKP.out;refine hKK.out _ _ (fun _=>?_) (fun hH=>?_)
      · (exact⟨e2,e5,m0,ml,mw,mh,mc,mp⟩)
      have hHeld2:=hH;clear hKK KK hHeld hH;have hHeld:=hHeld2 (by decide);clear hHeld2
      (try dsimp only at hHeld)
      (try simp only[Act.put,q1,q2,q3])
      refine wpAnyK_step (o:=_) (i:=15) rfl (by kernel_rfl) (fun KK hKK=>?_);go_simp;refine hKK.out _ _ (fun h=>absurd rfl h) (fun _=>?_);clear hKK KK
      (try simp only[Act.put,q1,q2,q3])
      refine wpAnyK_done (by kernel_rfl) ?_ _;go_wp2
      go_roundg (msr g (n1+1) k1)
      case measure=>have:=HMN.out;omega
      case rel=>exact⟨n1+1,k1,_,_,_,_,rfl,by have:=HMN.out;omega,rfl,hcap1,hcap2,by have:=HI.out.ll;have:=HMN.out;have:=HLN.out;omega,Lib.hid (by rw[List.length_append,HLN.out];rfl),Lib.hid ⟨BarAt.set HNX.out HWL.out,But.setCell (c:=wb) UW9.out ⟨wb,5,none⟩ rfl _,boxN B9.out,⟨by rw[HI.out.eq.1,HB1.out];simp,by rw[HI.out.eq.2,HB1.out]⟩,⟨HNQ.out,HI.out.lo.2⟩,by have:=HI.out.ll;have:=HMN.out;rw[List.length_append];simp;omega⟩⟩
    have fn:(xc == p)=false:=beq_eq_false_iff_ne.2 hcp;have HB1:=Lib.hid (HBE.out hcp);clear HBN HBE hcp;by_cases hkl:k1 < g.C.length
    · obtain⟨gc,oc2,rfl,kn,kq⟩:=HA3.out k1 hkl;have hcon:=HCON.out hkl;have hkq0:k1 < cl:=by rw[<-HCL.out];exact hkl
      have hcf:=HCF.out hkl;obtain⟨nm,hnm2⟩:∃ x,x=g.C[k1].1:=⟨_,rfl⟩;obtain⟨pk,hpk⟩:∃ x,x=g.C[k1].2:=⟨_,rfl⟩;rw[<-hnm2] at kn;rw[<-hpk] at kq hcf;have HKN:=Lib.hid kn;have HKQ:=Lib.hid kq;clear HCON HCF hkl kn kq hnm2 hpk HA3;by_cases hpp:pk=p
      · have fc:(pk == p)=true:=beq_iff_eq.2 hpp;simp only[hcf hpp] at hcon;have HCON:=Lib.hid hcon;clear hcf hcon hpp;have q1:decide ((n1:Int) < (q:Int))=true:=decide_eq_true (by have:=HQ.out;omega);have q2:decide (n1 < q)=true:=decide_eq_true (by have:=HQ.out;omega);have r1:decide ((k1:Int) < (cl:Int))=true:=decide_eq_true (by have:=HCL.out;omega);have r2:decide (k1 < cl)=true:=decide_eq_true (by have:=HCL.out;omega);have hnn:(0:Int)<=(n1:Int):=by omega
        have hkk:(0:Int)<=(k1:Int):=by omega
        have hnq:(n1:Int) < (q:Int):=by have:=HQ.out;omega
        have hkq:(k1:Int) < (cl:Int):=by have:=HCL.out;omega
        obtain⟨b0,b1,b2,b3,b4,b5,b6⟩:=cells7w HI.out.bx;rw[HQ.out] at b2;rw[HCL.out] at b4;go_wp2_with fail
        go_quiet (fail)
        obtain⟨wA,hwA⟩:∃ w9,w9=wr.drewN nq:=⟨_,rfl⟩;have YA:Hid (Ext wr wA):=Lib.hid (by rw[hwA];exact(Ext.refl wr).drewN _);rw[<-hwA];clear hwA b0 b1 b2 b3 b4 b5 b6;have XA:=Lib.hid (YA.out);have HIA:=Lib.hid (HI.out.ext XA.out);have X0A:=Lib.hid (xr.out.trans XA.out);obtain⟨b0,b1,b2,b3,b4,b5,b6⟩:=cells7w HIA.out.bx;rw[HQ.out] at b2;rw[HCL.out] at b4;have kn:=X0A.out.cell HKN.out;have kq:=X0A.out.cell HKQ.out;go_wp2_with fail
        go_region_held3 (fun w'=>w'.cell? ⟨wb,0,none⟩=some (.string g.name)/\w'.cell? ⟨wb,1,none⟩=some (.bool g.dir)/\w'.cell? ⟨wb,2,none⟩=some (.slice (some ⟨gn,on,none⟩) q nac)/\w'.cell? ⟨wb,3,none⟩=some (.slice ea g.E.length eac)/\w'.cell? ⟨wb,4,none⟩=some (.slice (some ⟨gc,oc2,none⟩) cl cac)/\w'.cell? ⟨wb,5,none⟩=some (.int .i64 n1)/\w'.cell? ⟨wb,6,none⟩=some (.int .i64 k1)/\w'.cell? ⟨gc,oc2+k1 * 2,none⟩=some (.string nm)/\w'.cell? ⟨gc,oc2+k1 * 2+1,none⟩=some (.int .i64 pk))
          (refine⟨Ext.cell (w:=wA) ?_ b0,Ext.cell (w:=wA) ?_ b1,Ext.cell (w:=wA) ?_ b2,Ext.cell (w:=wA) ?_ b3,Ext.cell (w:=wA) ?_ b4,Ext.cell (w:=wA) ?_ b5,Ext.cell (w:=wA) ?_ b6,Ext.cell (w:=wA) ?_ kn,Ext.cell (w:=wA) ?_ kq⟩ <;> (repeat (first | (with_reducible refine Ext.drew ?_) | (with_reducible exact X6.out) | (with_reducible exact Ext.refl _))))
          (first | (go_at_call 78;refine Calls.mono (by with_reducible exact HCON.out _ XA.out.drew) ?_;rintro e w6 ⟨rfl,x6⟩;have X6:=Lib.hid (show Ext wA w6 from(Ext.refl wA).drew.trans x6)))
        obtain⟨wE,hwE⟩:∃ w9:World,w9=w6:=⟨_,rfl⟩;subst hwE;have XE:=Lib.hid (XA.out.trans X6.out);have HIE:=Lib.hid (HI.out.ext XE.out);have X0E:=Lib.hid (xr.out.trans XE.out);clear b0 b1 b2 b3 b4 b5 b6 kn kq;obtain⟨b0,b1,b2,b3,b4,b5,b6⟩:=cells7w HIE.out.bx;rw[HQ.out] at b2;rw[HCL.out] at b4;have kn:=X0E.out.cell HKN.out;have kq:=X0E.out.cell HKQ.out;have kc:=X0E.out.cell HKC.out;have cf6:wE.frozen? ⟨wb,6,none⟩=false:=Lib.frozen_of_heap HIE.out.bx 6;have cf5:wE.frozen? ⟨wb,5,none⟩=false:=Lib.frozen_of_heap HIE.out.bx 5;go_wp2_with fail
        go_quiet (fail)
        go_wp2;go_returns;exact blk_out (HIE.out.ext ((Ext.refl wE).drewN _)) HB1.out
      have fc:(pk == p)=false:=beq_eq_false_iff_ne.2 hpp;clear hcf hcon hpp;have q1:decide ((n1:Int) < (q:Int))=true:=decide_eq_true (by have:=HQ.out;omega);have q2:decide (n1 < q)=true:=decide_eq_true (by have:=HQ.out;omega);have r1:decide ((k1:Int) < (cl:Int))=true:=decide_eq_true (by have:=HCL.out;omega);have r2:decide (k1 < cl)=true:=decide_eq_true (by have:=HCL.out;omega);have hnn:(0:Int)<=(n1:Int):=by omega
      have hkk:(0:Int)<=(k1:Int):=by omega
      have hnq:(n1:Int) < (q:Int):=by have:=HQ.out;omega
      have hkq:(k1:Int) < (cl:Int):=by have:=HCL.out;omega
      obtain⟨b0,b1,b2,b3,b4,b5,b6⟩:=cells7w HI.out.bx;rw[HQ.out] at b2;rw[HCL.out] at b4;go_wp2_with fail
      go_quiet (fail)
      obtain⟨wA,hwA⟩:∃ w9,w9=wr.drewN nq:=⟨_,rfl⟩;have YA:Hid (Ext wr wA):=Lib.hid (by rw[hwA];exact(Ext.refl wr).drewN _);rw[<-hwA];clear hwA b0 b1 b2 b3 b4 b5 b6;have XA:=Lib.hid (YA.out);have HIA:=Lib.hid (HI.out.ext XA.out);have X0A:=Lib.hid (xr.out.trans XA.out);obtain⟨b0,b1,b2,b3,b4,b5,b6⟩:=cells7w HIA.out.bx;rw[HQ.out] at b2;rw[HCL.out] at b4;have kn:=X0A.out.cell HKN.out;have kq:=X0A.out.cell HKQ.out;go_wp2_with fail
      go_quiet (fail)
      obtain⟨wE,hwE⟩:∃ w9,w9=wA.drewN nq:=⟨_,rfl⟩;have YE:Hid (Ext wA wE):=Lib.hid (by rw[hwE];exact(Ext.refl wA).drewN _);rw[<-hwE];clear hwE b0 b1 b2 b3 b4 b5 b6 kn kq;have XE:=Lib.hid (XA.out.trans YE.out);have HIE:=Lib.hid (HI.out.ext XE.out);have X0E:=Lib.hid (xr.out.trans XE.out);obtain⟨b0,b1,b2,b3,b4,b5,b6⟩:=cells7w HIE.out.bx;rw[HQ.out] at b2;rw[HCL.out] at b4;have kn:=X0E.out.cell HKN.out;have kq:=X0E.out.cell HKQ.out;have kc:=X0E.out.cell HKC.out;have cf6:wE.frozen? ⟨wb,6,none⟩=false:=Lib.frozen_of_heap HIE.out.bx 6;have cf5:wE.frozen? ⟨wb,5,none⟩=false:=Lib.frozen_of_heap HIE.out.bx 5;go_wp2_with fail
      go_quiet (fail)
      go_wp2;go_returns;exact blk_out (HIE.out.ext ((Ext.refl wE).drewN _)) HB1.out
    clear HCON HCF HA3;have q1:decide ((n1:Int) < (q:Int))=true:=decide_eq_true (by have:=HQ.out;omega);have q2:decide (n1 < q)=true:=decide_eq_true (by have:=HQ.out;omega);have r1:decide ((k1:Int) < (cl:Int))=false:=decide_eq_false (by have:=HCL.out;omega);have r2:decide (k1 < cl)=false:=decide_eq_false (by have:=HCL.out;omega);have hnn:(0:Int)<=(n1:Int):=by omega
    have hkk:(0:Int)<=(k1:Int):=by omega
    have hnq:(n1:Int) < (q:Int):=by have:=HQ.out;omega
    obtain⟨b0,b1,b2,b3,b4,b5,b6⟩:=cells7w HI.out.bx;rw[HQ.out] at b2;rw[HCL.out] at b4;go_wp2_with fail
    go_quiet (fail)
    obtain⟨wA,hwA⟩:∃ w9,w9=wr.drewN nq:=⟨_,rfl⟩;have YA:Hid (Ext wr wA):=Lib.hid (by rw[hwA];exact(Ext.refl wr).drewN _);rw[<-hwA];clear hwA b0 b1 b2 b3 b4 b5 b6;have XA:=Lib.hid (YA.out);have HIA:=Lib.hid (HI.out.ext XA.out);have X0A:=Lib.hid (xr.out.trans XA.out);obtain⟨b0,b1,b2,b3,b4,b5,b6⟩:=cells7w HIA.out.bx;rw[HQ.out] at b2;rw[HCL.out] at b4;go_wp2_with fail
    go_quiet (fail)
    obtain⟨wE,hwE⟩:∃ w9,w9=wA.drewN nq:=⟨_,rfl⟩;have YE:Hid (Ext wA wE):=Lib.hid (by rw[hwE];exact(Ext.refl wA).drewN _);rw[<-hwE];clear hwE b0 b1 b2 b3 b4 b5 b6;have XE:=Lib.hid (XA.out.trans YE.out);have HIE:=Lib.hid (HI.out.ext XE.out);have X0E:=Lib.hid (xr.out.trans XE.out);obtain⟨b0,b1,b2,b3,b4,b5,b6⟩:=cells7w HIE.out.bx;rw[HQ.out] at b2;rw[HCL.out] at b4;have kc:=X0E.out.cell HKC.out;have cf6:wE.frozen? ⟨wb,6,none⟩=false:=Lib.frozen_of_heap HIE.out.bx 6;have cf5:wE.frozen? ⟨wb,5,none⟩=false:=Lib.frozen_of_heap HIE.out.bx 5;go_wp2_with fail
    go_quiet (fail)
    go_wp2;go_returns;exact blk_out (HIE.out.ext ((Ext.refl wE).drewN _)) HB1.out
  have hb:=blk_end (p:=p) hr (fun x hx=>absurd (List.getElem?_eq_some_iff.1 hx).1 hnl);have HB1:=Lib.hid hb;obtain⟨na',nac',ea',eac',ca',cac',hv,-,-,a3⟩:=HA.out;cases hv;have HA3:=Lib.hid a3;have hnq0:¬ n1 < q:=by rw[<-HQ.out];exact hnl
  clear hrf hr hnl hb a3 HIH;by_cases hkl:k1 < g.C.length
  · obtain⟨gc,oc2,rfl,kn,kq⟩:=HA3.out k1 hkl;have hcon:=HCON.out hkl;have hkq0:k1 < cl:=by rw[<-HCL.out];exact hkl
    have hcf:=HCF.out hkl;obtain⟨nm,hnm2⟩:∃ x,x=g.C[k1].1:=⟨_,rfl⟩;obtain⟨pk,hpk⟩:∃ x,x=g.C[k1].2:=⟨_,rfl⟩;rw[<-hnm2] at kn;rw[<-hpk] at kq hcf;have HKN:=Lib.hid kn;have HKQ:=Lib.hid kq;clear HCON HCF hkl kn kq hnm2 hpk HA3;by_cases hpp:pk=p
    · have fc:(pk == p)=true:=beq_iff_eq.2 hpp;simp only[hcf hpp] at hcon;have HCON:=Lib.hid hcon;clear hcf hcon hpp;have q1:decide ((n1:Int) < (q:Int))=false:=decide_eq_false (by have:=HQ.out;omega);have q2:decide (n1 < q)=false:=decide_eq_false (by have:=HQ.out;omega);have r1:decide ((k1:Int) < (cl:Int))=true:=decide_eq_true (by have:=HCL.out;omega);have r2:decide (k1 < cl)=true:=decide_eq_true (by have:=HCL.out;omega);have hnn:(0:Int)<=(n1:Int):=by omega
      have hkk:(0:Int)<=(k1:Int):=by omega
      have hkq:(k1:Int) < (cl:Int):=by have:=HCL.out;omega
      obtain⟨b0,b1,b2,b3,b4,b5,b6⟩:=cells7w HI.out.bx;rw[HQ.out] at b2;rw[HCL.out] at b4;go_wp2_with fail
      go_quiet (fail)
      obtain⟨wA,hwA⟩:∃ w9,w9=wr.drewN nq:=⟨_,rfl⟩;have YA:Hid (Ext wr wA):=Lib.hid (by rw[hwA];exact(Ext.refl wr).drewN _);rw[<-hwA];clear hwA b0 b1 b2 b3 b4 b5 b6;have XA:=Lib.hid (YA.out);have HIA:=Lib.hid (HI.out.ext XA.out);have X0A:=Lib.hid (xr.out.trans XA.out);obtain⟨b0,b1,b2,b3,b4,b5,b6⟩:=cells7w HIA.out.bx;rw[HQ.out] at b2;rw[HCL.out] at b4;have kn:=X0A.out.cell HKN.out;have kq:=X0A.out.cell HKQ.out;go_wp2_with fail
      go_region_held3 (fun w'=>w'.cell? ⟨wb,0,none⟩=some (.string g.name)/\w'.cell? ⟨wb,1,none⟩=some (.bool g.dir)/\w'.cell? ⟨wb,2,none⟩=some (.slice na q nac)/\w'.cell? ⟨wb,3,none⟩=some (.slice ea g.E.length eac)/\w'.cell? ⟨wb,4,none⟩=some (.slice (some ⟨gc,oc2,none⟩) cl cac)/\w'.cell? ⟨wb,5,none⟩=some (.int .i64 n1)/\w'.cell? ⟨wb,6,none⟩=some (.int .i64 k1)/\w'.cell? ⟨gc,oc2+k1 * 2,none⟩=some (.string nm)/\w'.cell? ⟨gc,oc2+k1 * 2+1,none⟩=some (.int .i64 pk))
        (refine⟨Ext.cell (w:=wA) ?_ b0,Ext.cell (w:=wA) ?_ b1,Ext.cell (w:=wA) ?_ b2,Ext.cell (w:=wA) ?_ b3,Ext.cell (w:=wA) ?_ b4,Ext.cell (w:=wA) ?_ b5,Ext.cell (w:=wA) ?_ b6,Ext.cell (w:=wA) ?_ kn,Ext.cell (w:=wA) ?_ kq⟩ <;> (repeat (first | (with_reducible refine Ext.drew ?_) | (with_reducible exact X6.out) | (with_reducible exact Ext.refl _))))
        (first | (go_at_call 78;refine Calls.mono (by with_reducible exact HCON.out _ XA.out.drew) ?_;rintro e w6 ⟨rfl,x6⟩;have X6:=Lib.hid (show Ext wA w6 from(Ext.refl wA).drew.trans x6)))
      obtain⟨wE,hwE⟩:∃ w9:World,w9=w6:=⟨_,rfl⟩;subst hwE;have XE:=Lib.hid (XA.out.trans X6.out);have HIE:=Lib.hid (HI.out.ext XE.out);have X0E:=Lib.hid (xr.out.trans XE.out);clear b0 b1 b2 b3 b4 b5 b6 kn kq;obtain⟨b0,b1,b2,b3,b4,b5,b6⟩:=cells7w HIE.out.bx;rw[HQ.out] at b2;rw[HCL.out] at b4;have kn:=X0E.out.cell HKN.out;have kq:=X0E.out.cell HKQ.out;have cf6:wE.frozen? ⟨wb,6,none⟩=false:=Lib.frozen_of_heap HIE.out.bx 6;have cf5:wE.frozen? ⟨wb,5,none⟩=false:=Lib.frozen_of_heap HIE.out.bx 5;go_wp2_with fail
      go_quiet (fail)
      go_wp2;go_returns;exact blk_out (HIE.out.ext ((Ext.refl wE).drewN _)) HB1.out
    have fc:(pk == p)=false:=beq_eq_false_iff_ne.2 hpp;clear hcf hcon hpp;have q1:decide ((n1:Int) < (q:Int))=false:=decide_eq_false (by have:=HQ.out;omega);have q2:decide (n1 < q)=false:=decide_eq_false (by have:=HQ.out;omega);have r1:decide ((k1:Int) < (cl:Int))=true:=decide_eq_true (by have:=HCL.out;omega);have r2:decide (k1 < cl)=true:=decide_eq_true (by have:=HCL.out;omega);have hnn:(0:Int)<=(n1:Int):=by omega
    have hkk:(0:Int)<=(k1:Int):=by omega
    have hkq:(k1:Int) < (cl:Int):=by have:=HCL.out;omega
    obtain⟨b0,b1,b2,b3,b4,b5,b6⟩:=cells7w HI.out.bx;rw[HQ.out] at b2;rw[HCL.out] at b4;go_wp2_with fail
    go_quiet (fail)
    obtain⟨wA,hwA⟩:∃ w9,w9=wr.drewN nq:=⟨_,rfl⟩;have YA:Hid (Ext wr wA):=Lib.hid (by rw[hwA];exact(Ext.refl wr).drewN _);rw[<-hwA];clear hwA b0 b1 b2 b3 b4 b5 b6;have XA:=Lib.hid (YA.out);have HIA:=Lib.hid (HI.out.ext XA.out);have X0A:=Lib.hid (xr.out.trans XA.out);obtain⟨b0,b1,b2,b3,b4,b5,b6⟩:=cells7w HIA.out.bx;rw[HQ.out] at b2;rw[HCL.out] at b4;have kn:=X0A.out.cell HKN.out;have kq:=X0A.out.cell HKQ.out;go_wp2_with fail
    go_quiet (fail)
    obtain⟨wE,hwE⟩:∃ w9,w9=wA.drewN nq:=⟨_,rfl⟩;have YE:Hid (Ext wA wE):=Lib.hid (by rw[hwE];exact(Ext.refl wA).drewN _);rw[<-hwE];clear hwE b0 b1 b2 b3 b4 b5 b6 kn kq;have XE:=Lib.hid (XA.out.trans YE.out);have HIE:=Lib.hid (HI.out.ext XE.out);have X0E:=Lib.hid (xr.out.trans XE.out);obtain⟨b0,b1,b2,b3,b4,b5,b6⟩:=cells7w HIE.out.bx;rw[HQ.out] at b2;rw[HCL.out] at b4;have kn:=X0E.out.cell HKN.out;have kq:=X0E.out.cell HKQ.out;have cf6:wE.frozen? ⟨wb,6,none⟩=false:=Lib.frozen_of_heap HIE.out.bx 6;have cf5:wE.frozen? ⟨wb,5,none⟩=false:=Lib.frozen_of_heap HIE.out.bx 5;go_wp2_with fail
    go_quiet (fail)
    go_wp2;go_returns;exact blk_out (HIE.out.ext ((Ext.refl wE).drewN _)) HB1.out
  clear HCON HCF HA3;have q1:decide ((n1:Int) < (q:Int))=false:=decide_eq_false (by have:=HQ.out;omega);have q2:decide (n1 < q)=false:=decide_eq_false (by have:=HQ.out;omega);have r1:decide ((k1:Int) < (cl:Int))=false:=decide_eq_false (by have:=HCL.out;omega);have r2:decide (k1 < cl)=false:=decide_eq_false (by have:=HCL.out;omega);obtain⟨b0,b1,b2,b3,b4,b5,b6⟩:=cells7w HI.out.bx;rw[HQ.out] at b2;rw[HCL.out] at b4;go_wp2_with fail
  go_quiet (fail)
  go_wp2;go_returns;exact blk_out (HI.out.ext ((Ext.refl wr).drewN _)) HB1.out
theorem blkR_all (w00:World)(g:Gr)(na ea ca:Option Addr)(nac eac cac wb:Nat)(ha:GrIn w00 (.agg #[.string g.name,.bool g.dir,.slice na g.N.length nac,.slice ea g.E.length eac,.slice ca g.C.length cac]) g)(hsm:GrSm g)(hg0:grE g=0)(hwb:w00.heap.size<=wb):∀ M,BlkRC w00 g na ea ca nac eac cac wb M
  | 0=>fun _ _ _ _ h=>absurd h (Nat.not_lt_zero _)
  | M+1=>blkR_step w00 g na ea ca nac eac cac wb M ha hsm hg0 hwb (blkR_all w00 g na ea ca nac eac cac wb ha hsm hg0 hwb M)
end Go.Proofs.YtjaeedbjknejdaaGreatDoor.Ex
