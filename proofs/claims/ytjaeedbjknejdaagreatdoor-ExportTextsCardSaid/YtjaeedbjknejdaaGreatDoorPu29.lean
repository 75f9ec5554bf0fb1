/- Packed texts: ExpBlk -/
import Derived.Test.YtjaeedbjknejdaaGreatDoorPu18
import Derived.Deep.LoopGhost
set_option linter.unusedVariables false
set_option linter.unusedSimpArgs false
set_option maxHeartbeats 16000000
set_option maxRecDepth 100000
namespace Go.Proofs.YtjaeedbjknejdaaGreatDoor.Ex
open Go.RowKit Go.Sort Go.Lib Go.Shelf Fx Lx Tr At Pa Go.Proofs.YtjaeedbjknejdaaGreatDoor.Nm
def BlkC (w00:World)(g:Gr)(na ea ca:Option Addr)(nac eac cac wb M:Nat):Prop :=
  ∀ (p:Int) (n k:Nat) (w:World),msr g n k < M->n<=g.N.length->k<=g.C.length->Ext w00 w->w.heap[wb]? = some (boxO 74 g na ea ca nac eac cac n k) ->
    Calls Tryz.prog 28 #[.pointer (some ⟨wb,0,none⟩),.int .i64 p] w fun e w'=>(∃ a c,e=.returned (.slice a (blkT g p n k).1.length c)/\StmsP (w.heap.size <= ·) w' a (blkT g p n k).1/\(blkT g p n k).1.length<=c/\c<=maxLen)/\But wb w w'/\w'.heap[wb]? = some (boxO 74 g na ea ca nac eac cac (blkT g p n k).2.1 (blkT g p n k).2.2)
theorem name16b {n:ByteArray}(h:nameB n.data.toList=true):n.size<=16:=by
  unfold nameB at h;simp only[Bool.and_eq_true,decide_eq_true_eq] at h;rw[size_len];exact h.1.1.2
theorem nd_at {g:Gr}(hok:GrOk g){n:Nat}(h:n < g.N.length):g.N[n].ports.length<=8/\(∀ q ∈ g.N[n].ports,0<=q.2/\q.2<=3/\q.1.size<=1000)/\(0<=g.N[n].w/\g.N[n].w<=1048576)/\(0<=g.N[n].h/\g.N[n].h<=1048576):=by
  obtain⟨-,-,-,h1,h2,h3,h4,-,-,h5⟩:=nd_ok (hok.nd n h);obtain⟨p1,p2⟩:=prt_ok h5;refine⟨p1,fun q hq=>?_,⟨by omega,h2⟩,⟨by omega,h4⟩⟩;obtain⟨k,hk,rfl⟩:=List.getElem_of_mem hq;obtain⟨a,-,b,c⟩:=p2 k hk;exact⟨b,c,Nat.le_trans (name16b a) (by decide)⟩
theorem nodeA_le (x:Nd):(nodeA x).length<=4:=by
  unfold nodeA;simp only[List.length_append];have h:∀ (c:Prop) [Decidable c] (y:Two),(if c then [] else [y]).length<=1:=fun c _ y=>by split <;> simp
  have h1:=h (x.h=10000) (kHeight,fmtB x.h);have h2:=h (x.label=x.name) (kLabel,x.label);have h3:=h (x.ports=[]) (kPorts,portsTx x.ports);have h4:=h (x.w=20000) (kWidth,fmtB x.w);omega
theorem msr_le {g:Gr}(hok:GrOk g)(n k:Nat):msr g n k<=80:=by
  have:=hok.nl;have:=hok.cl;unfold msr;omega
theorem BlkI.ext {w wr w':World}{wb:Nat}{T:TypeId}{g:Gr}{na ea ca:Option Addr}{nac eac cac:Nat}{p:Int}{RL:List Stm}{RS:Nat × Nat}{n k:Nat}{L:List Stm}{v:Value}(h:BlkI w wb T g na ea ca nac eac cac p RL RS n k L v wr)(x:Ext wr w'):BlkI w wb T g na ea ca nac eac cac p RL RS n k L v w':=by
  obtain⟨X,o,c⟩:=h.row.own;exact⟨⟨X,At.own_ext o x,StmsC.keep (fun g hk hlt=>x.block g hlt) (fun g hk _=>hk) _ X c⟩,h.b.ext x,At.heap_ext h.bx x,h.eq,h.lo,h.ll⟩
theorem blk_out {w w':World}{wb:Nat}{T:TypeId}{g:Gr}{na ea ca:Option Addr}{nac eac cac:Nat}{p:Int}{RL:List Stm}{RS:Nat × Nat}{n k:Nat}{L:List Stm}{v:Value}(h:BlkI w wb T g na ea ca nac eac cac p RL RS n k L v w')(hb:blkT g p n k=([],n,k)):
    (∃ a c,Ending.returned v=.returned (.slice a RL.length c)/\StmsP (w.heap.size <= ·) w' a RL/\RL.length<=c/\c<=maxLen)/\But wb w w'/\w'.heap[wb]? = some (boxO T g na ea ca nac eac cac RS.1 RS.2):=by
  have e1:RL=L:=by rw[h.eq.1,hb];simp
  have e2:RS=(n,k):=by rw[h.eq.2,hb]
  rw[e1,e2];obtain⟨X,o,c⟩:=h.row.own;obtain⟨b,cap,e,h1,h2,h3⟩:=own_stms (ok':=fun g=>w.heap.size<=g) o c (fun g hk=>by rcases hk with hk | hk <;> omega) (fun g hk=>hk);exact⟨⟨b,cap,by rw[e],h1,h2,h3⟩,h.b,h.bx⟩
theorem bar_cap {B LN:Nat}{L:List Stm}{s:Stm}{a:Option Addr}{c:Nat}{w:World}(hl:LN=L.length)(h:BarAt B 0 (L++[s]) (.slice a (LN+1) c) w):LN+1<=c/\c<=maxLen:=by
  obtain⟨X,o,-⟩:=h.own;obtain⟨a',c',e,h1,h2⟩:=row_val o;have hl2:(L++[s]).length=LN+1:=by rw[List.length_append,hl];rfl
  rw[hl2] at h1;injection e with _ _ e3;rw[e3];exact⟨h1,h2⟩
theorem blk_step (w00:World)(g:Gr)(na ea ca:Option Addr)(nac eac cac wb M:Nat)(ha:GrIn w00 (.agg #[.string g.name,.bool g.dir,.slice na g.N.length nac,.slice ea g.E.length eac,.slice ca g.C.length cac]) g)(hcp:GrCp w00 (.agg #[.string g.name,.bool g.dir,.slice na g.N.length nac,.slice ea g.E.length eac,.slice ca g.C.length cac]) g)(hsm:GrSm g)(hg0:grE g=0)(he:Env w00)(hwb:w00.heap.size<=wb)(ih:BlkC w00 g na ea ca nac eac cac wb M):BlkC w00 g na ea ca nac eac cac wb (M+1):=by
  intro p n k w hm hn0 hk0 x0 hb0;have hok:=gr_ok hg0;obtain⟨RL,hRL⟩:∃ RL,RL=(blkT g p n k).1:=⟨_,rfl⟩;obtain⟨RS,hRS⟩:∃ RS,RS=(blkT g p n k).2:=⟨_,rfl⟩;rw[<-hRL,<- hRS];obtain⟨j0,hj0,hjz0,hjz1,hjz2⟩:=info_parts info_stm;have hwl:=(Array.getElem?_eq_some_iff.1 hb0).1;have HST:Hid (BlkI w wb 74 g na ea ca nac eac cac p RL RS n k [] (.slice none 0 0) w):=Lib.hid ⟨⟨[],World.ownsRow_nil _ _ _ _,rfl⟩,But.refl _ _,hb0,⟨by rw[hRL];rfl,hRS⟩,⟨hn0,hk0⟩,by have:=msr_le hok n k;simpa using Nat.le_trans this (by decide)⟩;have HM:=Lib.hid hm;have HA:=Lib.hid ha;have HCP:=Lib.hid hcp;have HSM:=Lib.hid hsm;have HG0:=Lib.hid hg0;have HE:=Lib.hid he;have HWB:=Lib.hid hwb;have HIH:=Lib.hid ih;have HOK:=Lib.hid hok;have HX0:=Lib.hid x0;have HWL:=Lib.hid hwl;obtain⟨q,hq⟩:∃ n,n=g.N.length:=⟨_,rfl⟩
  obtain⟨el,hel⟩:∃ n,n=g.E.length:=⟨_,rfl⟩;obtain⟨cl,hcle⟩:∃ n,n=g.C.length:=⟨_,rfl⟩;have HQ:=Lib.hid hq.symm;have HEL:=Lib.hid hel.symm;have HCL:=Lib.hid hcle.symm;have hql:q<=64:=by rw[hq];exact hok.nl
  have hcll:cl<=16:=by rw[hcle];exact hok.cl
  clear hm ha hcp hsm hg0 he hwb ih hok x0 hb0 hn0 hk0 hRL hRS hq hel hcle hwl;go_enter Tryz.func28,Tryz.ntmps28;go_wp2_with fail
  go_loopg [5] (msr g n k) (fun f ov wr=>∃ (n1 k1:Nat) (L:List Stm) (oa:Option Addr) (LN oc:Nat),f=msr g n1 k1/\f<=msr g n k/\ov=.slice oa LN oc/\LN<=oc/\oc<=maxLen/\LN<=100/\Hid (LN=L.length)/\Hid (BlkI w wb 74 g na ea ca nac eac cac p RL RS n1 k1 L (.slice oa LN oc) wr))
  case atStart=>exact⟨n,k,[],none,0,0,rfl,Nat.le_refl _,rfl,Nat.le_refl _,Nat.zero_le _,Nat.zero_le _,Lib.hid rfl,HST⟩
  clear HST;obtain⟨n1,k1,L,oa,LN,oc,hf,hf2,rfl,hoc,hom,hLN,HLN,HI⟩:=hrel;have hn1:n1<=q:=by rw[<-HQ.out];exact HI.out.lo.1
  have hk1:k1<=cl:=by rw[<-HCL.out];exact HI.out.lo.2
  have xr:Hid (Ext w00 wr):=Lib.hid (But.fresh HX0.out HI.out.b HWB.out);have hrd:=ready_any g na ea ca nac eac cac n1 k1 wb p wr (HA.out.ext xr.out) (HCP.out.ext HA.out xr.out) HSM.out HG0.out HI.out.bx HI.out.lo.2 HI.out.lo.1;by_cases hr:readyT g p n1 k1=true
  · rw[hr] at hrd;have hkl:=ready_lt hr;have hc:=blk_clu hr;obtain⟨BD,hBD⟩:∃ b,b=blkT g k1 n1 (k1+1):=⟨_,rfl⟩;have hlt:msr g n1 (k1+1) < M:=by have:=HM.out;have:msr g n1 (k1+1)+1=msr g n1 k1:=by { unfold msr;omega };omega
    have hmo:=blk_mono g k1 n1 (k1+1);have hle:=blk_le (p:=(k1:Int)) HI.out.lo.1 (show k1+1<=g.C.length from hkl);have hln:=blk_len (p:=(k1:Int)) HI.out.lo.1 (show k1+1<=g.C.length from hkl);have hm80:=msr_le HOK.out n1 (k1+1);have hih:=fun(w5:World) (x:Ext w00 w5) (hb:w5.heap[wb]? = some (boxO 74 g na ea ca nac eac cac n1 (k1+1)))=>HIH.out k1 n1 (k1+1) w5 hlt HI.out.lo.1 hkl x hb
    simp only[<-hBD] at hc hmo hle hln hih;obtain⟨BL,n2,k2⟩:=BD;dsimp only at hc hmo hle hln hih;obtain⟨na',nac',ea',eac',ca',cac',hv,-,-,a3⟩:=HA.out;cases hv;obtain⟨gc,oc',rfl,kn,-⟩:=a3 k1 hkl;have hnm:(Option.map Prod.fst g.C[k1]?).getD ⟨#[]⟩=g.C[k1].1:=by rw[List.getElem?_eq_getElem hkl];rfl
    rw[hnm] at hc;obtain⟨nm,hnm2⟩:∃ x,x=g.C[k1].1:=⟨_,rfl⟩;rw[<-hnm2] at hc kn;have hkl':k1 < cl:=by rw[<-HCL.out];exact hkl
    have d0:(0:Int)<=(k1:Int):=by omega
    have d1:(k1:Int) < (cl:Int):=by omega
    have hmn:n2<=q:=by rw[<-HQ.out];exact hle.1
    have hmk:k2<=cl:=by rw[<-HCL.out];exact hle.2
    have hme:msr g n2 k2+1<=msr g n1 k1:=by unfold msr;rw[HQ.out,HCL.out];omega
    have HC:=Lib.hid hc;have HRD:=Lib.hid hrd;have HIH2:=Lib.hid hih;have HMO:=Lib.hid hmo;have HLE:=Lib.hid hle;have HKN:=Lib.hid kn;have HBL:=Lib.hid (show BL.length<=80 by omega);have HME:=Lib.hid hme;have HMB:=Lib.hid hBD;clear hc hrd hih hmo hle hln hm80 hlt hBD kn hnm hnm2 hkl hr a3 hme;go_wp2_with (go_at_call 65;refine Calls.mono (by with_reducible exact HRD.out) ?_;rintro e w5 ⟨rfl,x5⟩;have X5:=Lib.hid x5;have HI5:=Lib.hid (HI.out.ext x5);clear x5;obtain⟨b0,b1,b2,b3,b4,b5,b6⟩:=cells7w HI5.out.bx;have bf:w5.frozen? ⟨wb,6,none⟩=false:=Lib.frozen_of_heap HI5.out.bx 6);obtain⟨w6,hw6⟩:∃ w6,w6=w5.setCell ⟨wb,6,none⟩ (.int .i64 ((k1:Int)+1)):=⟨_,rfl⟩;have B6:Hid (w6.heap[wb]? = some (boxO 74 g na ea (some ⟨gc,oc',none⟩) nac eac cac n1 (k1+1))):=Lib.hid (by rw[hw6];exact boxK HI5.out.bx)
    have U6:Hid (But wb wr w6):=Lib.hid (by rw[hw6];exact But.setCell (c:=wb) (But.of X5.out) ⟨wb,6,none⟩ rfl _);rw[<-hw6];clear hw6 b0 b1 b2 b3 b4 b5 b6 bf;obtain⟨c0,c1,c2,c3,c4,c5,c6⟩:=cells7w B6.out;rw[show g.C.length=cl from HCL.out] at c4;have X60:Hid (Ext w00 w6):=Lib.hid (But.fresh HX0.out (HI.out.b.trans U6.out) HWB.out);have kn:=X60.out.cell HKN.out;go_wp2_with fail;refine wp_region_K (S:=fun w'=>w'.cell? ⟨wb,4,none⟩=some (.slice (some ⟨gc,oc',none⟩) cl cac)/\w'.cell? ⟨gc,oc'+k1 * 2,none⟩=some (.string nm)) (n:=21) (by kernel_rfl) (by exact⟨Ext.cell ((Ext.refl w6).drew) c4,Ext.cell ((Ext.refl w6).drew) kn⟩) (fun hHeld=>?_);refine kT 21 0 ?_ rfl (by kernel_rfl) (fun _ _ _ h=>h) (Or.inl ⟨by rfl,?_⟩) hHeld ?_;rotate_left
    · (intro w' hSw;(try dsimp only at hSw);go_simp <;> with_reducible rfl)
    (try simp only[Act.put,q1,q2,q3])
    refine kT 21 1 ?_ rfl (by kernel_rfl) (fun _ _ _ h=>h) (Or.inl ⟨by rfl,?_⟩) hHeld ?_;rotate_left
    · (intro w' hSw;(try dsimp only at hSw);go_simp <;> with_reducible rfl)
    (try simp only[Act.put,q1,q2,q3])
    refine kT 21 2 ?_ rfl (by kernel_rfl) (fun _ _ _ h=>h) (Or.inl ⟨by rfl,?_⟩) hHeld ?_;rotate_left
    · (intro w' hSw;(try dsimp only at hSw);go_simp <;> with_reducible rfl)
    (try simp only[Act.put,q1,q2,q3])
    refine kT 21 3 ?_ rfl (by kernel_rfl) (fun _ _ _ h=>h) (Or.inl ⟨by rfl,?_⟩) hHeld ?_;rotate_left
    · (intro w' hSw;(try dsimp only at hSw);go_simp <;> with_reducible rfl)
    (try simp only[Act.put,q1,q2,q3])
    refine kT 21 4 ?_ rfl (by kernel_rfl) (fun _ _ _ h=>h) (Or.inl ⟨by rfl,?_⟩) hHeld ?_;rotate_left
    · (intro w' hSw;(try dsimp only at hSw);go_simp <;> with_reducible rfl)
    (try simp only[Act.put,q1,q2,q3])
    refine kT 21 5 ?_ rfl (by kernel_rfl) (fun _ _ _ h=>h) (Or.inl ⟨by rfl,?_⟩) hHeld ?_;rotate_left
    · (intro w' hSw;(try dsimp only at hSw);go_simp <;> with_reducible rfl)
    (try simp only[Act.put,q1,q2,q3])
    refine kT 21 6 ?_ rfl (by kernel_rfl) (fun _ _ _ h=>h) (Or.inl ⟨by rfl,?_⟩) hHeld ?_;rotate_left
    · (intro w' hSw;(try dsimp only at hSw);go_simp <;> with_reducible rfl)
    (try simp only[Act.put,q1,q2,q3])
    refine kT 21 7 ?_ rfl (by kernel_rfl) (fun _ _ _ h=>h) (Or.inl ⟨by rfl,?_⟩) hHeld ?_;rotate_left
    · (intro w' hSw;(try dsimp only at hSw);go_simp <;> with_reducible rfl)
    (try simp only[Act.put,q1,q2,q3])
    refine kT 21 8 ?_ rfl (by kernel_rfl) (fun _ _ _ h=>h) (Or.inl ⟨by rfl,?_⟩) hHeld ?_;rotate_left
    · (intro w' hSw;(try dsimp only at hSw);go_simp <;> with_reducible rfl)
    (try simp only[Act.put,q1,q2,q3])
    refine kT 21 9 ?_ rfl (by kernel_rfl) (fun _ _ _ h=>h) (Or.inl ⟨by rfl,?_⟩) hHeld ?_;rotate_left
    · (intro w' hSw;(try dsimp only at hSw);go_simp <;> with_reducible rfl)
    (try simp only[Act.put,q1,q2,q3])
    refine kT 21 10 ?_ rfl (by kernel_rfl) (fun _ _ _ h=>h) (Or.inl ⟨by rfl,?_⟩) hHeld ?_;rotate_left
    · (intro w' hSw;(try dsimp only at hSw);go_simp <;> with_reducible rfl)
    (try simp only[Act.put,q1,q2,q3])
    refine kT 21 11 ?_ rfl (by kernel_rfl) (fun _ _ _ h=>h) (Or.inl ⟨by rfl,?_⟩) hHeld ?_;rotate_left
    · (intro w' hSw;(try dsimp only at hSw);go_simp <;> with_reducible rfl)
    (try simp only[Act.put,q1,q2,q3])
    refine kT 21 12 ?_ rfl (by kernel_rfl) (fun _ _ _ h=>h) (Or.inl ⟨by rfl,?_⟩) hHeld ?_;rotate_left
    · (intro w' hSw;(try dsimp only at hSw);go_simp <;> with_reducible rfl)
    (try simp only[Act.put,q1,q2,q3])
    refine kT 21 13 ?_ rfl (by kernel_rfl) (fun _ _ _ h=>h) (Or.inl ⟨by rfl,?_⟩) hHeld ?_;rotate_left
    · (intro w' hSw;(try dsimp only at hSw);go_simp <;> with_reducible rfl)
    (try simp only[Act.put,q1,q2,q3])
    refine kT 21 14 ?_ rfl (by kernel_rfl) (fun _ _ _ h=>h) (Or.inl ⟨by rfl,?_⟩) hHeld ?_;rotate_left
    · (intro w' hSw;(try dsimp only at hSw);go_simp <;> with_reducible rfl)
    (try simp only[Act.put,q1,q2,q3])
    refine kT 21 15 ?_ rfl (by kernel_rfl) (fun _ _ _ h=>h) (Or.inl ⟨by rfl,?_⟩) hHeld ?_;rotate_left
    · (intro w' hSw;(try dsimp only at hSw);go_simp <;> with_reducible rfl)
    (try simp only[Act.put,q1,q2,q3])
    refine kT 21 16 ?_ rfl (by kernel_rfl) (fun _ _ _ h=>h) (Or.inl ⟨by rfl,?_⟩) hHeld ?_;rotate_left
    · (intro w' hSw;(try dsimp only at hSw);go_simp <;> with_reducible rfl)
    (try simp only[Act.put,q1,q2,q3])
    refine wpAnyK_step (o:=_) (i:=17) rfl (by kernel_rfl) (fun KK hKK=>?_);go_simp
    (go_at_call 28;refine Calls.mono (by with_reducible exact HIH2.out _ (X60.out.drew) (At.heap_ext B6.out ((Ext.refl w6).drew))) ?_;rintro e w7 ⟨⟨ba,bc,rfl,hsp,hl1,hl2⟩,u7,b7⟩)
    have U7:Hid (But wb wr w7):=Lib.hid ((U6.out.ext (Ext.refl w6).drew).trans u7);have B7:=Lib.hid b7;have X70:Hid (Ext w00 w7):=Lib.hid (But.fresh HX0.out (HI.out.b.trans U7.out) HWB.out);have z4:w7.cell? ⟨wb,4,none⟩=some (.slice (some ⟨gc,oc',none⟩) cl cac):=by rw[Lib.cell_of_heap b7,<- HCL.out];rfl
    have zn:=X70.out.cell HKN.out;obtain⟨BN,hBN⟩:∃ n,n=BL.length:=⟨_,rfl⟩;have hSP:Hid (StmP (fun g=>wr.heap.size<=g) w7 (.mk 5 nm [] [] BL) [.int .i64 5,.string nm,.slice none 0 0,.slice none 0 0,.slice ba BN bc]):=Lib.hid (by rw[hBN];have s6:=U6.out.size;exact StmP.keep (fun _ _ _=>rfl) (fun g hg _=>Nat.le_trans s6 hg) _ _ (clu_made hsp (Nat.le_trans HBL.out (by unfold maxLen;decide))));have S67:=Lib.hid u7.size;rw[<-hBN];clear u7 b7 hsp hBN;refine hKK.out _ _ (fun _=>?_) (fun hH=>?_)
    · (exact⟨z4,zn⟩)
    have hHeld2:=hH;clear hKK KK hHeld hH;have hHeld:=hHeld2 (by decide);clear hHeld2
    (try dsimp only at hHeld)
    (try simp only[Act.put,q1,q2,q3])
    refine kT 21 18 ?_ rfl (by kernel_rfl) (fun _ _ _ h=>h) (Or.inl ⟨by rfl,?_⟩) hHeld ?_;rotate_left
    · (intro w' hSw;(try dsimp only at hSw);go_simp <;> with_reducible rfl)
    (try simp only[Act.put,q1,q2,q3])
    refine wpAnyK_step (o:=_) (i:=19) rfl (by kernel_rfl) (fun KK hKK=>?_);go_simp;refine hKK.out _ _ (fun _=>?_) (fun hH=>?_)
    · (exact⟨Ext.cell ((Ext.refl w7).alloc _) z4,Ext.cell ((Ext.refl w7).alloc _) zn⟩)
    have hHeld2:=hH;clear hKK KK hHeld hH;have hHeld:=hHeld2 (by decide);clear hHeld2
    (try dsimp only at hHeld)
    (try simp only[Act.put,q1,q2,q3])
    refine wpAnyK_step (o:=_) (i:=20) rfl (by kernel_rfl) (fun KK hKK=>?_);obtain⟨X,hown,hrow⟩:=HI.out.row.own;rw[<-HLN.out] at hown;have OW:=Lib.hid hown;have HR:=Lib.hid hrow;have OW7:=Lib.hid (At.own_ext (own_but OW.out U7.out HWL.out) ((Ext.refl w7).alloc (.cells #[.int .i64 5,.string nm,.slice none 0 0,.slice none 0 0,.slice ba BN bc] 67)));clear hown hrow
    refine step_append_full _ (by rfl) _ _ 31 (by rfl) w.heap.size 67 j0 _ 5 96 Tryz.underlying31 hj0 hjz0 hjz1 hjz2 rfl (by decide) oa LN oc X (by rfl) OW7.out ⟨w7.heap.size,0,none⟩ 1 1 [.int .i64 5,.string nm,.slice none 0 0,.slice none 0 0,.slice ba BN bc] (by rfl) (by rfl) (World.news_of_block (cs:=#[.int .i64 5,.string nm,.slice none 0 0,.slice none 0 0,.slice ba BN bc]) (t:=67) (fr:=(0,0)) (heap_alloc_new w7 _)) (by omega) (by unfold maxLen;omega) (by omega) (by have:=HI.out.b.size;have:=U7.out.size;simp;omega) (w7.heap.size+1) (by simp) ?_;intro c7 w9 hown9 hgrow9 hlt9
    have HNX:Hid (BarAt w.heap.size 0 (L++[.mk 5 nm [] [] BL]) (.slice (some ⟨w7.heap.size+1,0,none⟩) (LN+1) c7) w9):=Lib.hid (BarAt.nextB HLN.out OW.out HR.out HWL.out HI.out.b.size (U7.out.ext ((Ext.refl w7).alloc (.cells #[.int .i64 5,.string nm,.slice none 0 0,.slice none 0 0,.slice ba BN bc] 67))) (StmP.keep (fun g _ hlt=>((Ext.refl w7).alloc _).block g hlt) (fun _ h _=>h) _ _ hSP.out) rfl (.inl rfl) hgrow9 hown9 (.inr (by simp)));have X79:Hid (Ext w7 w9):=Lib.hid (ext_grown ((Ext.refl w7).alloc _) hgrow9 (fun k e=>by cases e));clear hown9 hgrow9;refine hKK.out _ _ (fun _=>?_) (fun hH=>?_)
    · (exact⟨Ext.cell (X79.out) z4,Ext.cell (X79.out) zn⟩)
    have hHeld2:=hH;clear hKK KK hHeld hH;have hHeld:=hHeld2 (by decide);clear hHeld2
    (try dsimp only at hHeld)
    (try simp only[Act.put,q1,q2,q3])
    refine wpAnyK_step (o:=_) (i:=21) rfl (by kernel_rfl) (fun KK hKK=>?_);go_simp;refine hKK.out _ _ (fun h=>absurd rfl h) (fun _=>?_);clear hKK KK
    (try simp only[Act.put,q1,q2,q3])
    refine wpAnyK_done (by kernel_rfl) ?_ _;obtain⟨hcap1,hcap2⟩:=bar_cap HLN.out HNX.out;go_wp2
    go_roundg (msr g n2 k2)
    case measure=>have:=HME.out;omega
    case rel=>exact⟨n2,k2,_,_,_,_,rfl,by have:=HME.out;omega,rfl,hcap1,hcap2,by have:=HI.out.ll;have:=HME.out;have:=HLN.out;omega,Lib.hid (by rw[List.length_append,HLN.out];rfl),Lib.hid ⟨HNX.out,(HI.out.b.trans U7.out).ext X79.out,At.heap_ext B7.out X79.out,⟨by rw[HI.out.eq.1,HC.out];simp,by rw[HI.out.eq.2,HC.out]⟩,HLE.out,by have:=HI.out.ll;have:=HME.out;rw[List.length_append];simp;omega⟩⟩
  have hrf:readyT g p n1 k1=false:=Bool.eq_false_iff.2 hr;rw[hrf] at hrd;have HRD:=Lib.hid hrd;by_cases hnq:n1 < g.N.length
  · have hnda:=nd_at HOK.out hnq;have hbn:=fun h=>blk_node (p:=p) hr (List.getElem?_eq_getElem hnq) h
    have hbe:=fun h=>blk_end (p:=p) hr (fun x hx=>by rw[List.getElem?_eq_getElem hnq] at hx;rw[<-Option.some.inj hx];exact h)
    obtain⟨na',nac',ea',eac',ca',cac',hv,a1,-,-⟩:=HA.out;cases hv;obtain⟨gn,on,pa,pc,rfl,k0,kl,kw,kh,kc,kp,kpp⟩:=a1 n1 hnq;have hmn:msr g (n1+1) k1+1=msr g n1 k1:=by unfold msr;omega
    have hnq':n1 < q:=by rw[<-HQ.out];exact hnq
    obtain⟨x,hx⟩:∃ x,x=g.N[n1]:=⟨_,rfl⟩;rw[<-hx] at hnda k0 kl kw kh kc kp kpp;simp only[<-hx] at hbn hbe;have hna:=fun(w5:World) (y:Ext w00 w5)=>nodeA_any x pa pc w5 (kpp.ext y) hnda.1 hnda.2.1 hnda.2.2.1 hnda.2.2.2 (HE.out.ext y)
    obtain⟨AL,hAL⟩:∃ l,l=nodeA x:=⟨_,rfl⟩;have hns:nodeS x=.mk 1 x.name [] AL []:=by rw[hAL];rfl
    have hall:AL.length<=4:=by rw[hAL];exact nodeA_le x
    rw[hns] at hbn;simp only[<-hAL] at hna;obtain⟨xn,xl,xw,xh,xc,xp⟩:=x;dsimp only at hbn hbe k0 kl kw kh kc kp hna hnda;obtain⟨pl,hpl⟩:∃ n,n=xp.length:=⟨_,rfl⟩;rw[<-hpl] at kp;simp only[<-hpl] at hna;have HK0:=Lib.hid k0;have HKL:=Lib.hid kl;have HKW:=Lib.hid kw;have HKH:=Lib.hid kh;have HKC:=Lib.hid kc;have HKP:=Lib.hid kp;have HMN:=Lib.hid hmn;have HNA:=Lib.hid hna;have HBN:=Lib.hid hbn;have HBE:=Lib.hid hbe;have q1:decide ((n1:Int) < (q:Int))=true:=decide_eq_true (by omega);have q2:decide (n1 < q)=true:=decide_eq_true hnq';have d0:(0:Int)<=(n1:Int):=by omega
    have d1:(n1:Int) < (q:Int):=by omega
    clear hrd hrf hr hnda hx hns hAL hna hbn hbe k0 kl kw kh kc kp kpp hpl hnq hmn a1;by_cases hcp:xc=p
    · have f1:(xc == p)=true:=beq_iff_eq.2 hcp;have HB1:=Lib.hid (HBN.out hcp);clear HBN HBE hcp;go_wp2_with (go_at_call 65;refine Calls.mono (by with_reducible exact HRD.out) ?_;rintro e w5 ⟨rfl,x5⟩;have X5:=Lib.hid x5;have HI5:=Lib.hid (HI.out.ext x5);clear x5;obtain⟨b0,b1,b2,b3,b4,b5,b6⟩:=cells7w HI5.out.bx;rw[HQ.out] at b2);have X05:Hid (Ext w00 w5):=Lib.hid (xr.out.trans X5.out);have kc:=X05.out.cell HKC.out
      go_quiet (fail)
      obtain⟨w9,hw9⟩:∃ w9,w9=w5.drewN nq:=⟨_,rfl⟩;have X9:Hid (Ext w5 w9):=Lib.hid (by rw[hw9];exact(Ext.refl w5).drewN _);rw[<-hw9];clear hw9 b0 b1 b2 b3 b4 b5 b6 kc;have X09:Hid (Ext w00 w9):=Lib.hid (X05.out.trans X9.out);have HI9:=Lib.hid (HI5.out.ext X9.out);obtain⟨c0,c1,c2,c3,c4,c5,c6⟩:=cells7w HI9.out.bx;rw[HQ.out] at c2;have k0:=X09.out.cell HK0.out;have kl:=X09.out.cell HKL.out;have kw:=X09.out.cell HKW.out;have kh:=X09.out.cell HKH.out;have kc:=X09.out.cell HKC.out;have kp:=X09.out.cell HKP.out;have cf:w9.frozen? ⟨wb,5,none⟩=false:=Lib.frozen_of_heap HI9.out.bx 5;go_wp2_with fail
      refine wp_region_K (S:=fun w'=>w'.cell? ⟨wb,2,none⟩=some (.slice (some ⟨gn,on,none⟩) q nac)/\w'.cell? ⟨wb,5,none⟩=some (.int .i64 n1)/\w'.cell? ⟨gn,on+n1 * 6,none⟩=some (.string xn)/\w'.cell? ⟨gn,on+n1 * 6+1,none⟩=some (.string xl)/\w'.cell? ⟨gn,on+n1 * 6+2,none⟩=some (.int .i64 xw)/\w'.cell? ⟨gn,on+n1 * 6+3,none⟩=some (.int .i64 xh)/\w'.cell? ⟨gn,on+n1 * 6+4,none⟩=some (.int .i64 xc)/\w'.cell? ⟨gn,on+n1 * 6+5,none⟩=some (.slice pa pl pc)) (n:=12) (by kernel_rfl) (by exact⟨Ext.cell ((Ext.refl w9).drew) c2,Ext.cell ((Ext.refl w9).drew) c5,Ext.cell ((Ext.refl w9).drew) k0,Ext.cell ((Ext.refl w9).drew) kl,Ext.cell ((Ext.refl w9).drew) kw,Ext.cell ((Ext.refl w9).drew) kh,Ext.cell ((Ext.refl w9).drew) kc,Ext.cell ((Ext.refl w9).drew) kp⟩) (fun hHeld=>?_)
      refine kT 12 0 ?_ rfl (by kernel_rfl) (fun _ _ _ h=>h) (Or.inl ⟨by rfl,?_⟩) hHeld ?_;rotate_left
      · (intro w' hSw;(try dsimp only at hSw);go_simp <;> with_reducible rfl)
      (try simp only[Act.put,q1,q2,q3])
      refine kT 12 1 ?_ rfl (by kernel_rfl) (fun _ _ _ h=>h) (Or.inl ⟨by rfl,?_⟩) hHeld ?_;rotate_left
      · (intro w' hSw;(try dsimp only at hSw);go_simp <;> with_reducible rfl)
      (try simp only[Act.put,q1,q2,q3])
      refine kT 12 2 ?_ rfl (by kernel_rfl) (fun _ _ _ h=>h) (Or.inl ⟨by rfl,?_⟩) hHeld ?_;rotate_left
      · (intro w' hSw;(try dsimp only at hSw);go_simp <;> with_reducible rfl)
      (try simp only[Act.put,q1,q2,q3])
      refine kT 12 3 ?_ rfl (by kernel_rfl) (fun _ _ _ h=>h) (Or.inl ⟨by rfl,?_⟩) hHeld ?_;rotate_left
      · (intro w' hSw;(try dsimp only at hSw);go_simp <;> with_reducible rfl)
      (try simp only[Act.put,q1,q2,q3])
      refine kT 12 4 ?_ rfl (by kernel_rfl) (fun _ _ _ h=>h) (Or.inl ⟨by rfl,?_⟩) hHeld ?_;rotate_left
      · (intro w' hSw;(try dsimp only at hSw);go_simp <;> with_reducible rfl)
      (try simp only[Act.put,q1,q2,q3])
      refine kT 12 5 ?_ rfl (by kernel_rfl) (fun _ _ _ h=>h) (Or.inl ⟨by rfl,?_⟩) hHeld ?_;rotate_left
      · (intro w' hSw;(try dsimp only at hSw);go_simp <;> with_reducible rfl)
      (try simp only[Act.put,q1,q2,q3])
      refine kT 12 6 ?_ rfl (by kernel_rfl) (fun _ _ _ h=>h) (Or.inl ⟨by rfl,?_⟩) hHeld ?_;rotate_left
      · (intro w' hSw;(try dsimp only at hSw);go_simp <;> with_reducible rfl)
      (try simp only[Act.put,q1,q2,q3])
      refine kT 12 7 ?_ rfl (by kernel_rfl) (fun _ _ _ h=>h) (Or.inl ⟨by rfl,?_⟩) hHeld ?_;rotate_left
      · (intro w' hSw;(try dsimp only at hSw);go_simp <;> with_reducible rfl)
      (try simp only[Act.put,q1,q2,q3])
      refine kT 12 8 ?_ rfl (by kernel_rfl) (fun _ _ _ h=>h) (Or.inl ⟨by rfl,?_⟩) hHeld ?_;rotate_left
      · (intro w' hSw;(try dsimp only at hSw);go_simp <;> with_reducible rfl)
      (try simp only[Act.put,q1,q2,q3])
      refine kT 12 9 ?_ rfl (by kernel_rfl) (fun _ _ _ h=>h) (Or.inl ⟨by rfl,?_⟩) hHeld ?_;rotate_left
      · (intro w' hSw;(try dsimp only at hSw);go_simp <;> with_reducible rfl)
      (try simp only[Act.put,q1,q2,q3])
      refine kT 12 10 ?_ rfl (by kernel_rfl) (fun _ _ _ h=>h) (Or.inl ⟨by rfl,?_⟩) hHeld ?_;rotate_left
      · (intro w' hSw;(try dsimp only at hSw);go_simp <;> with_reducible rfl)
      (try simp only[Act.put,q1,q2,q3])
      refine wpAnyK_step (o:=_) (i:=11) rfl (by kernel_rfl) (fun KK hKK=>?_);go_simp;refine hKK.out _ _ (fun _=>?_) (fun hH=>?_)
      · (exact⟨Ext.cell (((Ext.refl w9).drew.alloc _)) c2,Ext.cell (((Ext.refl w9).drew.alloc _)) c5,Ext.cell (((Ext.refl w9).drew.alloc _)) k0,Ext.cell (((Ext.refl w9).drew.alloc _)) kl,Ext.cell (((Ext.refl w9).drew.alloc _)) kw,Ext.cell (((Ext.refl w9).drew.alloc _)) kh,Ext.cell (((Ext.refl w9).drew.alloc _)) kc,Ext.cell (((Ext.refl w9).drew.alloc _)) kp⟩)
      have hHeld2:=hH;clear hKK KK hHeld hH;have hHeld:=hHeld2 (by decide);clear hHeld2
      (try dsimp only at hHeld)
      (try simp only[Act.put,q1,q2,q3])
      refine wpAnyK_step (o:=_) (i:=12) rfl (by kernel_rfl) (fun KK hKK=>?_);go_simp;refine hKK.out _ _ (fun h=>absurd rfl h) (fun _=>?_);clear hKK KK
      (try simp only[Act.put,q1,q2,q3])
      refine wpAnyK_done (by kernel_rfl) ?_ _;obtain⟨nb,hnb⟩:∃ n,n=w9.heap.size:=⟨_,rfl⟩;obtain⟨w10,hw10⟩:∃ w',w'=(w9.alloc (.cells #[.string xn,.string xl,.int .i64 xw,.int .i64 xh,.int .i64 xc,.slice pa pl pc] 59)).drew:=⟨_,rfl⟩;have G10:Hid (w10.heap[nb]? = some (.cells #[.string xn,.string xl,.int .i64 xw,.int .i64 xh,.int .i64 xc,.slice pa pl pc] 59 (0,0))):=Lib.hid (by rw[hw10,hnb];exact heap_alloc_new w9 _);have X10:Hid (Ext w5 w10):=Lib.hid (by rw[hw10];exact(X9.out.alloc _).drew);have NB:Hid (wb < nb):=Lib.hid (by rw[hnb];exact(Array.getElem?_eq_some_iff.1 HI9.out.bx).1);rw[<-hnb,<- hw10];clear hnb hw10 hHeld c0 c1 c2 c3 c4 c5 c6 k0 kl kw kh kc kp cf;have HI10:=Lib.hid (HI5.out.ext X10.out);obtain⟨c0,c1,c2,c3,c4,c5,c6⟩:=cells7w HI10.out.bx
      have cf:w10.frozen? ⟨wb,5,none⟩=false:=Lib.frozen_of_heap HI10.out.bx 5;go_wp2_with fail;obtain⟨w11,hw11⟩:∃ w6,w6=w10.setCell ⟨wb,5,none⟩ (.int .i64 ((n1:Int)+1)):=⟨_,rfl⟩;have B6:Hid (w11.heap[wb]? = some (boxO 74 g (some ⟨gn,on,none⟩) ea ca nac eac cac (n1+1) k1)):=Lib.hid (by rw[hw11];exact boxN HI10.out.bx);have U6:Hid (But wb wr w11):=Lib.hid (by rw[hw11];exact But.setCell (c:=wb) (But.of (X5.out.trans X10.out)) ⟨wb,5,none⟩ rfl _);have G11:Hid (w11.heap[nb]? = some (.cells #[.string xn,.string xl,.int .i64 xw,.int .i64 xh,.int .i64 xc,.slice pa pl pc] 59 (0,0))):=Lib.hid (by rw[hw11,Below.heap_setCell _ _ _ _ (Nat.ne_of_gt NB.out)];exact G10.out);rw[<-hw11];clear hw11 c0 c1 c2 c3 c4 c5 c6 cf;obtain⟨c0,c1,c2,c3,c4,c5⟩:=cells6b G11.out
      have X60:Hid (Ext w00 w11):=Lib.hid (But.fresh HX0.out (HI.out.b.trans U6.out) HWB.out);go_wp2_with fail;refine wp_region_K (S:=fun w'=>w'.cell? ⟨nb,0,none⟩=some (.string xn)/\w'.cell? ⟨nb,1,none⟩=some (.string xl)/\w'.cell? ⟨nb,2,none⟩=some (.int .i64 xw)/\w'.cell? ⟨nb,3,none⟩=some (.int .i64 xh)/\w'.cell? ⟨nb,4,none⟩=some (.int .i64 xc)/\w'.cell? ⟨nb,5,none⟩=some (.slice pa pl pc)) (n:=13) (by kernel_rfl) (by exact⟨Ext.cell ((Ext.refl w11).drew) c0,Ext.cell ((Ext.refl w11).drew) c1,Ext.cell ((Ext.refl w11).drew) c2,Ext.cell ((Ext.refl w11).drew) c3,Ext.cell ((Ext.refl w11).drew) c4,Ext.cell ((Ext.refl w11).drew) c5⟩) (fun hHeld=>?_);refine kT 13 0 ?_ rfl (by kernel_rfl) (fun _ _ _ h=>h) (Or.inl ⟨by rfl,?_⟩) hHeld ?_;rotate_left
      · (intro w' hSw;(try dsimp only at hSw);go_simp <;> with_reducible rfl)
      (try simp only[Act.put,q1,q2,q3])
      refine kT 13 1 ?_ rfl (by kernel_rfl) (fun _ _ _ h=>h) (Or.inl ⟨by rfl,?_⟩) hHeld ?_;rotate_left
      · (intro w' hSw;(try dsimp only at hSw);go_simp <;> with_reducible rfl)
      (try simp only[Act.put,q1,q2,q3])
      refine kT 13 2 ?_ rfl (by kernel_rfl) (fun _ _ _ h=>h) (Or.inl ⟨by rfl,?_⟩) hHeld ?_;rotate_left
      · (intro w' hSw;(try dsimp only at hSw);go_simp <;> with_reducible rfl)
      (try simp only[Act.put,q1,q2,q3])
      refine kT 13 3 ?_ rfl (by kernel_rfl) (fun _ _ _ h=>h) (Or.inl ⟨by rfl,?_⟩) hHeld ?_;rotate_left
      · (intro w' hSw;(try dsimp only at hSw);go_simp <;> with_reducible rfl)
      (try simp only[Act.put,q1,q2,q3])
      refine kT 13 4 ?_ rfl (by kernel_rfl) (fun _ _ _ h=>h) (Or.inl ⟨by rfl,?_⟩) hHeld ?_;rotate_left
      · (intro w' hSw;(try dsimp only at hSw);go_simp <;> with_reducible rfl)
      (try simp only[Act.put,q1,q2,q3])
      refine kT 13 5 ?_ rfl (by kernel_rfl) (fun _ _ _ h=>h) (Or.inl ⟨by rfl,?_⟩) hHeld ?_;rotate_left
      · (intro w' hSw;(try dsimp only at hSw);go_simp <;> with_reducible rfl)
      (try simp only[Act.put,q1,q2,q3])
      refine kT 13 6 ?_ rfl (by kernel_rfl) (fun _ _ _ h=>h) (Or.inl ⟨by rfl,?_⟩) hHeld ?_;rotate_left
      · (intro w' hSw;(try dsimp only at hSw);go_simp <;> with_reducible rfl)
      (try simp only[Act.put,q1,q2,q3])
      refine kT 13 7 ?_ rfl (by kernel_rfl) (fun _ _ _ h=>h) (Or.inl ⟨by rfl,?_⟩) hHeld ?_;rotate_left
      · (intro w' hSw;(try dsimp only at hSw);go_simp <;> with_reducible rfl)
      (try simp only[Act.put,q1,q2,q3])
      refine kT 13 8 ?_ rfl (by kernel_rfl) (fun _ _ _ h=>h) (Or.inl ⟨by rfl,?_⟩) hHeld ?_;rotate_left
      · (intro w' hSw;(try dsimp only at hSw);go_simp <;> with_reducible rfl)
      (try simp only[Act.put,q1,q2,q3])
      refine wpAnyK_step (o:=_) (i:=9) rfl (by kernel_rfl) (fun KK hKK=>?_);go_simp
      (go_at_call 66;refine Calls.mono (by with_reducible exact HNA.out _ (X60.out.drew)) ?_;rintro e w12 ⟨⟨v,rfl,hat⟩,x12⟩)
      obtain⟨va,vc,rfl,htp,hl1,hl2⟩:=own_atV hat;have X12:Hid (Ext w11 w12):=Lib.hid ((Ext.refl w11).drew.trans x12);have U12:Hid (But wb wr w12):=Lib.hid (U6.out.ext X12.out);obtain⟨AN,hAN⟩:∃ n,n=AL.length:=⟨_,rfl⟩;have hSP:Hid (StmP (fun g=>wr.heap.size<=g) w12 (.mk 1 xn [] AL []) [.int .i64 1,.string xn,.slice none 0 0,.slice va AN vc,.slice none 0 0]):=Lib.hid (by rw[hAN];have s6:=U6.out.size;exact StmP.keep (fun _ _ _=>rfl) (fun g hg _=>Nat.le_trans s6 hg) _ _ (stm_made (twoP_nil _ _) htp (Nat.le_refl _) hl1 (Nat.zero_le _) hl2));rw[<-hAN];clear x12 hat htp hAN;refine hKK.out _ _ (fun _=>?_) (fun hH=>?_)
      · (exact⟨Ext.cell (X12.out) c0,Ext.cell (X12.out) c1,Ext.cell (X12.out) c2,Ext.cell (X12.out) c3,Ext.cell (X12.out) c4,Ext.cell (X12.out) c5⟩)
      have hHeld2:=hH;clear hKK KK hHeld hH;have hHeld:=hHeld2 (by decide);clear hHeld2
      (try dsimp only at hHeld)
      (try simp only[Act.put,q1,q2,q3])
      refine kT 13 10 ?_ rfl (by kernel_rfl) (fun _ _ _ h=>h) (Or.inl ⟨by rfl,?_⟩) hHeld ?_;rotate_left
      · (intro w' hSw;(try dsimp only at hSw);go_simp <;> with_reducible rfl)
      (try simp only[Act.put,q1,q2,q3])
      refine wpAnyK_step (o:=_) (i:=11) rfl (by kernel_rfl) (fun KK hKK=>?_);go_simp;refine hKK.out _ _ (fun _=>?_) (fun hH=>?_)
      · (exact⟨Ext.cell (X12.out.alloc _) c0,Ext.cell (X12.out.alloc _) c1,Ext.cell (X12.out.alloc _) c2,Ext.cell (X12.out.alloc _) c3,Ext.cell (X12.out.alloc _) c4,Ext.cell (X12.out.alloc _) c5⟩)
      have hHeld2:=hH;clear hKK KK hHeld hH;have hHeld:=hHeld2 (by decide);clear hHeld2
      (try dsimp only at hHeld)
      (try simp only[Act.put,q1,q2,q3])
      refine wpAnyK_step (o:=_) (i:=12) rfl (by kernel_rfl) (fun KK hKK=>?_);obtain⟨X,hown,hrow⟩:=HI.out.row.own;rw[<-HLN.out] at hown;have OW:=Lib.hid hown;have HR:=Lib.hid hrow;have OW7:=Lib.hid (At.own_ext (own_but OW.out U12.out HWL.out) ((Ext.refl w12).alloc (.cells #[.int .i64 1,.string xn,.slice none 0 0,.slice va AN vc,.slice none 0 0] 67)));clear hown hrow
      refine step_append_full _ (by rfl) _ _ 31 (by rfl) w.heap.size 67 j0 _ 5 96 Tryz.underlying31 hj0 hjz0 hjz1 hjz2 rfl (by decide) oa LN oc X (by rfl) OW7.out ⟨w12.heap.size,0,none⟩ 1 1 [.int .i64 1,.string xn,.slice none 0 0,.slice va AN vc,.slice none 0 0] (by rfl) (by rfl) (World.news_of_block (cs:=#[.int .i64 1,.string xn,.slice none 0 0,.slice va AN vc,.slice none 0 0]) (t:=67) (fr:=(0,0)) (heap_alloc_new w12 _)) (by omega) (by unfold maxLen;omega) (by omega) (by have:=HI.out.b.size;have:=U12.out.size;simp;omega) (w12.heap.size+1) (by simp) ?_;intro c7 w13 hown9 hgrow9 hlt9
      have HNX:Hid (BarAt w.heap.size 0 (L++[.mk 1 xn [] AL []]) (.slice (some ⟨w12.heap.size+1,0,none⟩) (LN+1) c7) w13):=Lib.hid (BarAt.nextB HLN.out OW.out HR.out HWL.out HI.out.b.size (U12.out.ext ((Ext.refl w12).alloc (.cells #[.int .i64 1,.string xn,.slice none 0 0,.slice va AN vc,.slice none 0 0] 67))) (StmP.keep (fun g _ hlt=>((Ext.refl w12).alloc _).block g hlt) (fun _ h _=>h) _ _ hSP.out) rfl (.inl rfl) hgrow9 hown9 (.inr (by simp)));have X79:Hid (Ext w12 w13):=Lib.hid (ext_grown ((Ext.refl w12).alloc _) hgrow9 (fun k e=>by cases e));have z0:=X79.out.cell (X12.out.cell c0);have z1:=X79.out.cell (X12.out.cell c1);have z2:=X79.out.cell (X12.out.cell c2);have z3:=X79.out.cell (X12.out.cell c3);have z4:=X79.out.cell (X12.out.cell c4);have z5:=X79.out.cell (X12.out.cell c5);clear hown9 hgrow9;refine hKK.out _ _ (fun _=>?_) (fun hH=>?_)
      · (exact⟨z0,z1,z2,z3,z4,z5⟩)
      have hHeld2:=hH;clear hKK KK hHeld hH;have hHeld:=hHeld2 (by decide);clear hHeld2
      (try dsimp only at hHeld)
      (try simp only[Act.put,q1,q2,q3])
      refine wpAnyK_step (o:=_) (i:=13) rfl (by kernel_rfl) (fun KK hKK=>?_);go_simp;refine hKK.out _ _ (fun h=>absurd rfl h) (fun _=>?_);clear hKK KK
      (try simp only[Act.put,q1,q2,q3])
      refine wpAnyK_done (by kernel_rfl) ?_ _;obtain⟨hcap1,hcap2⟩:=bar_cap HLN.out HNX.out;go_wp2
      go_roundg (msr g (n1+1) k1)
      case measure=>have:=HMN.out;omega
      case rel=>exact⟨n1+1,k1,_,_,_,_,rfl,by have:=HMN.out;omega,rfl,hcap1,hcap2,by have:=HI.out.ll;have:=HMN.out;have:=HLN.out;omega,Lib.hid (by rw[List.length_append,HLN.out];rfl),Lib.hid ⟨HNX.out,HI.out.b.trans (U12.out.ext X79.out),At.heap_ext B6.out (X12.out.trans X79.out),⟨by rw[HI.out.eq.1,HB1.out];simp,by rw[HI.out.eq.2,HB1.out]⟩,⟨by rw[HQ.out];exact hnq',HI.out.lo.2⟩,by have:=HI.out.ll;have:=HMN.out;rw[List.length_append];simp;omega⟩⟩
    have f1:(xc == p)=false:=beq_eq_false_iff_ne.2 hcp;have HB1:=Lib.hid (HBE.out hcp);clear HBN HBE hcp;go_wp2_with (go_at_call 65;refine Calls.mono (by with_reducible exact HRD.out) ?_;rintro e w5 ⟨rfl,x5⟩;have X5:=Lib.hid x5;have HI5:=Lib.hid (HI.out.ext x5);clear x5;obtain⟨b0,b1,b2,b3,b4,b5,b6⟩:=cells7w HI5.out.bx;rw[HQ.out] at b2);have X05:Hid (Ext w00 w5):=Lib.hid (xr.out.trans X5.out);have kc:=X05.out.cell HKC.out
    go_quiet (fail)
    go_wp2;go_returns;exact blk_out (HI5.out.ext ((Ext.refl w5).drewN _)) HB1.out
  have hb:=blk_end (p:=p) hr (fun x hx=>absurd (List.getElem?_eq_some_iff.1 hx).1 hnq);have HB1:=Lib.hid hb;have q1:decide ((n1:Int) < (q:Int))=false:=decide_eq_false (by have:=HQ.out;omega);have q2:decide (n1 < q)=false:=decide_eq_false (by rw[<-HQ.out];exact hnq);clear hrd hrf hr hnq hb;go_wp2_with (go_at_call 65;refine Calls.mono (by with_reducible exact HRD.out) ?_;rintro e w5 ⟨rfl,x5⟩;have X5:=Lib.hid x5;have HI5:=Lib.hid (HI.out.ext x5);clear x5;obtain⟨b0,b1,b2,b3,b4,b5,b6⟩:=cells7w HI5.out.bx;rw[HQ.out] at b2);have X05:Hid (Ext w00 w5):=Lib.hid (xr.out.trans X5.out)
  go_quiet (fail)
  go_wp2;go_returns;exact blk_out (HI5.out.ext ((Ext.refl w5).drewN _)) HB1.out
theorem blk_all (w00:World)(g:Gr)(na ea ca:Option Addr)(nac eac cac wb:Nat)(ha:GrIn w00 (.agg #[.string g.name,.bool g.dir,.slice na g.N.length nac,.slice ea g.E.length eac,.slice ca g.C.length cac]) g)(hcp:GrCp w00 (.agg #[.string g.name,.bool g.dir,.slice na g.N.length nac,.slice ea g.E.length eac,.slice ca g.C.length cac]) g)(hsm:GrSm g)(hg0:grE g=0)(he:Env w00)(hwb:w00.heap.size<=wb):∀ M,BlkC w00 g na ea ca nac eac cac wb M
  | 0=>fun _ _ _ _ h=>absurd h (Nat.not_lt_zero _)
  | M+1=>blk_step w00 g na ea ca nac eac cac wb M ha hcp hsm hg0 he hwb (blk_all w00 g na ea ca nac eac cac wb ha hcp hsm hg0 he hwb M)
end Go.Proofs.YtjaeedbjknejdaaGreatDoor.Ex
