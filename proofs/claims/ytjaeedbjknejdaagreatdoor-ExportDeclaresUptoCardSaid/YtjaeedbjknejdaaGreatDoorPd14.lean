/- Packed texts: NorClR, NorEdgeR, NorValR, NorFind, NorPorts, NorDepth -/
import Derived.Test.YtjaeedbjknejdaaGreatDoorPd13
set_option linter.unusedVariables false
set_option linter.unusedSimpArgs false
set_option maxHeartbeats 16000000
set_option maxRecDepth 100000
namespace Go.Proofs.YtjaeedbjknejdaaGreatDoor.Nm
open Go.RowKit Go.Sort Go.Lib Go.Shelf Fx Lx Tr At
theorem find_ge {L:List Nd}{n:ByteArray}:(L.any fun p=>decide (p.name=n))=decide (0<=findT L n):=by
 have key:∀ (L:List Nd) (b:Int),0<=b->(L.any fun p=>decide (p.name=n))=decide (0<=findGo n b L):=by
  intro L
  induction L with
  | nil=>intro b _;rfl
  | cons x L ih =>
   intro b hb;unfold findGo;rw[List.any_cons];by_cases h:x.name=n
   ·rw[if_pos h,decide_eq_true h,decide_eq_true hb];rfl
   ·rw[if_neg h,decide_eq_false h,Bool.false_or,ih (b+1) (by omega)]
 exact key L 0 (by omega)
theorem clR_any (g:Gr)(va:Value)(i:Nat)(w:World)(ha:GrIn w va g)(hi:i < g.C.length)(hN:g.N.length<=1000000000)(hC:g.C.length<=1000000000)
  (hs:∀ x ∈ g.C,x.1.size<=4611686018427387904) (hp:∀ k (h:k < g.C.length),k < i->g.C[k].2 < k /\ -1<=g.C[k].2) :
  Calls Tryz.prog 74 #[va,.int .i64 (i:Int)] w fun e w'=>e=.returned (.int .i64 (clE g.N g.C i g.C[i]))/\Ext w w':=by
 have hfi:=fun(w5:World) (x:Ext w w5)=>findR_any g va g.C[i].1 w5 (ha.ext x) (by omega)
 have hde:=fun(h1 : -1<=g.C[i].2/\g.C[i].2 < i) (w5:World) (x:Ext w w5)=>depthR_any g va i w5 (ha.ext x) hi hC (fun k hk hki=>by
  by_cases e:k=i
  ·subst e;exact⟨h1.2,h1.1⟩
  exact hp k hk (by omega))
 have hsz:=hs _ (List.getElem_mem hi);obtain⟨na,nac,ea,eac,ca,cac,rfl,-,-,a3⟩:=ha;obtain⟨nm,dir,NN,EE,CC⟩:=g;dsimp only at *;obtain⟨V,hV⟩:∃ V,V=clE NN CC i CC[i]:=⟨_,rfl⟩;rw[<-hV];unfold clE at hV;rw[find_ge] at hV;obtain⟨q,hq⟩:∃ n,n=NN.length:=⟨_,rfl⟩;obtain⟨el,hel⟩:∃ n,n=EE.length:=⟨_,rfl⟩;obtain⟨cl,hcl⟩:∃ n,n=CC.length:=⟨_,rfl⟩;rw[<-hq] at hN hfi hde ⊢;rw[<-hel] at hfi hde ⊢;rw[<-hcl] at hfi hde hC ⊢;have hic:i < cl:=by rw[hcl];exact hi
 have A3:=hid a3;have HCL:=hid hcl;have hnmc:=isNameR_any CC[i].1 (by omega);obtain⟨F,hF⟩:∃ F,F=findT NN CC[i].1:=⟨_,rfl⟩;rw[<-hF] at hfi hV;obtain⟨DP,hDP⟩:∃ d,d=depT CC (i+1) (i:Int):=⟨_,rfl⟩;rw[<-hDP] at hde hV;obtain⟨s,hse⟩:∃ s,s=CC[i].1:=⟨_,rfl⟩;obtain⟨p,hpe⟩:∃ p,p=CC[i].2:=⟨_,rfl⟩;rw[<-hse] at hfi hsz hnmc hV;rw[<-hpe] at hV hde;obtain⟨nb,hnb⟩:∃ b,b=nameB s.data.toList:=⟨_,rfl⟩;rw[<-hnb] at hnmc hV;have HV:=hid hV;have HFI:=hid hfi;have HDE:=hid hde;have HNM:=hid hnmc;have HSE:=hid hse;have HPE:=hid hpe;obtain⟨g1,o1,hca,c0,c1⟩:=a3 i hi;rw[<-hse] at c0;rw[<-hpe] at c1;subst hca;have y0:=fun ob=>((Ext.refl w).alloc ob).cell c0
 have y1:=fun ob=>((Ext.refl w).alloc ob).cell c1
 have b0:(0:Int)<=(i:Int):=by omega
 have b1:(i:Int) < (cl:Int):=by omega
 clear hV hfi hde hnmc hse hpe hnb hF hDP hq hel hcl a3 hs hp c0 c1;cases nb with
 | false =>
  have hr:Hid (V=5):=hid (by rw[HV.out,if_pos rfl]);clear HV;go_enter Tryz.func74,Tryz.ntmps74;go_wp2_with (go_at_call 72;refine(HNM.out _).mono ?_;rintro e w2 ⟨rfl,rfl⟩);go_ret;exact⟨ret_i hr.out.symm,((Ext.refl _).alloc _).alloc _⟩
 | true =>
  have HV1:Hid (V=if decide (0<=F)=true\/((CC.take i).any fun p=>decide (p.1=s))=true then 6 else if p < -1\/(i:Int)<=p then 3 else if 6 < DP then 2 else 0):=hid (by rw[HV.out,if_neg (by decide)]);clear HV;go_enter Tryz.func74,Tryz.ntmps74;go_wp2_with (go_at_call 72;refine(HNM.out _).mono ?_;rintro e w2 ⟨rfl,rfl⟩);obtain⟨w1,hw1⟩:∃ w1,w1=(w.alloc (.cells #[.string nm,.bool dir,.slice na q nac,.slice ea el eac,.slice (some ⟨g1,o1,none⟩) cl cac] 26)).alloc (.cells #[.string s,.int .i64 p] 63):=⟨_,rfl⟩;have X1:Hid (Ext ((w.alloc (.cells #[.string nm,.bool dir,.slice na q nac,.slice ea el eac,.slice (some ⟨g1,o1,none⟩) cl cac] 26)).alloc (.cells #[.string s,.int .i64 p] 63)) w1):=hid (by rw[hw1];exact Ext.refl _);have XW:Hid (Ext w w1):=hid ((((Ext.refl _).alloc _).alloc _).trans X1.out);rw[<-hw1];clear hw1 y0 y1
  go_loopw [6] (fun k' wr=>∃ k:Nat,k<=i/\k'=.int .i64 k/\Hid (∀ j (hj:j < CC.length),j < k->CC[j].1 ≠ s)/\Ext w1 wr) (fun k' _=>i - (RowKit.intOf k').toNat)
  case atStart=>exact⟨0,Nat.zero_le _,rfl,hid (fun j _ h=>absurd h (by omega)),Ext.refl _⟩
  case round =>
   obtain⟨k,hk,rfl,hall,hx⟩:=hrel;have bb:=boxes (X1.out.trans hx);have m0:=bb.1 0 _ rfl;have m1:=bb.1 1 _ rfl;have m2:=bb.1 2 _ rfl;have m3:=bb.1 3 _ rfl;have m4:=bb.1 4 _ rfl;have l0:=bb.2 0 _ rfl;have l1:=bb.2 1 _ rfl;clear bb;by_cases hlk:k < i
   ·have hkC:k < CC.length:=by rw[<-HCL.out];omega
    obtain⟨g2,o2,ha,d0,d1⟩:=(A3.out.ext (XW.out.trans hx)) k hkC;cases ha;obtain⟨t,ht⟩:∃ t,t=CC[k].1:=⟨_,rfl⟩;rw[<-ht] at d0;have HT:=hid ht;have b2:(0:Int)<=(k:Int):=by omega
    have b3:(k:Int) < (cl:Int):=by omega
    clear ht d1;by_cases heq:t=s
    ·have f1:(t.toList == s.toList)=true:=by rw[At.beqs];exact decide_eq_true heq
     have hany:((CC.take i).any fun p=>decide (p.1=s))=true:=by
      rw[List.any_eq_true];refine⟨CC[k],?_,decide_eq_true (by rw[<-HT.out];exact heq)⟩;rw[List.mem_take_iff_getElem];exact⟨k,by omega,rfl⟩
     have hr:Hid (V=6):=hid (by rw[HV1.out,if_pos (.inr hany)]);clear heq hall hany HT;go_wp2_with fail
     go_quiet (fail)
     go_wp2;go_ret;exact⟨ret_i hr.out.symm,XW.out.trans (by first | exact hx.drewN _ | exact hx.drew)⟩
    have f1:(t.toList == s.toList)=false:=by rw[At.beqs];exact decide_eq_false heq
    have hf:Hid (∀ j (hj:j < CC.length),j < k+1->CC[j].1 ≠ s):=hid (fun j hj h=>by
     by_cases e:j=k
     ·subst e;rw[<-HT.out];exact heq
     exact hall.out j hj (by omega))
    clear heq hall HT;go_wp2_with fail
    go_quiet (fail)
    go_wp2
    go_roundw
    case rel=>exact⟨k+1,by omega,by go_num,hf,by first | exact hx.drewN _ | exact hx.drew⟩
    case measure=>simp[RowKit.intOf];omega
   have hki:k=i:=by omega
   have hany:((CC.take i).any fun p=>decide (p.1=s))=false:=by
    rw[List.any_eq_false];intro p hp;rw[List.mem_take_iff_getElem] at hp;obtain⟨j,hj,rfl⟩:=hp;have:=hall.out j (by omega) (by omega)
    simpa using this
   have HV2:Hid (V=if decide (0<=F)=true then 6 else if p < -1\/(i:Int)<=p then 3 else if 6 < DP then 2 else 0):=hid (by rw[HV1.out,hany];simp);clear hany hall hki HV1;by_cases hF:0<=F
   ·have d4:decide (0<=F)=true:=decide_eq_true hF;have hr:Hid (V=6):=hid (by rw[HV2.out,if_pos d4]);clear HV2 hF;go_wp2_with (go_at_call 140;refine(HFI.out _ (XW.out.trans hx)).mono ?_;rintro e w3 ⟨rfl,x3⟩);go_ret;exact⟨ret_i hr.out.symm,(XW.out.trans hx).trans x3⟩
   have d4:decide (0<=F)=false:=decide_eq_false hF;have HV3:Hid (V=if p < -1\/(i:Int)<=p then 3 else if 6 < DP then 2 else 0):=hid (by rw[HV2.out,d4];simp);clear HV2 hF;by_cases hp1:p < -1
   ·have d5:decide (p < -1)=true:=decide_eq_true hp1;have hr:Hid (V=3):=hid (by rw[HV3.out,if_pos (.inl hp1)]);clear HV3 hp1;go_wp2_with (go_at_call 140;refine(HFI.out _ (XW.out.trans hx)).mono ?_;rintro e w3 ⟨rfl,x3⟩;have l1':=x3.cell l1);go_ret;exact⟨ret_i hr.out.symm,(XW.out.trans hx).trans x3⟩
   have d5:decide (p < -1)=false:=decide_eq_false hp1;by_cases hp2:(i:Int)<=p
   ·have d6:decide ((i:Int)<=p)=true:=decide_eq_true hp2;have hr:Hid (V=3):=hid (by rw[HV3.out,if_pos (.inr hp2)]);clear HV3 hp1 hp2;go_wp2_with (go_at_call 140;refine(HFI.out _ (XW.out.trans hx)).mono ?_;rintro e w3 ⟨rfl,x3⟩;have l1':=x3.cell l1);go_ret;exact⟨ret_i hr.out.symm,(XW.out.trans hx).trans x3⟩
   have d6:decide ((i:Int)<=p)=false:=decide_eq_false hp2;have HDE2:=hid (HDE.out ⟨by omega,by omega⟩);by_cases h6:6 < DP
   ·have d7:decide ((6:Int) < (DP:Int))=true:=decide_eq_true (by omega);have hr:Hid (V=2):=hid (by rw[HV3.out,if_neg (by omega),if_pos h6]);clear HV3 hp1 hp2 h6
    go_wp2_with (first
     | (go_at_call 140;refine(HFI.out _ (XW.out.trans hx)).mono ?_;rintro e w3 ⟨rfl,x3⟩;have l1':=x3.cell l1;have k0:=x3.cell m0;have k1:=x3.cell m1;have k2:=x3.cell m2;have k3:=x3.cell m3;have k4:=x3.cell m4)
     | (go_at_call 143;refine(HDE2.out _ ((XW.out.trans hx).trans x3)).mono ?_;rintro e w4 ⟨rfl,x4⟩))
    go_ret;exact⟨ret_i hr.out.symm,((XW.out.trans hx).trans x3).trans x4⟩
   have d7:decide ((6:Int) < (DP:Int))=false:=decide_eq_false (by omega);have hr:Hid (V=0):=hid (by rw[HV3.out,if_neg (by omega),if_neg h6]);clear HV3 hp1 hp2 h6
   go_wp2_with (first
    | (go_at_call 140;refine(HFI.out _ (XW.out.trans hx)).mono ?_;rintro e w3 ⟨rfl,x3⟩;have l1':=x3.cell l1;have k0:=x3.cell m0;have k1:=x3.cell m1;have k2:=x3.cell m2;have k3:=x3.cell m3;have k4:=x3.cell m4)
    | (go_at_call 143;refine(HDE2.out _ ((XW.out.trans hx).trans x3)).mono ?_;rintro e w4 ⟨rfl,x4⟩))
   go_ret;exact⟨ret_i hr.out.symm,((XW.out.trans hx).trans x3).trans x4⟩
end Go.Proofs.YtjaeedbjknejdaaGreatDoor.Nm

namespace Go.Proofs.YtjaeedbjknejdaaGreatDoor.Nm
open Go.RowKit Go.Sort Go.Lib Go.Shelf Fx Lx Tr At
theorem edR_any (g:Gr)(va:Value)(x:Ed)(w:World)(ha:GrIn w va g)(hN:g.N.length<=1000000000)(hs:x.label.size<=4611686018427387904)(hpl:∀ y ∈ g.N,y.ports.length<=1000000000):
  Calls Tryz.prog 75 #[va,.agg #[.int .i64 x.a,.int .i64 x.b,.int .i64 x.ap,.int .i64 x.bp,.string x.label,.int .i64 x.wt,.int .i64 x.len]] w fun e w'=>e=.returned (.int .i64 (edE g.N x))/\Ext w w':=by
 obtain⟨na,nac,ea,eac,ca,cac,rfl,a1,-,-⟩:=ha;obtain⟨nm,dir,NN,EE,CC⟩:=g;obtain⟨a,b,ap,bp,lb,wt,ln⟩:=x;dsimp only at *;obtain⟨V,hV⟩:∃ V,V=edE NN ⟨a,b,ap,bp,lb,wt,ln⟩:=⟨_,rfl⟩;rw[<-hV];unfold edE labE at hV;dsimp only at hV;have hplc:=plainR_any lb hs;obtain⟨pb,hpb⟩:∃ b,b=lb.data.toList.all Tr.okT:=⟨_,rfl⟩;rw[<-hpb] at hplc hV;obtain⟨q,hq⟩:∃ n,n=NN.length:=⟨_,rfl⟩;obtain⟨el,hel⟩:∃ n,n=EE.length:=⟨_,rfl⟩;obtain⟨cl,hcl⟩:∃ n,n=CC.length:=⟨_,rfl⟩;rw[<-hq] at hN hV ⊢;rw[<-hel,<- hcl];have HPL:=hid hplc;have HV:=hid hV;have A1:=hid a1;have HQ:=hid hq;have HPO:=hid hpl;clear hplc hV a1 hpb hq hel hcl hpl;go_enter Tryz.func75,Tryz.ntmps75;by_cases r0:a < 0
 ·have t0:decide (a < 0)=true:=decide_eq_true r0;have hr:Hid (V=3):=hid (by rw[HV.out];rw[if_pos (by omega)]);clear HV;go_wp2;go_ret;exact⟨ret_i hr.out.symm,((Ext.refl _).alloc _).alloc _⟩
 have t0:decide (a < 0)=false:=decide_eq_false r0;by_cases r1:(q:Int)<=a
 ·have t1:decide ((q:Int)<=a)=true:=decide_eq_true r1;have hr:Hid (V=3):=hid (by rw[HV.out];rw[if_pos (by omega)]);clear HV;go_wp2;go_ret;exact⟨ret_i hr.out.symm,((Ext.refl _).alloc _).alloc _⟩
 have t1:decide ((q:Int)<=a)=false:=decide_eq_false r1;by_cases r2:b < 0
 ·have t2:decide (b < 0)=true:=decide_eq_true r2;have hr:Hid (V=3):=hid (by rw[HV.out];rw[if_pos (by omega)]);clear HV;go_wp2;go_ret;exact⟨ret_i hr.out.symm,((Ext.refl _).alloc _).alloc _⟩
 have t2:decide (b < 0)=false:=decide_eq_false r2;by_cases r3:(q:Int)<=b
 ·have t3:decide ((q:Int)<=b)=true:=decide_eq_true r3;have hr:Hid (V=3):=hid (by rw[HV.out];rw[if_pos (by omega)]);clear HV;go_wp2;go_ret;exact⟨ret_i hr.out.symm,((Ext.refl _).alloc _).alloc _⟩
 have t3:decide ((q:Int)<=b)=false:=decide_eq_false r3;obtain⟨ka,rfl⟩:∃ n:Nat,a=(n:Int):=⟨a.toNat,by omega⟩;obtain⟨kb,rfl⟩:∃ n:Nat,b=(n:Int):=⟨b.toNat,by omega⟩;have hka:ka < NN.length:=by rw[<-HQ.out];omega
 have hkb:kb < NN.length:=by rw[<-HQ.out];omega
 have hPA:portsOf NN (ka:Int)=NN[ka].ports.length:=by unfold portsOf;rw[Int.toNat_natCast,List.getElem?_eq_getElem hka];rfl
 have hPB:portsOf NN (kb:Int)=NN[kb].ports.length:=by unfold portsOf;rw[Int.toNat_natCast,List.getElem?_eq_getElem hkb];rfl
 rw[hPA,hPB] at HV;obtain⟨g1,o1,p1,cc1,hna,-,-,-,-,-,x5,-⟩:=A1.out ka hka;obtain⟨g2,o2,p2,cc2,hnb,-,-,-,-,-,y5,-⟩:=A1.out kb hkb;subst hna;cases hnb;have hla:=HPO.out _ (List.getElem_mem hka);have hlb:=HPO.out _ (List.getElem_mem hkb);obtain⟨PA,hPAe⟩:∃ n,n=NN[ka].ports.length:=⟨_,rfl⟩;obtain⟨PB,hPBe⟩:∃ n,n=NN[kb].ports.length:=⟨_,rfl⟩;rw[<-hPAe] at x5 hla HV;rw[<-hPBe] at y5 hlb HV;have b0:(0:Int)<=(ka:Int):=by omega
 have b1:(ka:Int) < (q:Int):=by omega
 have b2:(0:Int)<=(kb:Int):=by omega
 have b3:(kb:Int) < (q:Int):=by omega
 clear hPA hPB hPAe hPBe hka hkb;go_wp2_with fail;obtain⟨w1,hw1⟩:∃ w1,w1=(w.alloc (.cells #[.string nm,.bool dir,.slice (some ⟨g1,o1,none⟩) q nac,.slice ea el eac,.slice ca cl cac] 26)).alloc (.cells #[.int .i64 (ka:Int),.int .i64 (kb:Int),.int .i64 ap,.int .i64 bp,.string lb,.int .i64 wt,.int .i64 ln] 61):=⟨_,rfl⟩;have X1:Ext ((w.alloc (.cells #[.string nm,.bool dir,.slice (some ⟨g1,o1,none⟩) q nac,.slice ea el eac,.slice ca cl cac] 26)).alloc (.cells #[.int .i64 (ka:Int),.int .i64 (kb:Int),.int .i64 ap,.int .i64 bp,.string lb,.int .i64 wt,.int .i64 ln] 61)) w1:=by rw[hw1];exact Ext.refl _
 have XW:Hid (Ext w w1):=hid ((((Ext.refl _).alloc _).alloc _).trans X1);rw[<-hw1];clear hw1;have bb:=boxes X1;have m2:=bb.1 2 _ rfl;have l0:=bb.2 0 _ rfl;have l1:=bb.2 1 _ rfl;have l2:=bb.2 2 _ rfl;have l3:=bb.2 3 _ rfl;have l4:=bb.2 4 _ rfl;have l5:=bb.2 5 _ rfl;have l6:=bb.2 6 _ rfl;have z5:=XW.out.cell x5;have z6:=XW.out.cell y5;clear bb X1 x5 y5;by_cases r4:ap < -1
 ·have t4:decide (ap < -1)=true:=decide_eq_true r4;have hr:Hid (V=3):=hid (by rw[HV.out];rw[if_pos (by omega)]);clear HV
  go_quiet (fail)
  go_wp2;go_ret;exact⟨ret_i hr.out.symm,XW.out.trans (by first | exact(Ext.refl _).drewN _ | exact(Ext.refl _).drew)⟩
 have t4:decide (ap < -1)=false:=decide_eq_false r4;by_cases r5:(PA:Int)<=ap
 ·have t5:decide ((PA:Int)<=ap)=true:=decide_eq_true r5;have hr:Hid (V=3):=hid (by rw[HV.out];rw[if_pos (by omega)]);clear HV
  go_quiet (fail)
  go_wp2;go_ret;exact⟨ret_i hr.out.symm,XW.out.trans (by first | exact(Ext.refl _).drewN _ | exact(Ext.refl _).drew)⟩
 have t5:decide ((PA:Int)<=ap)=false:=decide_eq_false r5;by_cases r6:bp < -1
 ·have t6:decide (bp < -1)=true:=decide_eq_true r6;have hr:Hid (V=3):=hid (by rw[HV.out];rw[if_pos (by omega)]);clear HV
  go_quiet (fail)
  go_wp2;go_ret;exact⟨ret_i hr.out.symm,XW.out.trans (by first | exact(Ext.refl _).drewN _ | exact(Ext.refl _).drew)⟩
 have t6:decide (bp < -1)=false:=decide_eq_false r6;by_cases r7:(PB:Int)<=bp
 ·have t7:decide ((PB:Int)<=bp)=true:=decide_eq_true r7;have hr:Hid (V=3):=hid (by rw[HV.out];rw[if_pos (by omega)]);clear HV
  go_quiet (fail)
  go_wp2;go_ret;exact⟨ret_i hr.out.symm,XW.out.trans (by first | exact(Ext.refl _).drewN _ | exact(Ext.refl _).drew)⟩
 have t7:decide ((PB:Int)<=bp)=false:=decide_eq_false r7;have HV1:Hid (V=if((if 32 < lb.size then 2 else if pb=false then 7 else 0:Int)) ≠ 0 then (if 32 < lb.size then 2 else if pb=false then 7 else 0) else if wt < 1\/1000 < wt\/ln < 1\/64 < ln then 7 else 0):=hid (by rw[HV.out,if_neg (by omega)]);clear HV;have HV:=HV1;clear HV1
 go_quiet (fail)
 have x9:Ext w1 (w1.drewN nq):=(Ext.refl _).drewN _;obtain⟨w9,hw9⟩:∃ w9,w9=w1.drewN nq:=⟨_,rfl⟩;rw[<-hw9] at x9 ⊢;have n4:=x9.cell l4;have n5:=x9.cell l5;have n6:=x9.cell l6;have X9:=hid (XW.out.trans x9);clear hw9 x9 l0 l1 l2 l3 l4 l5 l6 m2 z5 z6;by_cases h32:32 < lb.size
 ·have g1':decide ((32:Int) < lb.size)=true:=decide_eq_true (by omega);have hr:Hid (V=2):=hid (by rw[HV.out];simp[h32]);clear HV;go_wp2;go_ret;exact⟨ret_i hr.out.symm,X9.out⟩
 have g1':decide ((32:Int) < lb.size)=false:=decide_eq_false (by omega);cases pb with
 | false =>
  have hr:Hid (V=7):=hid (by rw[HV.out];simp[h32]);clear HV;go_wp2_with (go_at_call 141;refine(HPL.out _).mono ?_;rintro e w4 ⟨rfl,rfl⟩);go_ret;exact⟨ret_i hr.out.symm,X9.out⟩
 | true =>
  have HV1:Hid (V=if wt < 1\/1000 < wt\/ln < 1\/64 < ln then 7 else 0):=hid (by rw[HV.out];simp[h32]);clear HV;have HV:=HV1;clear HV1;by_cases r8:wt < 1
  ·have t8:decide (wt < 1)=true:=decide_eq_true r8;have hr:Hid (V=7):=hid (by rw[HV.out];rw[if_pos (by omega)]);clear HV;go_wp2_with (go_at_call 141;refine(HPL.out _).mono ?_;rintro e w4 ⟨rfl,rfl⟩);go_ret;exact⟨ret_i hr.out.symm,X9.out⟩
  have t8:decide (wt < 1)=false:=decide_eq_false r8;by_cases r9:1000 < wt
  ·have t9:decide (1000 < wt)=true:=decide_eq_true r9;have hr:Hid (V=7):=hid (by rw[HV.out];rw[if_pos (by omega)]);clear HV;go_wp2_with (go_at_call 141;refine(HPL.out _).mono ?_;rintro e w4 ⟨rfl,rfl⟩);go_ret;exact⟨ret_i hr.out.symm,X9.out⟩
  have t9:decide (1000 < wt)=false:=decide_eq_false r9;by_cases r10:ln < 1
  ·have t10:decide (ln < 1)=true:=decide_eq_true r10;have hr:Hid (V=7):=hid (by rw[HV.out];rw[if_pos (by omega)]);clear HV;go_wp2_with (go_at_call 141;refine(HPL.out _).mono ?_;rintro e w4 ⟨rfl,rfl⟩);go_ret;exact⟨ret_i hr.out.symm,X9.out⟩
  have t10:decide (ln < 1)=false:=decide_eq_false r10;by_cases r11:64 < ln
  ·have t11:decide (64 < ln)=true:=decide_eq_true r11;have hr:Hid (V=7):=hid (by rw[HV.out];rw[if_pos (by omega)]);clear HV;go_wp2_with (go_at_call 141;refine(HPL.out _).mono ?_;rintro e w4 ⟨rfl,rfl⟩);go_ret;exact⟨ret_i hr.out.symm,X9.out⟩
  have t11:decide (64 < ln)=false:=decide_eq_false r11;have hr:Hid (V=0):=hid (by rw[HV.out];rw[if_neg (by omega)]);clear HV;go_wp2_with (go_at_call 141;refine(HPL.out _).mono ?_;rintro e w4 ⟨rfl,rfl⟩);go_ret;exact⟨ret_i hr.out.symm,X9.out⟩
end Go.Proofs.YtjaeedbjknejdaaGreatDoor.Nm

namespace Go.Proofs.YtjaeedbjknejdaaGreatDoor.Nm
open Go.RowKit Go.Sort Go.Lib Go.Shelf Fx Lx Tr At
def GrSm (g:Gr):Prop:=g.name.size<=4611686018427387904/\g.N.length<=1000000000/\g.E.length<=1000000000/\g.C.length<=1000000000 /\
 (∀ x ∈ g.N,x.name.size<=4611686018427387904/\x.label.size<=4611686018427387904/\x.ports.length<=1000000000/\∀ q ∈ x.ports,q.1.size<=9223372036854775807) /\
 (∀ x ∈ g.C,x.1.size<=4611686018427387904)/\(∀ x ∈ g.E,x.label.size<=4611686018427387904)
theorem cl_parent {N:List Nd}{C:List (ByteArray × Int)}{i:Nat}{x:ByteArray × Int}(h:clE N C i x=0):x.2 < i /\ -1<=x.2:=by
 unfold clE at h;split at h
 ·exact absurd h (by decide)
 split at h
 ·exact absurd h (by decide)
 split at h
 ·exact absurd h (by decide)
 rename_i h1;omega
theorem validGR_any (g:Gr)(va:Value)(w:World)(ha:GrIn w va g)(hsm:GrSm g):
  Calls Tryz.prog 31 #[va] w fun e w'=>e=.returned (.int .i64 (grE g))/\Ext w w':=by
 obtain⟨h1,h2,h3,h4,h5,h6,h7⟩:=hsm;have hnd:=fun(i:Nat) (hi:i < g.N.length) (w5:World) (x:Ext w w5)=>nodeR_any g va i w5 (ha.ext x) hi h2 h4 h5
 have hcl:=fun(i:Nat) (hi:i < g.C.length) (hp:∀ k (h:k < g.C.length),k < i->g.C[k].2 < k /\ -1<=g.C[k].2) (w5:World) (x:Ext w w5)=>clR_any g va i w5 (ha.ext x) hi h2 h4 h6 hp
 have hed:=fun(x:Ed) (hs:x.label.size<=4611686018427387904) (w5:World) (y:Ext w w5)=>edR_any g va x w5 (ha.ext y) h2 hs (fun z hz=>(h5 z hz).2.2.1)
 obtain⟨na,nac,ea,eac,ca,cac,rfl,-,a2,-⟩:=ha;obtain⟨nm,dir,NN,EE,CC⟩:=g;dsimp only at *;obtain⟨V,hV⟩:∃ V,V=grE ⟨nm,dir,NN,EE,CC⟩:=⟨_,rfl⟩;rw[<-hV];unfold grE at hV;dsimp only at hV;have hnmc:=isNameR_any nm (by omega);obtain⟨nb,hnb⟩:∃ b,b=nameB nm.data.toList:=⟨_,rfl⟩;rw[<-hnb] at hnmc hV;obtain⟨VN,hVN⟩:∃ v,v=ndsE CC.length NN []:=⟨_,rfl⟩;obtain⟨VC,hVC⟩:∃ v,v=clsE NN CC 0 CC:=⟨_,rfl⟩;obtain⟨VE,hVE⟩:∃ v,v=edsE NN EE:=⟨_,rfl⟩;rw[<-hVN,<- hVC,<- hVE] at hV;have H0:Hid (VN=ndsE CC.length (NN.drop 0) (NN.take 0)):=hid (by rw[List.drop_zero,List.take_zero];exact hVN);have G0:Hid (VC=clsE NN CC 0 (CC.drop 0)):=hid (by rw[List.drop_zero];exact hVC);have E0:Hid (VE=edsE NN (EE.drop 0)):=hid (by rw[List.drop_zero];exact hVE);obtain⟨q,hq⟩:∃ n,n=NN.length:=⟨_,rfl⟩
 obtain⟨el,hel⟩:∃ n,n=EE.length:=⟨_,rfl⟩;obtain⟨cl,hcl'⟩:∃ n,n=CC.length:=⟨_,rfl⟩;rw[<-hq] at h2 hed hV ⊢;rw[<-hel] at h3 hed hV ⊢;rw[<-hcl'] at h4 hed hV H0 ⊢;have HV:=hid hV;have HND:=hid hnd;have HCL:=hid hcl;have HED:=hid hed;have HNM:=hid hnmc;have A2:=hid a2;have HQ:=hid hq;have HEL:=hid hel;have HC:=hid hcl';have H7:=hid h7;clear hV hnd hcl hed hnmc a2 hq hel hcl' h7 hVN hVC hVE hnb h5 h6;go_enter Tryz.func31,Tryz.ntmps31;by_cases r0:64 < q
 ·have t0:decide ((64:Int) < q)=true:=decide_eq_true (by omega);have hr:Hid (V=2):=hid (by rw[HV.out,if_pos (by omega)]);clear HV;go_wp2;go_ret;exact⟨ret_i hr.out.symm,(Ext.refl _).alloc _⟩
 have t0:decide ((64:Int) < q)=false:=decide_eq_false (by omega);by_cases r1:256 < el
 ·have t1:decide ((256:Int) < el)=true:=decide_eq_true (by omega);have hr:Hid (V=2):=hid (by rw[HV.out,if_pos (by omega)]);clear HV;go_wp2;go_ret;exact⟨ret_i hr.out.symm,(Ext.refl _).alloc _⟩
 have t1:decide ((256:Int) < el)=false:=decide_eq_false (by omega);by_cases r2:16 < cl
 ·have t2:decide ((16:Int) < cl)=true:=decide_eq_true (by omega);have hr:Hid (V=2):=hid (by rw[HV.out,if_pos (by omega)]);clear HV;go_wp2;go_ret;exact⟨ret_i hr.out.symm,(Ext.refl _).alloc _⟩
 have t2:decide ((16:Int) < cl)=false:=decide_eq_false (by omega);cases nb with
 | false =>
  have hr:Hid (V=5):=hid (by rw[HV.out,if_neg (by omega),if_pos rfl]);clear HV;go_wp2_with (go_at_call 72;refine(HNM.out _).mono ?_;rintro e w2 ⟨rfl,rfl⟩);go_ret;exact⟨ret_i hr.out.symm,(Ext.refl _).alloc _⟩
 | true =>
  have HV1:Hid (V=if VN ≠ 0 then VN else if VC ≠ 0 then VC else VE):=hid (by rw[HV.out,if_neg (by omega),if_neg (by decide)]);clear HV;go_wp2_with (go_at_call 72;refine(HNM.out _).mono ?_;rintro e w2 ⟨rfl,rfl⟩);obtain⟨w1,hw1⟩:∃ w1,w1=w.alloc (.cells #[.string nm,.bool dir,.slice na q nac,.slice ea el eac,.slice ca cl cac] 26):=⟨_,rfl⟩;have X1:Hid (Ext (w.alloc (.cells #[.string nm,.bool dir,.slice na q nac,.slice ea el eac,.slice ca cl cac] 26)) w1):=hid (by rw[hw1];exact Ext.refl _);have XW:Hid (Ext w w1):=hid (((Ext.refl _).alloc _).trans X1.out);rw[<-hw1];clear hw1;generalize decide ((64:Int) < (q:Int))=dk0;generalize decide ((256:Int) < (el:Int))=dk1;generalize decide ((16:Int) < (cl:Int))=dk2
  go_loopw [3] (fun i' wr=>∃ k:Nat,k<=q/\i'=.int .i64 k/\Hid (VN=ndsE cl (NN.drop k) (NN.take k))/\Ext w1 wr) (fun i' _=>q - (RowKit.intOf i').toNat)
  case atStart=>exact⟨0,Nat.zero_le _,rfl,H0,Ext.refl _⟩
  case round =>
   clear H0;obtain⟨k,hk,rfl,hvn,hx⟩:=hrel;have bb:=box1 (X1.out.trans hx);have m0:=bb 0 _ rfl;have m1:=bb 1 _ rfl;have m2:=bb 2 _ rfl;have m3:=bb 3 _ rfl;have m4:=bb 4 _ rfl;clear bb;by_cases hlt:k < q
   ·have hkN:k < NN.length:=by rw[<-HQ.out];exact hlt
    have hv1:=hvn.out;rw[List.drop_eq_getElem_cons hkN] at hv1;unfold ndsE at hv1;rw[<-List.take_succ_eq_append_getElem hkN] at hv1;have HN1:=HND.out k hkN;rw[<-HC.out] at HN1;obtain⟨e,he⟩:∃ e,e=ndE cl (NN.take k) NN[k]:=⟨_,rfl⟩;rw[<-he] at hv1 HN1;rw[<-HQ.out,<- HEL.out] at HN1;have HN1:=hid HN1;have HV2:=hid hv1;clear hv1 hvn he;by_cases h0:e=0
    ·obtain⟨f1,f2⟩:=efacts 0;subst h0;have hn:Hid (VN=ndsE cl (NN.drop (k+1)) (NN.take (k+1))):=hid (by rw[HV2.out];simp);go_wp2_with (go_at_call 73;refine(HN1.out _ (XW.out.trans hx)).mono ?_;rintro e w2 ⟨rfl,x2⟩)
     go_roundw
     case rel=>exact⟨k+1,by omega,by go_num,hn,hx.trans x2⟩
     case measure=>simp[RowKit.intOf];omega
    obtain⟨f1,f2⟩:=nfacts h0
    have hr:Hid (V=e):=hid (by
     have h1:VN=e:=by rw[HV2.out,if_pos h0]
     rw[HV1.out,h1,if_pos h0])
    clear h0;go_wp2_with (go_at_call 73;refine(HN1.out _ (XW.out.trans hx)).mono ?_;rintro e w2 ⟨rfl,x2⟩);go_ret;exact⟨ret_i hr.out.symm,(XW.out.trans hx).trans x2⟩
   have hn0:VN=0:=by rw[hvn.out,List.drop_eq_nil_of_le (by rw[<-HQ.out];omega)];rfl
   have HV2:Hid (V=if VC ≠ 0 then VC else VE):=hid (by rw[HV1.out,if_neg (by omega)]);have hxa:=hid hx;clear hvn hn0 HV1 hx;obtain⟨w5,hw5⟩:∃ w5:World,w5=wr:=⟨_,rfl⟩;subst hw5;go_wp2
   go_loopw [5] (fun i' wr=>∃ k:Nat,k<=cl/\i'=.int .i64 k/\Hid (VC=clsE NN CC k (CC.drop k))/\Hid (∀ j (h:j < CC.length),j < k->CC[j].2 < j /\ -1<=CC[j].2)/\Ext w1 wr) (fun i' _=>cl - (RowKit.intOf i').toNat)
   case atStart=>exact⟨0,Nat.zero_le _,rfl,G0,hid (fun j _ h=>absurd h (by omega)),hxa.out⟩
   clear G0 m0 m1 m2 m3 m4;obtain⟨j,hj,rfl,hvc,hpa,hx⟩:=hrel;have bb:=box1 (X1.out.trans hx);have m0:=bb 0 _ rfl;have m1:=bb 1 _ rfl;have m2:=bb 2 _ rfl;have m3:=bb 3 _ rfl;have m4:=bb 4 _ rfl;clear bb;by_cases hlj:j < cl
   ·have hjC:j < CC.length:=by rw[<-HC.out];exact hlj
    have hv1:=hvc.out;rw[List.drop_eq_getElem_cons hjC] at hv1;unfold clsE at hv1;have HC1:=HCL.out j hjC hpa.out;have hpar:=@cl_parent NN CC j CC[j];obtain⟨e,he⟩:∃ e,e=clE NN CC j CC[j]:=⟨_,rfl⟩;rw[<-he] at hv1 HC1 hpar;rw[<-HQ.out,<- HEL.out,<- HC.out] at HC1;have HC1:=hid HC1;have HV3:=hid hv1;have HPAR:=hid hpar;clear hv1 hvc he hpar;by_cases h0:e=0
    ·obtain⟨f1,f2⟩:=efacts 0;subst h0;have hn:Hid (VC=clsE NN CC (j+1) (CC.drop (j+1))):=hid (by rw[HV3.out];simp)
     have hpa2:Hid (∀ l (h:l < CC.length),l < j+1->CC[l].2 < l /\ -1<=CC[l].2):=hid (fun l hl hlj=>by
      by_cases e:l=j
      ·subst e;exact HPAR.out rfl
      exact hpa.out l hl (by omega))
     go_wp2_with (go_at_call 74;refine(HC1.out _ (XW.out.trans hx)).mono ?_;rintro e w2 ⟨rfl,x2⟩)
     go_roundw
     case rel=>exact⟨j+1,by omega,by go_num,hn,hpa2,hx.trans x2⟩
     case measure=>simp[RowKit.intOf];omega
    obtain⟨f1,f2⟩:=nfacts h0
    have hr:Hid (V=e):=hid (by
     have h1:VC=e:=by rw[HV3.out,if_pos h0]
     rw[HV2.out,h1,if_pos h0])
    clear h0;go_wp2_with (go_at_call 74;refine(HC1.out _ (XW.out.trans hx)).mono ?_;rintro e w2 ⟨rfl,x2⟩);go_ret;exact⟨ret_i hr.out.symm,(XW.out.trans hx).trans x2⟩
   have hn0:VC=0:=by rw[hvc.out,List.drop_eq_nil_of_le (by rw[<-HC.out];omega)];rfl
   have HV3:Hid (V=VE):=hid (by rw[HV2.out,if_neg (by omega)]);have hxb:=hid hx;clear hvc hn0 HV2 hx hpa;obtain⟨w6,hw6⟩:∃ w6:World,w6=wr:=⟨_,rfl⟩;subst hw6;go_wp2
   go_loopw [7] (fun i' wr=>∃ k:Nat,k<=el/\i'=.int .i64 k/\Hid (VE=edsE NN (EE.drop k))/\Ext w1 wr) (fun i' _=>el - (RowKit.intOf i').toNat)
   case atStart=>exact⟨0,Nat.zero_le _,rfl,E0,hxb.out⟩
   clear E0 m0 m1 m2 m3 m4;obtain⟨l,hl,rfl,hve,hx⟩:=hrel;have bb:=box1 (X1.out.trans hx);have m0:=bb 0 _ rfl;have m1:=bb 1 _ rfl;have m2:=bb 2 _ rfl;have m3:=bb 3 _ rfl;have m4:=bb 4 _ rfl;clear bb;by_cases hll:l < el
   ·have hlE:l < EE.length:=by rw[<-HEL.out];exact hll
    obtain⟨g1,o1,rfl,x0,x1,x2,x3,x4,x5,x6⟩:=(A2.out.ext (XW.out.trans hx)) l hlE;have hv1:=hve.out;rw[List.drop_eq_getElem_cons hlE] at hv1;unfold edsE at hv1;have hsz:=H7.out _ (List.getElem_mem hlE);have HE1:=HED.out EE[l] hsz;obtain⟨e,he⟩:∃ e,e=edE NN EE[l]:=⟨_,rfl⟩;rw[<-he] at hv1 HE1;obtain⟨z,hz⟩:∃ z,z=EE[l]:=⟨_,rfl⟩;rw[<-hz] at x0 x1 x2 x3 x4 x5 x6 HE1;obtain⟨z0,z1,z2,z3,z4,z5,z6⟩:=z;dsimp only at x0 x1 x2 x3 x4 x5 x6 HE1;have HV4:=hid hv1;have HE2:=hid HE1;have b0:(0:Int)<=(l:Int):=by omega
    have b1:(l:Int) < (el:Int):=by omega
    clear hv1 hve he hz HE1 hsz;go_wp2_with fail
    go_cut [8] from 55 to 71 (fun s8 wx=>s8=.int .i64 e/\Hid (Ext wr wx))
    case first =>
     go_region_with (go_at_call 75;refine(HE2.out _ ((XW.out.trans hx).trans (by first | exact(Ext.refl _).drew | exact Ext.refl _))).mono ?_;rintro e w7 ⟨rfl,x7⟩)
     all_goals go_wp2
     all_goals go_meet
     all_goals exact⟨rfl,hid (((Ext.refl _).drew).trans x7)⟩
    obtain⟨rfl,hxd⟩:=hcut;have hx2:=hx.trans hxd.out;by_cases h0:e=0
    ·obtain⟨f1,f2⟩:=efacts 0;subst h0;have hn:Hid (VE=edsE NN (EE.drop (l+1))):=hid (by rw[HV4.out];simp);go_wp2
     go_roundw
     case rel=>exact⟨l+1,by omega,by go_num,hn,hx2⟩
     case measure=>simp[RowKit.intOf];omega
    obtain⟨f1,f2⟩:=nfacts h0;have hr:Hid (V=e):=hid (by rw[HV3.out,HV4.out,if_pos h0]);clear h0;go_wp2;go_ret;exact⟨ret_i hr.out.symm,XW.out.trans hx2⟩
   have hr:Hid (V=0):=hid (by rw[HV3.out,hve.out,List.drop_eq_nil_of_le (by rw[<-HEL.out];omega)];rfl);clear hve;go_wp2;go_ret;exact⟨ret_i hr.out.symm,XW.out.trans hx⟩
end Go.Proofs.YtjaeedbjknejdaaGreatDoor.Nm

namespace Go.Proofs.YtjaeedbjknejdaaGreatDoor.Nm
open Go.RowKit Go.Sort Go.Lib Go.Shelf Fx Lx Tr At
theorem ret_bb {a b:Bool}(h:a=b):Ending.returned (.bool a)=.returned (.bool b):=by rw[h]
theorem closF_any (n l x:ByteArray)(a b d:Int)(p:Value)(c:Addr)(w:World)(hc:w.cell? c=some (.string x)):
  Calls Tryz.prog 178 #[.agg #[.string n,.string l,.int .i64 a,.int .i64 b,.int .i64 d,p],.pointer (some c)] w fun e w'=>e=.returned (.bool (decide (n=x)))/\Ext w w':=by
 have hc':∀ o,(w.alloc o).cell? c=some (.string x):=fun o=>((Ext.refl w).alloc o).cell hc
 go_enter Tryz.func178,Tryz.ntmps178;go_wp2;go_ret;exact⟨ret_bb (At.beqs n x),(Ext.refl _).alloc _⟩
theorem idxF_any (a:Option Addr)(L:List Nd)(cap:Nat)(x:ByteArray)(c:Addr)(w:World)(h:NdIn w a L)(hc:w.cell? c=some (.string x))(hL:L.length<=4611686018427387904):
  Calls Tryz.prog 177 #[.slice a L.length cap,.func (.func 178) #[] #[.pointer (some c)]] w fun e w'=>e=.returned (.int .i64 (findT L x))/\Ext w w':=by
 obtain⟨N,hN⟩:∃ N,N=L.length:=⟨_,rfl⟩;obtain⟨V,hV⟩:∃ V,V=findT L x:=⟨_,rfl⟩;rw[<-hV];have HI:=hid h;rw[<-hN] at hL ⊢;have HN:=hid hN;have HC:=hid hc;have HV:=hid hV;clear h hN hc hV;go_enter Tryz.func177,Tryz.ntmps177;go_wp2_with fail
 go_loopw [8] (fun i' wr=>∃ k:Nat,k<=N/\i'=.int .i64 k/\Hid (∀ j (hj:j < L.length),j < k->L[j].name ≠ x)/\Ext w wr) (fun i' _=>N - (RowKit.intOf i').toNat)
 case atStart=>exact⟨0,by omega,rfl,hid (fun j _ h=>absurd h (by omega)),Ext.refl _⟩
 obtain⟨k,hk,rfl,hall,hx⟩:=hrel;by_cases hlt:k < N
 ·have hkl:k < L.length:=by rw[<-HN.out];exact hlt
  obtain⟨g,o,p,pc,rfl,c0,c1,c2,c3,c4,c5,-⟩:=(HI.out.ext hx) k hkl;obtain⟨n,hn⟩:∃ n,n=L[k].name:=⟨_,rfl⟩;obtain⟨n1,hn1⟩:∃ n,n=L[k].label:=⟨_,rfl⟩;obtain⟨n2,hn2⟩:∃ n,n=L[k].w:=⟨_,rfl⟩;obtain⟨n3,hn3⟩:∃ n,n=L[k].h:=⟨_,rfl⟩;obtain⟨n4,hn4⟩:∃ n,n=L[k].c:=⟨_,rfl⟩;obtain⟨n5,hn5⟩:∃ n,n=L[k].ports.length:=⟨_,rfl⟩;rw[<-hn] at c0;rw[<-hn1] at c1;rw[<-hn2] at c2;rw[<-hn3] at c3;rw[<-hn4] at c4;rw[<-hn5] at c5;have HNM:=hid hn;have b0:(0:Int)<=(k:Int):=by omega
  have b1:(k:Int) < (N:Int):=by omega
  clear hn hn1 hn2 hn3 hn4 hn5;by_cases heq:n=x
  ·have hf:Hid (V=(k:Int)):=hid (by
    rw[HV.out];unfold findT;rw[findGo_hit x L 0 k hkl hall.out (by rw[<-HNM.out];exact heq)];omega)
   have HCL:=hid (closF_any n n1 x n2 n3 n4 (.slice p n5 pc) c wr (hx.cell HC.out));rw[decide_eq_true heq] at HCL;clear heq hall HNM;go_wp2_with (go_at_call 178;refine HCL.out.mono ?_;rintro e w1 ⟨rfl,x1⟩);go_returns;exact⟨congrArg (fun z=>Ending.returned (Value.int .i64 z)) hf.out.symm,hx.trans x1⟩
  have hf:Hid (∀ j (hj:j < L.length),j < k+1->L[j].name ≠ x):=hid (fun j hj h=>by
   by_cases e:j=k
   ·subst e;rw[<-HNM.out];exact heq
   exact hall.out j hj (by omega))
  have HCL:=hid (closF_any n n1 x n2 n3 n4 (.slice p n5 pc) c wr (hx.cell HC.out));rw[decide_eq_false heq] at HCL;clear heq hall HNM;go_wp2_with (go_at_call 178;refine HCL.out.mono ?_;rintro e w1 ⟨rfl,x1⟩)
  go_roundw
  case rel=>exact⟨k+1,by omega,by go_num,hf,hx.trans x1⟩
  case measure=>simp[RowKit.intOf];omega
 have hf:Hid (V = -1):=hid (by
  rw[HV.out];exact findGo_miss x L 0 (fun j hj=>hall.out j hj (by rw[<-HN.out] at hj;omega)))
 clear hall;go_wp2;go_returns;exact⟨congrArg (fun z=>Ending.returned (Value.int .i64 z)) hf.out.symm,hx⟩
theorem find_any (g:Gr)(va:Value)(n:ByteArray)(w:World)(ha:GrIn w va g)(hN:g.N.length<=4611686018427387904):
  Calls Tryz.prog 120 #[va,.string n] w fun e w'=>e=.returned (.int .i64 (findT g.N n))/\Ext w w':=by
 obtain⟨na,nac,ea,eac,ca,cac,rfl,a1,-,-⟩:=ha;have H:=fun(w1:World) (c:Addr) (x:Ext w w1) (hc:w1.cell? c=some (.string n))=>idxF_any na g.N nac n c w1 (a1.ext x) hc hN
 obtain⟨V,hV⟩:∃ V,V=findT g.N n:=⟨_,rfl⟩;rw[<-hV] at H ⊢;obtain⟨q,hq⟩:∃ n,n=g.N.length:=⟨_,rfl⟩;obtain⟨el,hel⟩:∃ n,n=g.E.length:=⟨_,rfl⟩;obtain⟨cl,hcl⟩:∃ n,n=g.C.length:=⟨_,rfl⟩;rw[<-hq] at H ⊢;rw[<-hel,<- hcl];have H:=hid H;clear a1 hV hq hel hcl hN;go_enter Tryz.func120,Tryz.ntmps120;go_wp2_with (go_at_call 177;refine(H.out _ _ (((Ext.refl _).alloc _).alloc _) ?cc).mono ?_;rotate_left;rintro e w1 ⟨rfl,x1⟩);go_ret;exact⟨rfl,(((Ext.refl _).alloc _).alloc _).trans x1⟩
 all_goals
  have hb:=heap_alloc_new (w.alloc (.cells #[.string g.name,.bool g.dir,.slice na q nac,.slice ea el eac,.slice ca cl cac] 26)) (.cells #[.string n] 9);rw[World.size_alloc] at hb;rw[Lib.cell_of_heap hb]
  rfl
end Go.Proofs.YtjaeedbjknejdaaGreatDoor.Nm

namespace Go.Proofs.YtjaeedbjknejdaaGreatDoor.Nm
open Go.RowKit Go.Sort Go.Lib Go.Shelf Fx Lx Tr At
theorem closG_any (n x:ByteArray)(d:Int)(c:Addr)(w:World)(hc:w.cell? c=some (.string x)):
  Calls Tryz.prog 179 #[.agg #[.string n,.int .i64 d],.pointer (some c)] w fun e w'=>e=.returned (.bool (decide (n=x)))/\Ext w w':=by
 have hc':∀ o,(w.alloc o).cell? c=some (.string x):=fun o=>((Ext.refl w).alloc o).cell hc
 go_enter Tryz.func179,Tryz.ntmps179;go_wp2;go_ret;exact⟨ret_bb (At.beqs n x),(Ext.refl _).alloc _⟩
theorem idxG_any (a:Option Addr)(L:List Prt)(cap:Nat)(x:ByteArray)(c:Addr)(w:World)(h:PrtIn w a L)(hc:w.cell? c=some (.string x))(hL:L.length<=9223372036854775807):
  Calls Tryz.prog 116 #[.slice a L.length cap,.func (.func 179) #[] #[.pointer (some c)]] w fun e w'=>(∃ r:Int,e=.returned (.int .i64 r)/\decide (0<=r)=hasN L x)/\Ext w w':=by
 obtain⟨N,hN⟩:∃ N,N=L.length:=⟨_,rfl⟩;have HI:=hid h;rw[<-hN] at hL ⊢;have HN:=hid hN;have HC:=hid hc;clear h hN hc;go_enter Tryz.func116,Tryz.ntmps116;go_wp2_with fail
 go_loopw [8] (fun i' wr=>∃ k:Nat,k<=N/\i'=.int .i64 k/\Hid (∀ j (hj:j < L.length),j < k->L[j].1 ≠ x)/\Ext w wr) (fun i' _=>N - (RowKit.intOf i').toNat)
 case atStart=>exact⟨0,by omega,rfl,hid (fun j _ h=>absurd h (by omega)),Ext.refl _⟩
 obtain⟨k,hk,rfl,hall,hx⟩:=hrel;by_cases hlt:k < N
 ·have hkl:k < L.length:=by rw[<-HN.out];exact hlt
  obtain⟨g,o,rfl,c0,c1⟩:=(HI.out.ext hx) k hkl;obtain⟨n,hn⟩:∃ n,n=L[k].1:=⟨_,rfl⟩;obtain⟨d,hd⟩:∃ d,d=L[k].2:=⟨_,rfl⟩;rw[<-hn] at c0;rw[<-hd] at c1;have HNM:=hid hn;clear hn hd;by_cases heq:n=x
  ·have hf:Hid (hasN L x=true):=hid (by
    unfold hasN;rw[List.any_eq_true];exact⟨L[k],List.getElem_mem hkl,by rw[<-HNM.out];exact decide_eq_true heq⟩)
   have HCL:=hid (closG_any n x d c wr (hx.cell HC.out));rw[decide_eq_true heq] at HCL;clear heq hall HNM;go_wp2_with (go_at_call 179;refine HCL.out.mono ?_;rintro e w1 ⟨rfl,x1⟩);go_returns;exact⟨⟨k,rfl,by rw[hf.out];simp⟩,hx.trans x1⟩
  have hf:Hid (∀ j (hj:j < L.length),j < k+1->L[j].1 ≠ x):=hid (fun j hj h=>by
   by_cases e:j=k
   ·subst e;rw[<-HNM.out];exact heq
   exact hall.out j hj (by omega))
  have HCL:=hid (closG_any n x d c wr (hx.cell HC.out));rw[decide_eq_false heq] at HCL;clear heq hall HNM;go_wp2_with (go_at_call 179;refine HCL.out.mono ?_;rintro e w1 ⟨rfl,x1⟩)
  go_roundw
  case rel=>exact⟨k+1,by omega,by go_num,hf,hx.trans x1⟩
  case measure=>simp[RowKit.intOf];omega
 have hf:Hid (hasN L x=false):=hid (by
  unfold hasN;rw[List.any_eq_false];intro q hq;obtain⟨j,hj,rfl⟩:=List.getElem_of_mem hq
  simpa using hall.out j hj (by rw[<-HN.out] at hj;omega))
 clear hall;go_wp2;go_returns;exact⟨⟨-1,rfl,by rw[hf.out];decide⟩,hx⟩
theorem hasG_any (a:Option Addr)(L:List Prt)(cap:Nat)(x:ByteArray)(c:Addr)(w:World)(h:PrtIn w a L)(hc:w.cell? c=some (.string x))(hL:L.length<=9223372036854775807):
  Calls Tryz.prog 114 #[.slice a L.length cap,.func (.func 179) #[] #[.pointer (some c)]] w fun e w'=>e=.returned (.bool (hasN L x))/\Ext w w':=by
 have H:=hid (idxG_any a L cap x c w h hc hL);clear h hc hL;go_enter Tryz.func114,Tryz.ntmps114;go_wp2_with (go_at_call 116;refine H.out.mono ?_;rintro e w1 ⟨⟨r,rfl,hr⟩,x1⟩);go_ret;exact⟨rfl,x1⟩
theorem PrtIn.take {w:World}{a:Option Addr}{L:List Prt}(h:PrtIn w a L)(i:Nat):PrtIn w a (L.take i):=fun k hk=>by
 have hk':k < L.length:=by rw[List.length_take] at hk;omega
 obtain⟨g,o,ha,c0,c1⟩:=h k hk';refine⟨g,o,ha,?_,?_⟩
 ·rw[List.getElem_take];exact c0
 rw[List.getElem_take];exact c1
theorem portsE_any (a:Option Addr)(L:List Prt)(cap:Nat)(w:World)(h:PrtIn w a L)(hL:L.length<=1000000000)(hLc:L.length<=cap)(hcap:cap<=9223372036854775807)(hs:∀ q ∈ L,q.1.size<=9223372036854775807):
  Calls Tryz.prog 123 #[.slice a L.length cap] w fun e w'=>e=.returned (.int .i64 (prtE L))/\Ext w w':=by
 obtain⟨n,hn⟩:∃ n,n=L.length:=⟨_,rfl⟩;obtain⟨V,hV⟩:∃ V,V=prtE L:=⟨_,rfl⟩;rw[<-hn] at hL hLc ⊢;rw[<-hV];unfold prtE at hV;rw[<-hn] at hV;have HV:=hid hV;have HI:=hid h;have HN:=hid hn;have HS:=hid hs;clear h hn hV hs;by_cases h8:8 < n
 ·have g1:decide ((8:Int) < n)=true:=decide_eq_true (by omega);have hr:Hid (V=2):=hid (by rw[HV.out,if_pos h8]);clear HV;go_enter Tryz.func123,Tryz.ntmps123;go_wp2;go_ret;exact⟨ret_i hr.out.symm,Ext.refl _⟩
 have g1:decide ((8:Int) < n)=false:=decide_eq_false (by omega);have H0:Hid (V=prtGo (L.drop 0) (L.take 0)):=hid (by rw[List.drop_zero,List.take_zero,HV.out,if_neg h8]);clear HV;go_enter Tryz.func123,Tryz.ntmps123;go_wp2;generalize decide ((8:Int) < (n:Int))=dk
 go_loopw [10] (fun i' wr=>∃ i:Nat,i<=n/\i'=.int .i64 i/\Hid (V=prtGo (L.drop i) (L.take i))/\Ext w wr) (fun i' _=>n - (RowKit.intOf i').toNat)
 case atStart=>exact⟨0,Nat.zero_le _,rfl,H0,Ext.refl _⟩
 clear H0;obtain⟨i,hi,rfl,hv,hx⟩:=hrel;by_cases hlt:i < n
 ·have hiL:i < L.length:=by rw[<-HN.out];exact hlt
  have HHAS:=fun(x:ByteArray) (c:Addr) (w5:World) (y:Ext wr w5) (hc:w5.cell? c=some (.string x))=>hasG_any a (L.take i) cap x c w5 (PrtIn.take (HI.out.ext (hx.trans y)) i) hc (by rw[List.length_take];omega)
  obtain⟨g,o,rfl,c0,c1⟩:=(HI.out.ext hx) i hiL;have hsz:=HS.out _ (List.getElem_mem hiL);have hv1:=hv.out;have htk:L.take (i+1)=L.take i++[L[i]]:=List.take_succ_eq_append_getElem hiL;rw[List.drop_eq_getElem_cons hiL] at hv1;unfold prtGo at hv1;rw[<-htk] at hv1;obtain⟨s,hse⟩:∃ s,s=L[i].1:=⟨_,rfl⟩;obtain⟨z,hze⟩:∃ z,z=L[i].2:=⟨_,rfl⟩;rw[<-hse] at c0 hsz hv1;rw[<-hze] at c1 hv1;have hnm:=isName_any s hsz;obtain⟨nb,hnb⟩:∃ b,b=nameB s.data.toList:=⟨_,rfl⟩;rw[<-hnb] at hv1 hnm;have hlt':(L.take i).length=i:=by rw[List.length_take];omega
  rw[hlt'] at HHAS;have HH1:=HHAS s;obtain⟨hb,hhb⟩:∃ b,b=hasN (L.take i) s:=⟨_,rfl⟩;rw[<-hhb] at HH1;rw[show((L.take i).any fun p=>decide (p.1=s))=hb from hhb.symm] at hv1;have HV1:=hid hv1;have HNM:=hid hnm;have HH:=hid HH1;have b0:(0:Int)<=(i:Int):=by omega
  have b1:(i:Int) < (n:Int):=by omega
  have b2:(i:Int)<=(n:Int):=by omega
  have b3:(i:Int)<=(cap:Int):=by omega
  clear hv hv1 htk hse hze hnm hnb HHAS HH1 hhb hlt';have y0:=fun ob=>((Ext.refl wr).alloc ob).cell c0
  have kc:∀ (p q:Value),(wr.alloc (.cells #[.string s,q] 167)).cell? ⟨wr.heap.size,0,none⟩=some (.string s):=fun p q=>by
   rw[Lib.cell_of_heap (heap_alloc_new wr _)];rfl
  cases nb with
  | false =>
   have hr:Hid (V=5):=hid (by rw[HV1.out];rfl);clear HV1;go_wp2_with (go_at_call 58;refine(HNM.out _).mono ?_;rintro e w2 ⟨rfl,rfl⟩);go_ret;exact⟨ret_i hr.out.symm,hx.alloc _⟩
  | true =>
   cases hb with
   | true =>
    have hr:Hid (V=6):=hid (by rw[HV1.out];rfl);clear HV1
    go_wp2_with (first
     | (go_at_call 58;refine(HNM.out _).mono ?_;rintro e w2 ⟨rfl,rfl⟩)
     | (go_at_call 114;refine(HH.out _ _ ((Ext.refl _).alloc _) (kc (.bool true) _)).mono ?_;rintro e w3 ⟨rfl,x3⟩;have d1:=(x3.cell (p:=⟨wr.heap.size,1,none⟩) (v:=.int .i64 z) (by rw[Lib.cell_of_heap (heap_alloc_new wr _)];rfl))))
    go_ret;exact⟨ret_i hr.out.symm,(hx.alloc _).trans x3⟩
   | false =>
    have HV2:Hid (V=if z < 0\/3 < z then 7 else prtGo (L.drop (i+1)) (L.take (i+1))):=hid (by
     have:=HV1.out;rw[if_neg (by decide),if_neg (by decide)] at this
     exact this)
    clear HV1;by_cases hlo:z < 0
    ·have d4:decide (z < 0)=true:=decide_eq_true hlo;have hr:Hid (V=7):=hid (by rw[HV2.out,if_pos (.inl hlo)]);clear hlo
     go_wp2_with (first
      | (go_at_call 58;refine(HNM.out _).mono ?_;rintro e w2 ⟨rfl,rfl⟩)
      | (go_at_call 114;refine(HH.out _ _ ((Ext.refl _).alloc _) (kc (.bool true) _)).mono ?_;rintro e w3 ⟨rfl,x3⟩;have d1:=(x3.cell (p:=⟨wr.heap.size,1,none⟩) (v:=.int .i64 z) (by rw[Lib.cell_of_heap (heap_alloc_new wr _)];rfl))))
     go_ret;exact⟨ret_i hr.out.symm,(hx.alloc _).trans x3⟩
    ·have d4:decide (z < 0)=false:=decide_eq_false hlo;by_cases hhi:3 < z
     ·have d5:decide (3 < z)=true:=decide_eq_true hhi;have hr:Hid (V=7):=hid (by rw[HV2.out,if_pos (.inr hhi)]);clear hlo hhi
      go_wp2_with (first
       | (go_at_call 58;refine(HNM.out _).mono ?_;rintro e w2 ⟨rfl,rfl⟩)
       | (go_at_call 114;refine(HH.out _ _ ((Ext.refl _).alloc _) (kc (.bool true) _)).mono ?_;rintro e w3 ⟨rfl,x3⟩;have d1:=(x3.cell (p:=⟨wr.heap.size,1,none⟩) (v:=.int .i64 z) (by rw[Lib.cell_of_heap (heap_alloc_new wr _)];rfl))))
      go_ret;exact⟨ret_i hr.out.symm,(hx.alloc _).trans x3⟩
     have d5:decide (3 < z)=false:=decide_eq_false hhi;have hr:Hid (V=prtGo (L.drop (i+1)) (L.take (i+1))):=hid (by rw[HV2.out,if_neg (fun h=>h.elim hlo hhi)]);clear hlo hhi
     go_wp2_with (first
      | (go_at_call 58;refine(HNM.out _).mono ?_;rintro e w2 ⟨rfl,rfl⟩)
      | (go_at_call 114;refine(HH.out _ _ ((Ext.refl _).alloc _) (kc (.bool true) _)).mono ?_;rintro e w3 ⟨rfl,x3⟩;have d1:=(x3.cell (p:=⟨wr.heap.size,1,none⟩) (v:=.int .i64 z) (by rw[Lib.cell_of_heap (heap_alloc_new wr _)];rfl))))
     go_roundw
     case rel=>exact⟨i+1,by omega,by go_num,hr,(hx.alloc _).trans x3⟩
     case measure=>simp[RowKit.intOf];omega
 have hr:Hid (V=0):=hid (by rw[hv.out,List.drop_eq_nil_of_le (by rw[<-HN.out];omega)];rfl);clear hv;go_wp2;go_ret;exact⟨ret_i hr.out.symm,hx⟩
end Go.Proofs.YtjaeedbjknejdaaGreatDoor.Nm

namespace Go.Proofs.YtjaeedbjknejdaaGreatDoor.Nm
open Go.RowKit Go.Sort Go.Lib Go.Shelf Fx Lx Tr At
theorem info_i : (Tryz.prog.info? 3).map (fun i=>(i.zero,i.size,i.bytes))=some (some (.int .i64 0),1,8):=by kernel_rfl
theorem news1 {w:World}(v:Value)(T:TypeId):∀ j u,[v][j]? = some u->(w.alloc (.cells #[v] T)).cell? ((⟨w.heap.size,0,none⟩:Addr).add j)=some u:=fun j u h=>cell_new1 w [v] T j u h
theorem around_any (g:Gr)(va:Value)(i:Nat)(w:World)(ha:GrIn w va g)(hi:i < g.C.length)(hC:g.C.length<=1000000000)(hp:∀ k (h:k < g.C.length),k<=i->g.C[k].2 < k /\ -1<=g.C[k].2):
  Calls Tryz.prog 181 #[va,.int .i64 (i:Int)] w fun e w'=>(∃ v,e=.returned v/\∃ xs,w'.ownsRow w.heap.size 3 1 v (depT g.C (i+1) i) xs)/\Ext w w':=by
 obtain⟨na,nac,ea,eac,ca,cac,rfl,-,-,a3⟩:=ha;obtain⟨nm,dir,NN,EE,CC⟩:=g;dsimp only at *;obtain⟨q,hq⟩:∃ n,n=NN.length:=⟨_,rfl⟩;obtain⟨el,hel⟩:∃ n,n=EE.length:=⟨_,rfl⟩;obtain⟨cl,hcl⟩:∃ n,n=CC.length:=⟨_,rfl⟩;obtain⟨D,hD⟩:∃ n,n=depT CC (i+1) i:=⟨_,rfl⟩;rw[<-hq,<- hel,<- hcl,<- hD];rw[<-hcl] at hC;have hic:i < cl:=by rw[hcl];exact hi
 have A3:=hid a3;have HCL:=hid hcl;have HP:=hid hp;have HD:=hid hD;clear a3 hq hel hcl hp hD hi;obtain⟨j0,hj0,hjz⟩:=Option.map_eq_some_iff.1 info_i;simp only[Prod.mk.injEq] at hjz;obtain⟨hjz0,hjz1,hjz2⟩:=hjz;go_enter Tryz.func181,Tryz.ntmps181;go_wp2;obtain⟨w1,hw1⟩:∃ w1,w1=w.alloc (.cells #[.string nm,.bool dir,.slice na q nac,.slice ea el eac,.slice ca cl cac] 26):=⟨_,rfl⟩;have X1:Hid (Ext (w.alloc (.cells #[.string nm,.bool dir,.slice na q nac,.slice ea el eac,.slice ca cl cac] 26)) w1):=hid (by rw[hw1];exact Ext.refl _);have XW:Hid (Ext w w1):=hid (((Ext.refl _).alloc _).trans X1.out);rw[<-hw1];clear hw1
 go_loopw [1,5] (fun c' l' wr=>∃ (c:Int) (n f:Nat) (xs:List Value),c'=.int .i64 c /\ -1<=c/\(n:Int)+c<=i/\c < f/\Hid (n+depT CC f c=D)/\Hid (wr.ownsRow w1.heap.size 3 1 l' n xs)/\Ext w1 wr) (fun c' _ _=>(RowKit.intOf c'+1).toNat)
 case atStart=>exact⟨i,0,i+1,[],rfl,by omega,by omega,by omega,hid (by rw[HD.out];omega),hid (World.ownsRow_nil _ _ _ _),Ext.refl _⟩
 rename_i l' wr hrel;obtain⟨c,n,f,xs,rfl,hc1,hnc,hcf,hd,hown,hx⟩:=hrel;have e0:=box1 (X1.out.trans hx) 4 _ rfl;by_cases hlt:0<=c
 ·obtain⟨k,rfl⟩:∃ k:Nat,c=(k:Int):=⟨c.toNat,by omega⟩;have hkC:k < CC.length:=by rw[<-HCL.out];omega
  obtain⟨f',rfl⟩:∃ f',f=f'+1:=⟨f - 1,by omega⟩;have hd1:=hd.out;rw[depT_step CC f' hkC] at hd1;obtain⟨g1,o1,rfl,x0,x1⟩:=(A3.out.ext (XW.out.trans hx)) k hkC;obtain⟨h1,h2⟩:=HP.out k hkC (by omega);obtain⟨p,hpe⟩:∃ p,p=CC[k].2:=⟨_,rfl⟩;rw[<-hpe] at x1 h1 h2 hd1;have HD1:Hid (n+1+depT CC f' p=D):=hid (by omega);have b0:(0:Int)<=(k:Int):=by omega
  have b1:(k:Int) < (cl:Int):=by omega
  have hbw:=hx.size;have HPE:=hid hpe;clear hd hd1 hpe x0;go_wp2_with (at_builtin;refine wpList_append_lies _ rfl _ _ 48 rfl w1.heap.size 3 j0 _ 1 8 Tryz.underlying48 hj0 hjz0 hjz1 hjz2 rfl (by decide) _ _ _ rfl (hown.out.alloc _) ⟨wr.heap.size,0,none⟩ 1 1 [.int .i64 (k:Int)] rfl rfl ?c1 ?c2 (by decide) ?c3 ?c4 ?c5 _ rfl ?_)
  case c1=>exact news1 _ _
  case c2=>simp[Value.oneCell']
  case c3=>unfold maxLen;omega
  case c4=>omega
  case c5=>simp;omega
  intro gg cc w3 hown3 hgrow3 _ _;have hx3:Ext w1 w3:=Below.grown (hx.alloc _) hgrow3 (by simp;omega) (fun q hq=>by have:=(hown.out.lt q hq).1;omega);have HO3:=hid hown3;have e0':=box1 (X1.out.trans hx3) 4 _ rfl;obtain⟨g2,o2,ha2,-,x1''⟩:=(A3.out.ext (XW.out.trans hx3)) k hkC;cases ha2;rw[show CC[k].2=p from ?cp] at x1''
  case cp=>exact HPE.out.symm
  clear hown3 hgrow3 hown e0 x1 hx;go_wp2
  go_roundw
  case rel=>exact⟨p,n+1,f',_,rfl,by omega,by omega,by omega,HD1,HO3,hx3⟩
  case measure=>simp[RowKit.intOf];omega
 have hd1:=hd.out;rw[depT_end CC f (by omega)] at hd1;have hnD:n=D:=by omega
 subst hnD;clear hd hd1;have d0:decide (0<=c)=false:=decide_eq_false hlt;have hsz:=XW.out.size;go_wp2;go_ret;exact⟨⟨_,rfl,_,own_base hown.out hsz⟩,XW.out.trans hx⟩
theorem depth_any (g:Gr)(va:Value)(i:Nat)(w:World)(ha:GrIn w va g)(hi:i < g.C.length)(hC:g.C.length<=1000000000)(hp:∀ k (h:k < g.C.length),k<=i->g.C[k].2 < k /\ -1<=g.C[k].2):
  Calls Tryz.prog 126 #[va,.int .i64 (i:Int)] w fun e w'=>e=.returned (.int .i64 (depT g.C (i+1) i:Int))/\Ext w w':=by
 have H:=fun(w5:World) (x:Ext w w5)=>around_any g va i w5 (ha.ext x) hi hC hp
 obtain⟨na,nac,ea,eac,ca,cac,rfl,-,-,-⟩:=ha;obtain⟨D,hD⟩:∃ n,n=depT g.C (i+1) i:=⟨_,rfl⟩;obtain⟨q,hq⟩:∃ n,n=g.N.length:=⟨_,rfl⟩;obtain⟨el,hel⟩:∃ n,n=g.E.length:=⟨_,rfl⟩;obtain⟨cl,hcl⟩:∃ n,n=g.C.length:=⟨_,rfl⟩;rw[<-hD,<- hq,<- hel,<- hcl] at H;rw[<-hD,<- hq,<- hel,<- hcl];have H:=hid H;clear hD hq hel hcl hp hi hC;go_enter Tryz.func126,Tryz.ntmps126;go_wp2_with (go_at_call 181;refine(H.out _ ((Ext.refl _).alloc _)).mono ?_;rintro e w2 ⟨⟨v,rfl,xs,ho⟩,x2⟩;obtain⟨pa,pc,rfl⟩:∃ a c,v=.slice a D c:=(by rcases ho.2 with⟨h1,h2⟩ | ⟨g,cap,cur,hv,_⟩;(exact⟨_,_,by rw[h1,h2]⟩);(exact⟨_,_,hv⟩));clear ho);go_ret;exact⟨rfl,((Ext.refl _).alloc _).trans x2⟩
theorem closC_any (n x:ByteArray)(d:Int)(c:Addr)(w:World)(hc:w.cell? c=some (.string x)):
  Calls Tryz.prog 125 #[.agg #[.string n,.int .i64 d],.pointer (some c)] w fun e w'=>e=.returned (.bool (decide (n=x)))/\Ext w w':=by
 have hc':∀ o,(w.alloc o).cell? c=some (.string x):=fun o=>((Ext.refl w).alloc o).cell hc
 go_enter Tryz.func125,Tryz.ntmps125;go_wp2;go_ret;exact⟨ret_bb (At.beqs n x),(Ext.refl _).alloc _⟩
def hasC (L:List (ByteArray × Int))(x:ByteArray):Bool:=L.any fun p=>decide (p.1=x)
theorem idxC_any (a:Option Addr)(L:List (ByteArray × Int))(cap:Nat)(x:ByteArray)(c:Addr)(w:World)(h:ClIn w a L)(hc:w.cell? c=some (.string x))(hL:L.length<=9223372036854775807):
  Calls Tryz.prog 180 #[.slice a L.length cap,.func (.func 125) #[] #[.pointer (some c)]] w fun e w'=>(∃ r:Int,e=.returned (.int .i64 r)/\decide (0<=r)=hasC L x)/\Ext w w':=by
 obtain⟨N,hN⟩:∃ N,N=L.length:=⟨_,rfl⟩;have HI:=hid h;rw[<-hN] at hL ⊢;have HN:=hid hN;have HC:=hid hc;clear h hN hc;go_enter Tryz.func180,Tryz.ntmps180;go_wp2_with fail
 go_loopw [8] (fun i' wr=>∃ k:Nat,k<=N/\i'=.int .i64 k/\Hid (∀ j (hj:j < L.length),j < k->L[j].1 ≠ x)/\Ext w wr) (fun i' _=>N - (RowKit.intOf i').toNat)
 case atStart=>exact⟨0,by omega,rfl,hid (fun j _ h=>absurd h (by omega)),Ext.refl _⟩
 obtain⟨k,hk,rfl,hall,hx⟩:=hrel;by_cases hlt:k < N
 ·have hkl:k < L.length:=by rw[<-HN.out];exact hlt
  obtain⟨g,o,rfl,c0,c1⟩:=(HI.out.ext hx) k hkl;obtain⟨n,hn⟩:∃ n,n=L[k].1:=⟨_,rfl⟩;obtain⟨d,hd⟩:∃ d,d=L[k].2:=⟨_,rfl⟩;rw[<-hn] at c0;rw[<-hd] at c1;have HNM:=hid hn;clear hn hd;by_cases heq:n=x
  ·have hf:Hid (hasC L x=true):=hid (by
    unfold hasC;rw[List.any_eq_true];exact⟨L[k],List.getElem_mem hkl,by rw[<-HNM.out];exact decide_eq_true heq⟩)
   have HCL:=hid (closC_any n x d c wr (hx.cell HC.out));rw[decide_eq_true heq] at HCL;clear heq hall HNM;go_wp2_with (go_at_call 125;refine HCL.out.mono ?_;rintro e w1 ⟨rfl,x1⟩);go_returns;exact⟨⟨k,rfl,by rw[hf.out];simp⟩,hx.trans x1⟩
  have hf:Hid (∀ j (hj:j < L.length),j < k+1->L[j].1 ≠ x):=hid (fun j hj h=>by
   by_cases e:j=k
   ·subst e;rw[<-HNM.out];exact heq
   exact hall.out j hj (by omega))
  have HCL:=hid (closC_any n x d c wr (hx.cell HC.out));rw[decide_eq_false heq] at HCL;clear heq hall HNM;go_wp2_with (go_at_call 125;refine HCL.out.mono ?_;rintro e w1 ⟨rfl,x1⟩)
  go_roundw
  case rel=>exact⟨k+1,by omega,by go_num,hf,hx.trans x1⟩
  case measure=>simp[RowKit.intOf];omega
 have hf:Hid (hasC L x=false):=hid (by
  unfold hasC;rw[List.any_eq_false];intro q hq;obtain⟨j,hj,rfl⟩:=List.getElem_of_mem hq
  simpa using hall.out j hj (by rw[<-HN.out] at hj;omega))
 clear hall;go_wp2;go_returns;exact⟨⟨-1,rfl,by rw[hf.out];decide⟩,hx⟩
theorem hasC_any (a:Option Addr)(L:List (ByteArray × Int))(cap:Nat)(x:ByteArray)(c:Addr)(w:World)(h:ClIn w a L)(hc:w.cell? c=some (.string x))(hL:L.length<=9223372036854775807):
  Calls Tryz.prog 124 #[.slice a L.length cap,.func (.func 125) #[] #[.pointer (some c)]] w fun e w'=>e=.returned (.bool (hasC L x))/\Ext w w':=by
 have H:=hid (idxC_any a L cap x c w h hc hL);clear h hc hL;go_enter Tryz.func124,Tryz.ntmps124;go_wp2_with (go_at_call 180;refine H.out.mono ?_;rintro e w1 ⟨⟨r,rfl,hr⟩,x1⟩);go_ret;exact⟨rfl,x1⟩
theorem ClIn.take {w:World}{a:Option Addr}{L:List (ByteArray × Int)}(h:ClIn w a L)(i:Nat):ClIn w a (L.take i):=fun k hk=>by
 have hk':k < L.length:=by rw[List.length_take] at hk;omega
 obtain⟨g,o,ha,c0,c1⟩:=h k hk';refine⟨g,o,ha,?_,?_⟩
 ·rw[List.getElem_take];exact c0
 rw[List.getElem_take];exact c1
end Go.Proofs.YtjaeedbjknejdaaGreatDoor.Nm
