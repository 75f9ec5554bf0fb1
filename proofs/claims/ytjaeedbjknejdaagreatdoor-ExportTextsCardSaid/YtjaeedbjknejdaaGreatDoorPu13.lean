/- Packed texts: NorEdge, NorVal, AttI, NorSta -/
import Derived.Test.YtjaeedbjknejdaaGreatDoorPu12
import Derived.Lib.AppendZeros
set_option linter.unusedVariables false
set_option linter.unusedSimpArgs false
set_option maxHeartbeats 16000000
set_option maxRecDepth 100000
namespace Go.Proofs.YtjaeedbjknejdaaGreatDoor.Nm
open Go.RowKit Go.Sort Go.Lib Go.Shelf Fx Lx Tr At
theorem ed_any (g:Gr)(va:Value)(x:Ed)(w:World)(ha:GrIn w va g)(hN:g.N.length<=1000000000)(hs:x.label.size<=4611686018427387904)(hpl:∀ y ∈ g.N,y.ports.length<=1000000000):
    Calls Tryz.prog 61 #[va,.agg #[.int .i64 x.a,.int .i64 x.b,.int .i64 x.ap,.int .i64 x.bp,.string x.label,.int .i64 x.wt,.int .i64 x.len]] w fun e w'=>e=.returned (.int .i64 (edE g.N x))/\Ext w w':=by
  obtain⟨na,nac,ea,eac,ca,cac,rfl,a1,-,-⟩:=ha;obtain⟨nm,dir,NN,EE,CC⟩:=g;obtain⟨a,b,ap,bp,lb,wt,ln⟩:=x;dsimp only at *;obtain⟨V,hV⟩:∃ V,V=edE NN ⟨a,b,ap,bp,lb,wt,ln⟩:=⟨_,rfl⟩;rw[<-hV];unfold edE at hV;dsimp only at hV;have hplc:=fun w5=>label_any lb hs w5
  obtain⟨LE,hLE⟩:∃ b,b=labE lb:=⟨_,rfl⟩;rw[<-hLE] at hplc hV;obtain⟨q,hq⟩:∃ n,n=NN.length:=⟨_,rfl⟩;obtain⟨el,hel⟩:∃ n,n=EE.length:=⟨_,rfl⟩;obtain⟨cl,hcl⟩:∃ n,n=CC.length:=⟨_,rfl⟩;rw[<-hq] at hN hV ⊢;rw[<-hel,<- hcl];have HLB:=Lib.hid hplc;have HV:=Lib.hid hV;have A1:=Lib.hid a1;have HQ:=Lib.hid hq;have HPO:=Lib.hid hpl;clear hplc hV a1 hLE hq hel hcl hpl;go_enter Tryz.func61,Tryz.ntmps61;go_wp2_with fail;obtain⟨w1,hw1⟩:∃ w1,w1=(w.alloc (.cells #[.string nm,.bool dir,.slice na q nac,.slice ea el eac,.slice ca cl cac] 26)).alloc (.cells #[.int .i64 a,.int .i64 b,.int .i64 ap,.int .i64 bp,.string lb,.int .i64 wt,.int .i64 ln] 61):=⟨_,rfl⟩
  have X1:Ext ((w.alloc (.cells #[.string nm,.bool dir,.slice na q nac,.slice ea el eac,.slice ca cl cac] 26)).alloc (.cells #[.int .i64 a,.int .i64 b,.int .i64 ap,.int .i64 bp,.string lb,.int .i64 wt,.int .i64 ln] 61)) w1:=by rw[hw1];exact Ext.refl _
  have XW:Hid (Ext w w1):=Lib.hid ((((Ext.refl _).alloc _).alloc _).trans X1);rw[<-hw1];clear hw1;have bb:=boxes X1;have m2:=bb.1 2 _ rfl;have l0:=bb.2 0 _ rfl;have l1:=bb.2 1 _ rfl;have l2:=bb.2 2 _ rfl;have l3:=bb.2 3 _ rfl;have l4:=bb.2 4 _ rfl;have l5:=bb.2 5 _ rfl;have l6:=bb.2 6 _ rfl;clear bb X1;by_cases r0:min a b < 0
  · have t0:decide (min a b < 0)=true:=decide_eq_true r0;have hr:Hid (V=3):=Lib.hid (by rw[HV.out];rw[if_pos (by omega)]);clear HV
    go_quiet (fail)
    go_wp2;go_ret;exact⟨ret_i hr.out.symm,XW.out.trans (by first | exact(Ext.refl _).drewN _ | exact(Ext.refl _).drew)⟩
  have t0:decide (min a b < 0)=false:=decide_eq_false r0;by_cases r1:(q:Int)<=max a b
  · have t1:decide ((q:Int)<=max a b)=true:=decide_eq_true r1;have hr:Hid (V=3):=Lib.hid (by rw[HV.out];rw[if_pos (by omega)]);clear HV
    go_quiet (fail)
    go_wp2;go_ret;exact⟨ret_i hr.out.symm,XW.out.trans (by first | exact(Ext.refl _).drewN _ | exact(Ext.refl _).drew)⟩
  have t1:decide ((q:Int)<=max a b)=false:=decide_eq_false r1;by_cases r2:min ap bp < -1
  · have t2:decide (min ap bp < -1)=true:=decide_eq_true r2;have hr:Hid (V=3):=Lib.hid (by rw[HV.out];rw[if_pos (by omega)]);clear HV
    go_quiet (fail)
    go_wp2;go_ret;exact⟨ret_i hr.out.symm,XW.out.trans (by first | exact(Ext.refl _).drewN _ | exact(Ext.refl _).drew)⟩
  have t2:decide (min ap bp < -1)=false:=decide_eq_false r2;obtain⟨ka,rfl⟩:∃ n:Nat,a=(n:Int):=⟨a.toNat,by omega⟩;obtain⟨kb,rfl⟩:∃ n:Nat,b=(n:Int):=⟨b.toNat,by omega⟩;have hka:ka < NN.length:=by rw[<-HQ.out];omega
  have hkb:kb < NN.length:=by rw[<-HQ.out];omega
  have hPA:portsOf NN (ka:Int)=NN[ka].ports.length:=by unfold portsOf;rw[Int.toNat_natCast,List.getElem?_eq_getElem hka];rfl
  have hPB:portsOf NN (kb:Int)=NN[kb].ports.length:=by unfold portsOf;rw[Int.toNat_natCast,List.getElem?_eq_getElem hkb];rfl
  have hv:=HV.out;rw[hPA,hPB] at hv;clear HV;obtain⟨g1,o1,p1,cc1,hna,-,-,-,-,-,x5,-⟩:=A1.out ka hka;obtain⟨g2,o2,p2,cc2,hnb,-,-,-,-,-,y5,-⟩:=A1.out kb hkb;subst hna;cases hnb;have hla:=HPO.out _ (List.getElem_mem hka);have hlb:=HPO.out _ (List.getElem_mem hkb);obtain⟨PA,hPAe⟩:∃ n,n=NN[ka].ports.length:=⟨_,rfl⟩;obtain⟨PB,hPBe⟩:∃ n,n=NN[kb].ports.length:=⟨_,rfl⟩;rw[<-hPAe,<- hPBe] at hv;have HV:=Lib.hid hv;clear hv;rw[<-hPAe] at x5 hla;rw[<-hPBe] at y5 hlb;have b0:(0:Int)<=(ka:Int):=by omega
  have b1:(ka:Int) < (q:Int):=by omega
  have b2:(0:Int)<=(kb:Int):=by omega
  have b3:(kb:Int) < (q:Int):=by omega
  have z5:=XW.out.cell x5;have z6:=XW.out.cell y5;clear hPA hPB hPAe hPBe hka hkb x5 y5;by_cases r3:(PA:Int)<=ap
  · have t3:decide ((PA:Int)<=ap)=true:=decide_eq_true r3;have hr:Hid (V=3):=Lib.hid (by rw[HV.out];rw[if_pos (by omega)]);clear HV
    go_quiet (fail)
    go_wp2;go_ret;exact⟨ret_i hr.out.symm,XW.out.trans (by first | exact(Ext.refl _).drewN _ | exact(Ext.refl _).drew)⟩
  have t3:decide ((PA:Int)<=ap)=false:=decide_eq_false r3;by_cases r4:(PB:Int)<=bp
  · have t4:decide ((PB:Int)<=bp)=true:=decide_eq_true r4;have hr:Hid (V=3):=Lib.hid (by rw[HV.out];rw[if_pos (by omega)]);clear HV
    go_quiet (fail)
    go_wp2;go_ret;exact⟨ret_i hr.out.symm,XW.out.trans (by first | exact(Ext.refl _).drewN _ | exact(Ext.refl _).drew)⟩
  have t4:decide ((PB:Int)<=bp)=false:=decide_eq_false r4;have HV1:=Lib.hid (show V=if LE ≠ 0 then LE else if wt < 1\/1000 < wt\/ln < 1\/64 < ln then 7 else 0 by rw[HV.out,if_neg (by omega)]);clear HV;have HV:=HV1;clear HV1
  go_quiet (fail)
  have x9:Ext w1 (w1.drewN nq):=(Ext.refl _).drewN _;obtain⟨w9,hw9⟩:∃ w9,w9=w1.drewN nq:=⟨_,rfl⟩;rw[<-hw9] at x9 ⊢;have n4:=x9.cell l4;have p5:=x9.cell l5;have p6:=x9.cell l6;have X9:=Lib.hid (XW.out.trans x9);clear hw9 x9 l0 l1 l2 l3 l4 l5 l6 m2 z5 z6;by_cases hl0:LE=0
  case neg =>
    obtain⟨f2,f3⟩:=nfacts hl0;have hr:Hid (V=LE):=Lib.hid (by rw[HV.out];rw[if_pos hl0]);clear HV;go_wp2_with (go_at_call 121;refine(HLB.out _).mono ?_;rintro e w4 ⟨rfl,x4⟩;have n5:=x4.cell p5;have n6:=x4.cell p6);go_ret;exact⟨ret_i hr.out.symm,X9.out.trans x4⟩
  subst hl0;obtain⟨f2,f3⟩:=efacts 0;have HV1:=Lib.hid (show V=if wt < 1\/1000 < wt\/ln < 1\/64 < ln then 7 else 0 by rw[HV.out,if_neg (by decide)]);clear HV;have HV:=HV1;clear HV1;by_cases r5:wt < 1
  · have t5:decide (wt < 1)=true:=decide_eq_true r5;have hr:Hid (V=7):=Lib.hid (by rw[HV.out];rw[if_pos (by omega)]);clear HV;go_wp2_with (go_at_call 121;refine(HLB.out _).mono ?_;rintro e w4 ⟨rfl,x4⟩;have n5:=x4.cell p5;have n6:=x4.cell p6);go_ret;exact⟨ret_i hr.out.symm,X9.out.trans x4⟩
  have t5:decide (wt < 1)=false:=decide_eq_false r5;by_cases r6:1000 < wt
  · have t6:decide (1000 < wt)=true:=decide_eq_true r6;have hr:Hid (V=7):=Lib.hid (by rw[HV.out];rw[if_pos (by omega)]);clear HV;go_wp2_with (go_at_call 121;refine(HLB.out _).mono ?_;rintro e w4 ⟨rfl,x4⟩;have n5:=x4.cell p5;have n6:=x4.cell p6);go_ret;exact⟨ret_i hr.out.symm,X9.out.trans x4⟩
  have t6:decide (1000 < wt)=false:=decide_eq_false r6;by_cases r7:ln < 1
  · have t7:decide (ln < 1)=true:=decide_eq_true r7;have hr:Hid (V=7):=Lib.hid (by rw[HV.out];rw[if_pos (by omega)]);clear HV;go_wp2_with (go_at_call 121;refine(HLB.out _).mono ?_;rintro e w4 ⟨rfl,x4⟩;have n5:=x4.cell p5;have n6:=x4.cell p6);go_ret;exact⟨ret_i hr.out.symm,X9.out.trans x4⟩
  have t7:decide (ln < 1)=false:=decide_eq_false r7;by_cases r8:64 < ln
  · have t8:decide (64 < ln)=true:=decide_eq_true r8;have hr:Hid (V=7):=Lib.hid (by rw[HV.out];rw[if_pos (by omega)]);clear HV;go_wp2_with (go_at_call 121;refine(HLB.out _).mono ?_;rintro e w4 ⟨rfl,x4⟩;have n5:=x4.cell p5;have n6:=x4.cell p6);go_ret;exact⟨ret_i hr.out.symm,X9.out.trans x4⟩
  have t8:decide (64 < ln)=false:=decide_eq_false r8;have hr:Hid (V=0):=Lib.hid (by rw[HV.out];rw[if_neg (by omega)]);clear HV;go_wp2_with (go_at_call 121;refine(HLB.out _).mono ?_;rintro e w4 ⟨rfl,x4⟩;have n5:=x4.cell p5;have n6:=x4.cell p6);go_ret;exact⟨ret_i hr.out.symm,X9.out.trans x4⟩
end Go.Proofs.YtjaeedbjknejdaaGreatDoor.Nm

namespace Go.Proofs.YtjaeedbjknejdaaGreatDoor.Nm
open Go.RowKit Go.Sort Go.Lib Go.Shelf Fx Lx Tr At
theorem validG_any (g:Gr)(va:Value)(w:World)(ha:GrIn w va g)(hcp:GrCp w va g)(hsm:GrSm g):
    Calls Tryz.prog 25 #[va] w fun e w'=>e=.returned (.int .i64 (grE g))/\Ext w w':=by
  obtain⟨h1,h2,h3,h4,h5,h6,h7⟩:=hsm;have hnd:=fun(i:Nat) (hi:i < g.N.length) (w5:World) (x:Ext w w5)=>node_any g va i w5 (ha.ext x) (hcp.ext ha x) hi h2 h4 h5
  have hcl:=fun(i:Nat) (hi:i < g.C.length) (hp:∀ k (h:k < g.C.length),k < i->g.C[k].2 < k /\ -1<=g.C[k].2) (w5:World) (x:Ext w w5)=>cl_any g va i w5 (ha.ext x) (hcp.ext ha x) hi h2 h4 h6 hp
  have hed:=fun(x:Ed) (hs:x.label.size<=4611686018427387904) (w5:World) (y:Ext w w5)=>ed_any g va x w5 (ha.ext y) h2 hs (fun z hz=>(h5 z hz).2.2.1)
  clear hcp;obtain⟨na,nac,ea,eac,ca,cac,rfl,-,a2,-⟩:=ha;obtain⟨nm,dir,NN,EE,CC⟩:=g;dsimp only at *;obtain⟨V,hV⟩:∃ V,V=grE ⟨nm,dir,NN,EE,CC⟩:=⟨_,rfl⟩;rw[<-hV];unfold grE at hV;dsimp only at hV;have hnmc:=isName_any nm (by omega);obtain⟨nb,hnb⟩:∃ b,b=nameB nm.data.toList:=⟨_,rfl⟩;rw[<-hnb] at hnmc hV;obtain⟨VN,hVN⟩:∃ v,v=ndsE CC.length NN []:=⟨_,rfl⟩;obtain⟨VC,hVC⟩:∃ v,v=clsE NN CC 0 CC:=⟨_,rfl⟩;obtain⟨VE,hVE⟩:∃ v,v=edsE NN EE:=⟨_,rfl⟩;rw[<-hVN,<- hVC,<- hVE] at hV;have H0:Hid (VN=ndsE CC.length (NN.drop 0) (NN.take 0)):=Lib.hid (by rw[List.drop_zero,List.take_zero];exact hVN);have G0:Hid (VC=clsE NN CC 0 (CC.drop 0)):=Lib.hid (by rw[List.drop_zero];exact hVC);have E0:Hid (VE=edsE NN (EE.drop 0)):=Lib.hid (by rw[List.drop_zero];exact hVE)
  obtain⟨q,hq⟩:∃ n,n=NN.length:=⟨_,rfl⟩;obtain⟨el,hel⟩:∃ n,n=EE.length:=⟨_,rfl⟩;obtain⟨cl,hcl'⟩:∃ n,n=CC.length:=⟨_,rfl⟩;rw[<-hq] at h2 hed hV ⊢;rw[<-hel] at h3 hed hV ⊢;rw[<-hcl'] at h4 hed hV H0 ⊢;have HV:=Lib.hid hV;have HND:=Lib.hid hnd;have HCL:=Lib.hid hcl;have HED:=Lib.hid hed;have HNM:=Lib.hid hnmc;have A2:=Lib.hid a2;have HQ:=Lib.hid hq;have HEL:=Lib.hid hel;have HC:=Lib.hid hcl';have H7:=Lib.hid h7;clear hV hnd hcl hed hnmc a2 hq hel hcl' h7 hVN hVC hVE hnb h5 h6;go_enter Tryz.func25,Tryz.ntmps25;by_cases r0:64 < q
  · have t0:decide ((64:Int) < q)=true:=decide_eq_true (by omega);have hr:Hid (V=2):=Lib.hid (by rw[HV.out,if_pos (by omega)]);clear HV;go_wp2;go_ret;exact⟨ret_i hr.out.symm,(Ext.refl _).alloc _⟩
  have t0:decide ((64:Int) < q)=false:=decide_eq_false (by omega);by_cases r1:256 < el
  · have t1:decide ((256:Int) < el)=true:=decide_eq_true (by omega);have hr:Hid (V=2):=Lib.hid (by rw[HV.out,if_pos (by omega)]);clear HV;go_wp2;go_ret;exact⟨ret_i hr.out.symm,(Ext.refl _).alloc _⟩
  have t1:decide ((256:Int) < el)=false:=decide_eq_false (by omega);by_cases r2:16 < cl
  · have t2:decide ((16:Int) < cl)=true:=decide_eq_true (by omega);have hr:Hid (V=2):=Lib.hid (by rw[HV.out,if_pos (by omega)]);clear HV;go_wp2;go_ret;exact⟨ret_i hr.out.symm,(Ext.refl _).alloc _⟩
  have t2:decide ((16:Int) < cl)=false:=decide_eq_false (by omega);cases nb with
  | false =>
    have hr:Hid (V=5):=Lib.hid (by rw[HV.out,if_neg (by omega),if_pos rfl]);clear HV;go_wp2_with (go_at_call 58;refine(HNM.out _).mono ?_;rintro e w2 ⟨rfl,rfl⟩);go_ret;exact⟨ret_i hr.out.symm,(Ext.refl _).alloc _⟩
  | true =>
    have HV1:Hid (V=if VN ≠ 0 then VN else if VC ≠ 0 then VC else VE):=Lib.hid (by rw[HV.out,if_neg (by omega),if_neg (by decide)]);clear HV;go_wp2_with (go_at_call 58;refine(HNM.out _).mono ?_;rintro e w2 ⟨rfl,rfl⟩);obtain⟨w1,hw1⟩:∃ w1,w1=w.alloc (.cells #[.string nm,.bool dir,.slice na q nac,.slice ea el eac,.slice ca cl cac] 26):=⟨_,rfl⟩;have X1:Hid (Ext (w.alloc (.cells #[.string nm,.bool dir,.slice na q nac,.slice ea el eac,.slice ca cl cac] 26)) w1):=Lib.hid (by rw[hw1];exact Ext.refl _);have XW:Hid (Ext w w1):=Lib.hid (((Ext.refl _).alloc _).trans X1.out);rw[<-hw1];clear hw1;generalize decide ((64:Int) < (q:Int))=dk0;generalize decide ((256:Int) < (el:Int))=dk1;generalize decide ((16:Int) < (cl:Int))=dk2
    go_loopw [33] (fun i' wr=>∃ k:Nat,k<=q/\i'=.int .i64 k/\Hid (VN=ndsE cl (NN.drop k) (NN.take k))/\Ext w1 wr) (fun i' _=>q - (RowKit.intOf i').toNat)
    case atStart=>exact⟨0,Nat.zero_le _,rfl,H0,Ext.refl _⟩
    case round =>
      clear H0;obtain⟨k,hk,rfl,hvn,hx⟩:=hrel;have bb:=box1 (X1.out.trans hx);have m0:=bb 0 _ rfl;have m1:=bb 1 _ rfl;have m2:=bb 2 _ rfl;have m3:=bb 3 _ rfl;have m4:=bb 4 _ rfl;clear bb;by_cases hlt:k < q
      · have hkN:k < NN.length:=by rw[<-HQ.out];exact hlt
        have hv1:=hvn.out;rw[List.drop_eq_getElem_cons hkN] at hv1;unfold ndsE at hv1;rw[<-List.take_succ_eq_append_getElem hkN] at hv1;have HN1:=HND.out k hkN;rw[<-HC.out] at HN1;obtain⟨e,he⟩:∃ e,e=ndE cl (NN.take k) NN[k]:=⟨_,rfl⟩;rw[<-he] at hv1 HN1;rw[<-HQ.out,<- HEL.out] at HN1;have HN1:=Lib.hid HN1;have HV2:=Lib.hid hv1;clear hv1 hvn he;by_cases h0:e=0
        · obtain⟨f1,f2⟩:=efacts 0;subst h0;have hn:Hid (VN=ndsE cl (NN.drop (k+1)) (NN.take (k+1))):=Lib.hid (by rw[HV2.out];simp);go_wp2_with (go_at_call 59;refine(HN1.out _ (XW.out.trans hx)).mono ?_;rintro e w2 ⟨rfl,x2⟩)
          go_roundw
          case rel=>exact⟨k+1,by omega,by go_num,hn,hx.trans x2⟩
          case measure=>simp[RowKit.intOf];omega
        obtain⟨f1,f2⟩:=nfacts h0
        have hr:Hid (V=e):=Lib.hid (by
          have h1:VN=e:=by rw[HV2.out,if_pos h0]
          rw[HV1.out,h1,if_pos h0])
        clear h0;go_wp2_with (go_at_call 59;refine(HN1.out _ (XW.out.trans hx)).mono ?_;rintro e w2 ⟨rfl,x2⟩);go_ret;exact⟨ret_i hr.out.symm,(XW.out.trans hx).trans x2⟩
      have hn0:VN=0:=by rw[hvn.out,List.drop_eq_nil_of_le (by rw[<-HQ.out];omega)];rfl
      have HV2:Hid (V=if VC ≠ 0 then VC else VE):=Lib.hid (by rw[HV1.out,if_neg (by omega)]);have hxa:=Lib.hid hx;clear hvn hn0 HV1 hx;obtain⟨w5,hw5⟩:∃ w5:World,w5=wr:=⟨_,rfl⟩;subst hw5;go_wp2
      go_loopw [46] (fun i' wr=>∃ k:Nat,k<=cl/\i'=.int .i64 k/\Hid (VC=clsE NN CC k (CC.drop k))/\Hid (∀ j (h:j < CC.length),j < k->CC[j].2 < j /\ -1<=CC[j].2)/\Ext w1 wr) (fun i' _=>cl - (RowKit.intOf i').toNat)
      case atStart=>exact⟨0,Nat.zero_le _,rfl,G0,Lib.hid (fun j _ h=>absurd h (by omega)),hxa.out⟩
      clear G0 m0 m1 m2 m3 m4;obtain⟨j,hj,rfl,hvc,hpa,hx⟩:=hrel;have bb:=box1 (X1.out.trans hx);have m0:=bb 0 _ rfl;have m1:=bb 1 _ rfl;have m2:=bb 2 _ rfl;have m3:=bb 3 _ rfl;have m4:=bb 4 _ rfl;clear bb;by_cases hlj:j < cl
      · have hjC:j < CC.length:=by rw[<-HC.out];exact hlj
        have hv1:=hvc.out;rw[List.drop_eq_getElem_cons hjC] at hv1;unfold clsE at hv1;have HC1:=HCL.out j hjC hpa.out;have hpar:=@cl_parent NN CC j CC[j];obtain⟨e,he⟩:∃ e,e=clE NN CC j CC[j]:=⟨_,rfl⟩;rw[<-he] at hv1 HC1 hpar;rw[<-HQ.out,<- HEL.out,<- HC.out] at HC1;have HC1:=Lib.hid HC1;have HV3:=Lib.hid hv1;have HPAR:=Lib.hid hpar;clear hv1 hvc he hpar;by_cases h0:e=0
        · obtain⟨f1,f2⟩:=efacts 0;subst h0;have hn:Hid (VC=clsE NN CC (j+1) (CC.drop (j+1))):=Lib.hid (by rw[HV3.out];simp)
          have hpa2:Hid (∀ l (h:l < CC.length),l < j+1->CC[l].2 < l /\ -1<=CC[l].2):=Lib.hid (fun l hl hlj=>by
            by_cases e:l=j
            · subst e;exact HPAR.out rfl
            exact hpa.out l hl (by omega))
          go_wp2_with (go_at_call 60;refine(HC1.out _ (XW.out.trans hx)).mono ?_;rintro e w2 ⟨rfl,x2⟩)
          go_roundw
          case rel=>exact⟨j+1,by omega,by go_num,hn,hpa2,hx.trans x2⟩
          case measure=>simp[RowKit.intOf];omega
        obtain⟨f1,f2⟩:=nfacts h0
        have hr:Hid (V=e):=Lib.hid (by
          have h1:VC=e:=by rw[HV3.out,if_pos h0]
          rw[HV2.out,h1,if_pos h0])
        clear h0;go_wp2_with (go_at_call 60;refine(HC1.out _ (XW.out.trans hx)).mono ?_;rintro e w2 ⟨rfl,x2⟩);go_ret;exact⟨ret_i hr.out.symm,(XW.out.trans hx).trans x2⟩
      have hn0:VC=0:=by rw[hvc.out,List.drop_eq_nil_of_le (by rw[<-HC.out];omega)];rfl
      have HV3:Hid (V=VE):=Lib.hid (by rw[HV2.out,if_neg (by omega)]);have hxb:=Lib.hid hx;clear hvc hn0 HV2 hx hpa;obtain⟨w6,hw6⟩:∃ w6:World,w6=wr:=⟨_,rfl⟩;subst hw6;go_wp2
      go_loopw [59] (fun i' wr=>∃ k:Nat,k<=el/\i'=.int .i64 k/\Hid (VE=edsE NN (EE.drop k))/\Ext w1 wr) (fun i' _=>el - (RowKit.intOf i').toNat)
      case atStart=>exact⟨0,Nat.zero_le _,rfl,E0,hxb.out⟩
      clear E0 m0 m1 m2 m3 m4;obtain⟨l,hl,rfl,hve,hx⟩:=hrel;have bb:=box1 (X1.out.trans hx);have m0:=bb 0 _ rfl;have m1:=bb 1 _ rfl;have m2:=bb 2 _ rfl;have m3:=bb 3 _ rfl;have m4:=bb 4 _ rfl;clear bb;by_cases hll:l < el
      · have hlE:l < EE.length:=by rw[<-HEL.out];exact hll
        obtain⟨g1,o1,rfl,x0,x1,x2,x3,x4,x5,x6⟩:=(A2.out.ext (XW.out.trans hx)) l hlE;have hv1:=hve.out;rw[List.drop_eq_getElem_cons hlE] at hv1;unfold edsE at hv1;have hsz:=H7.out _ (List.getElem_mem hlE);have HE1:=HED.out EE[l] hsz;obtain⟨e,he⟩:∃ e,e=edE NN EE[l]:=⟨_,rfl⟩;rw[<-he] at hv1 HE1;obtain⟨z,hz⟩:∃ z,z=EE[l]:=⟨_,rfl⟩;rw[<-hz] at x0 x1 x2 x3 x4 x5 x6 HE1;obtain⟨z0,z1,z2,z3,z4,z5,z6⟩:=z;dsimp only at x0 x1 x2 x3 x4 x5 x6 HE1;have HV4:=Lib.hid hv1;have HE2:=Lib.hid HE1;have b0:(0:Int)<=(l:Int):=by omega
        have b1:(l:Int) < (el:Int):=by omega
        clear hv1 hve he hz HE1 hsz;have m0':=fun ob=>((Ext.refl wr).alloc ob).cell m0;have m1':=fun ob=>((Ext.refl wr).alloc ob).cell m1;have m2':=fun ob=>((Ext.refl wr).alloc ob).cell m2;have m3':=fun ob=>((Ext.refl wr).alloc ob).cell m3;have m4':=fun ob=>((Ext.refl wr).alloc ob).cell m4
        by_cases h0:e=0
        · obtain⟨f1,f2⟩:=efacts 0;subst h0;have hn:Hid (VE=edsE NN (EE.drop (l+1))):=Lib.hid (by rw[HV4.out];simp);go_wp2_with (go_at_call 61;refine(HE2.out _ ((XW.out.trans hx).alloc _)).mono ?_;rintro e w7 ⟨rfl,x7⟩)
          go_roundw
          case rel=>exact⟨l+1,by omega,by go_num,hn,(hx.alloc _).trans x7⟩
          case measure=>simp[RowKit.intOf];omega
        obtain⟨f1,f2⟩:=nfacts h0;have hr:Hid (V=e):=Lib.hid (by rw[HV3.out,HV4.out,if_pos h0]);clear h0;go_wp2_with (go_at_call 61;refine(HE2.out _ ((XW.out.trans hx).alloc _)).mono ?_;rintro e w7 ⟨rfl,x7⟩);go_ret;exact⟨ret_i hr.out.symm,((XW.out.trans hx).alloc _).trans x7⟩
      have hr:Hid (V=0):=Lib.hid (by rw[HV3.out,hve.out,List.drop_eq_nil_of_le (by rw[<-HEL.out];omega)];rfl);clear hve;go_wp2;go_ret;exact⟨ret_i hr.out.symm,XW.out.trans hx⟩
end Go.Proofs.YtjaeedbjknejdaaGreatDoor.Nm

namespace Go.Proofs.YtjaeedbjknejdaaGreatDoor.At
open Go.RowKit Go.Sort Go.Lib Go.Shelf Fx Lx
theorem heap_ext {w w':World}{b:Nat}{o:Obj}(h:w.heap[b]? = some o)(x:Ext w w'):w'.heap[b]? = some o :=
  (x.block b (Array.getElem?_eq_some_iff.1 h).1).trans h
theorem info_atr : (Tryz.prog.info? 69).map (fun i=>(i.zero,i.size,i.bytes))=some (some (.agg #[.string ⟨#[]⟩,.string ⟨#[]⟩]),2,32):=by kernel_rfl
end Go.Proofs.YtjaeedbjknejdaaGreatDoor.At
namespace Go.Proofs.YtjaeedbjknejdaaGreatDoor.At
open Go.RowKit Go.Sort Go.Lib Go.Shelf Fx Lx
end Go.Proofs.YtjaeedbjknejdaaGreatDoor.At
namespace Go.Proofs.YtjaeedbjknejdaaGreatDoor.At
open Go.RowKit Go.Sort Go.Lib Go.Shelf Fx Lx
end Go.Proofs.YtjaeedbjknejdaaGreatDoor.At
namespace Go.Proofs.YtjaeedbjknejdaaGreatDoor.At
open Go.RowKit Go.Sort Go.Lib Go.Shelf Fx Lx
end Go.Proofs.YtjaeedbjknejdaaGreatDoor.At

namespace Go.Proofs.YtjaeedbjknejdaaGreatDoor.Nm
open Go.Lib Fx Lx Tr At
mutual
def cntS : Stm->Nat
  | .mk _ _ _ _ b=>cntL b+1
def cntL : List Stm->Nat
  | []=>0
  | x::r=>cntS x+cntL r
end
theorem cntS_body (x:Stm):cntS x=cntL x.body+1:=by cases x;rw[cntS];rfl
theorem cntL_cons (x:Stm)(r:List Stm):cntL (x::r)=cntS x+cntL r:=by rw[cntL]
theorem cntL_nil : cntL []=0:=by rw[cntL]
mutual
theorem cntS_flat (lev:Nat):∀ x:Stm,(flatS lev x).length=cntS x
  | .mk k n r a b=>by rw[flatS,cntS,List.length_cons,cntL_flat _ b]
theorem cntL_flat (lev:Nat):∀ L:List Stm,(flatL lev L).length=cntL L
  | []=>by rw[flatL,cntL];rfl
  | x::r=>by rw[flatL,cntL,List.length_append,cntS_flat lev x,cntL_flat lev r]
end
end Go.Proofs.YtjaeedbjknejdaaGreatDoor.Nm
