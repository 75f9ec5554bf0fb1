/- Packed texts: NorNode, NorCl -/
import Derived.Test.YtjaeedbjknejdaaGreatDoorPu11
set_option linter.unusedVariables false
set_option linter.unusedSimpArgs false
set_option maxHeartbeats 16000000
set_option maxRecDepth 100000
namespace Go.Proofs.YtjaeedbjknejdaaGreatDoor.Nm
open Go.RowKit Go.Sort Go.Lib Go.Shelf Fx Lx Tr At
def NdCp (w:World)(a:Option Addr)(L:List Nd):Prop :=
  ∀ k,k < L.length->∀ g o p n c,a=some ⟨g,o,none⟩->w.cell? ⟨g,o+k * 6+5,none⟩=some (.slice p n c)->n<=c/\c<=9223372036854775807
def GrCp (w:World)(v:Value)(g:Gr):Prop :=
  ∃ n nc e ec c cc,v=.agg #[.string g.name,.bool g.dir,.slice n g.N.length nc,.slice e g.E.length ec,.slice c g.C.length cc]/\NdCp w n g.N/\g.C.length<=cc/\cc<=9223372036854775807
theorem NdCp.ext {w w':World}{a:Option Addr}{L:List Nd}(h:NdCp w a L)(hn:NdIn w a L)(x:Ext w w'):NdCp w' a L:=fun k hk g o p n c ha hc=>by
  obtain⟨g1,o1,p1,c1,ha1,-,-,-,-,-,h5,-⟩:=hn k hk;rw[ha] at ha1;cases ha1;have:=x.cell h5;rw[hc] at this;have e:=Option.some.inj this;cases e;exact h k hk g o _ _ _ ha h5
theorem agg_at {w:World}{g:Gr}{s:ByteArray}{b:Bool}{n e c:Option Addr}{l1 l2 l3 nc ec cc:Nat}(h:GrCp w (.agg #[.string s,.bool b,.slice n l1 nc,.slice e l2 ec,.slice c l3 cc]) g):
    NdCp w n g.N/\g.C.length<=cc/\cc<=9223372036854775807:=by
  obtain⟨n',nc',e',ec',c',cc',hv,h1,h2,h3⟩:=h;have e1:=congrArg (fun v=>match v with | .agg a=>a.toList | _=>[]) hv;have e2:=congrArg (fun l=>l[2]?) e1;have e3:=congrArg (fun l=>l[4]?) e1;dsimp only[List.getElem?_cons_succ,List.getElem?_cons_zero] at e2 e3;have e2:Value.slice n l1 nc=.slice n' g.N.length nc':=Option.some.inj e2;have e3:Value.slice c l3 cc=.slice c' g.C.length cc':=Option.some.inj e3;cases e2;cases e3;exact⟨h1,h2,h3⟩
theorem GrCp.ext {w w':World}{v:Value}{g:Gr}(h:GrCp w v g)(hg:GrIn w v g)(x:Ext w w'):GrCp w' v g:=by
  obtain⟨n,nc,e,ec,c,cc,rfl,a1,-,-⟩:=hg;obtain⟨h1,h2,h3⟩:=agg_at h;exact⟨n,nc,e,ec,c,cc,rfl,h1.ext a1 x,h2,h3⟩
theorem find_lt {L:List Nd}{i:Nat}(hi:i < L.length)(hb:((L.take i).any fun p=>decide (p.name=L[i].name))=true):findT L L[i].name < (i:Int):=by
  rw[List.any_eq_true] at hb;obtain⟨p,hp,he⟩:=hb;rw[List.mem_take_iff_getElem] at hp;obtain⟨j,hj,rfl⟩:=hp;have he:=of_decide_eq_true he
  have key:∀ (M:List Nd) (n:ByteArray) (b:Int) (j:Nat) (hj:j < M.length),M[j].name=n->findGo n b M<=b+j:=by
    intro M n
    induction M with
    | nil=>intro b j hj;exact absurd hj (by simp)
    | cons x M ih =>
      intro b j hj hx;unfold findGo;by_cases hx0:x.name=n
      · rw[if_pos hx0];omega
      · rw[if_neg hx0];cases j with
        | zero=>exact absurd hx hx0
        | succ j =>
          have:=ih (b+1) j (by simpa using hj) hx;omega
  have:=key L L[i].name 0 j (by omega) he;unfold findT;omega
theorem sized_any (n:Int)(w:World):Calls Tryz.prog 122 #[.int .i64 n] w fun e w'=>e=.returned (.bool (decide (1<=n/\n<=1048576)))/\w'=w:=by
  by_cases h1:1<=n
  · have d1:decide (1<=n)=true:=decide_eq_true h1;by_cases h2:n<=1048576
    · have d2:decide (n<=1048576)=true:=decide_eq_true h2;have d3:decide (1<=n/\n<=1048576)=true:=decide_eq_true ⟨h1,h2⟩;rw[d3];go_enter Tryz.func122,Tryz.ntmps122;go_wp2;go_ret;exact⟨rfl,rfl⟩
    have d2:decide (n<=1048576)=false:=decide_eq_false h2;have d3:decide (1<=n/\n<=1048576)=false:=decide_eq_false (fun h=>h2 h.2);rw[d3];go_enter Tryz.func122,Tryz.ntmps122;go_wp2;go_ret;exact⟨rfl,rfl⟩
  have d1:decide (1<=n)=false:=decide_eq_false h1;have d3:decide (1<=n/\n<=1048576)=false:=decide_eq_false (fun h=>h1 h.1);rw[d3];go_enter Tryz.func122,Tryz.ntmps122;go_wp2;go_ret;exact⟨rfl,rfl⟩
theorem node_any (g:Gr)(va:Value)(i:Nat)(w:World)(ha:GrIn w va g)(hcp:GrCp w va g)(hi:i < g.N.length)(hN:g.N.length<=1000000000)(hC:g.C.length<=1000000000)
    (hs:∀ x ∈ g.N,x.name.size<=4611686018427387904/\x.label.size<=4611686018427387904/\x.ports.length<=1000000000/\∀ q ∈ x.ports,q.1.size<=9223372036854775807) :
    Calls Tryz.prog 59 #[va,.int .i64 (i:Int)] w fun e w'=>e=.returned (.int .i64 (ndE g.C.length (g.N.take i) g.N[i]))/\Ext w w':=by
  have hfi:=fun(w5:World) (x:Ext w w5)=>find_any g va g.N[i].name w5 (ha.ext x) (by omega)
  have hfirst:=find_first hi;have hfsame:=find_same hi;have hflt:=find_lt hi;obtain⟨hs1,hs2,hs3,hs4⟩:=hs _ (List.getElem_mem hi);obtain⟨na,nac,ea,eac,ca,cac,rfl,a1,-,-⟩:=ha;obtain⟨hcn,-,-⟩:=agg_at hcp;obtain⟨nm,dir,NN,EE,CC⟩:=g;dsimp only at *;obtain⟨V,hV⟩:∃ V,V=ndE CC.length (NN.take i) NN[i]:=⟨_,rfl⟩;rw[<-hV];unfold ndE at hV;obtain⟨q,hq⟩:∃ n,n=NN.length:=⟨_,rfl⟩;obtain⟨el,hel⟩:∃ n,n=EE.length:=⟨_,rfl⟩;obtain⟨cl,hcl⟩:∃ n,n=CC.length:=⟨_,rfl⟩;rw[<-hq] at hN ⊢;rw[<-hq] at hfi;rw[<-hel] at hfi ⊢;rw[<-hcl] at hfi hC hV ⊢;have hiq:i < q:=by rw[hq];exact hi
  obtain⟨g1,o1,p1,c1,hna,x0,x1,x2,x3,x4,x5,x6⟩:=a1 i hi;obtain⟨hcp1,hcp2⟩:=hcn i hi g1 o1 _ _ _ hna x5;have hpo:=fun(w5:World) (x:Ext w w5)=>portsE_any p1 NN[i].ports c1 w5 (x6.ext x) hs3 hcp1 hcp2 hs4
  have hnmc:=isName_any NN[i].name (by omega);have hplc:=fun w5=>label_any NN[i].label hs2 w5
  obtain⟨F,hF⟩:∃ F,F=findT NN NN[i].name:=⟨_,rfl⟩;rw[<-hF] at hfi hfirst hfsame hflt;obtain⟨DA,hDA⟩:∃ b,b=(NN.take i).any fun p=>decide (p.name=NN[i].name):=⟨_,rfl⟩
  rw[<-hDA] at hfirst hfsame hV hflt;obtain⟨z,hz⟩:∃ z,z=NN[i]:=⟨_,rfl⟩;rw[<-hz] at x0 x1 x2 x3 x4 x5 hV hs1 hs2 hs3 hs4 hpo hnmc hplc hfi;obtain⟨z0,z1,z2,z3,z4,z5⟩:=z;dsimp only at *;subst hna;obtain⟨PE,hPE⟩:∃ e,e=prtE z5:=⟨_,rfl⟩;rw[<-hPE] at hpo hV;obtain⟨pl,hpl⟩:∃ n,n=z5.length:=⟨_,rfl⟩;rw[<-hpl] at x5 hpo hs3;obtain⟨nb,hnb⟩:∃ b,b=nameB z0.data.toList:=⟨_,rfl⟩;rw[<-hnb] at hnmc hV;obtain⟨LE,hLE⟩:∃ b,b=labE z1:=⟨_,rfl⟩;rw[<-hLE] at hplc hV;have hs2':=sized_any z2;have hs3':=sized_any z3;have HFI:=Lib.hid hfi;have HPO:=Lib.hid hpo;have HNM:=Lib.hid hnmc;have HLB:=Lib.hid hplc;have HV:=Lib.hid hV;have HFF:Hid ((F=(i:Int)/\DA=false)\/(DA=true/\F < (i:Int))):=Lib.hid (hfirst.elim (fun h=>.inl ⟨h,hfsame h⟩) (fun h=>.inr ⟨h.1,hflt h.1⟩))
  have b0:(0:Int)<=(i:Int):=by omega
  have b1:(i:Int) < (q:Int):=by omega
  clear hfi hpo hnmc hplc hV hfirst hfsame hflt hF hDA hz hpl hnb hPE hLE hs4 x6 hq hel hcl hi a1 hs hcn hcp hcp1 hcp2;go_enter Tryz.func59,Tryz.ntmps59;have y0:=fun ob=>((Ext.refl w).alloc ob).cell x0
  have y1:=fun ob=>((Ext.refl w).alloc ob).cell x1
  have y2:=fun ob=>((Ext.refl w).alloc ob).cell x2
  have y3:=fun ob=>((Ext.refl w).alloc ob).cell x3
  have y4:=fun ob=>((Ext.refl w).alloc ob).cell x4
  have y5:=fun ob=>((Ext.refl w).alloc ob).cell x5
  clear x0 x1 x2 x3 x4 x5;cases nb with
  | false =>
    have hr:Hid (V=5):=Lib.hid (by rw[HV.out,if_pos rfl]);clear HV
    go_wp2_with (first
      | (go_at_call 58;refine(HNM.out _).mono ?_;rintro e w2 ⟨rfl,rfl⟩)
      | (go_at_call 120;refine(HFI.out _ (((Ext.refl _).alloc _).alloc _)).mono ?_;rintro e w3 ⟨rfl,x3⟩;have bb:=boxes x3;have n1:=bb.2 1 _ rfl;clear bb)
      | (go_at_call 121;refine(HLB.out _).mono ?_;rintro e w4 ⟨rfl,x4⟩;have bb:=boxes (x3.trans x4);have n2:=bb.2 2 _ rfl;have n3:=bb.2 3 _ rfl;have n4:=bb.2 4 _ rfl;have n5:=bb.2 5 _ rfl;have n6:=bb.1 4 _ rfl;clear bb)
      | (go_at_call 122;refine(HS2.out _).mono ?_;rintro e w5 ⟨rfl,rfl⟩)
      | (go_at_call 122;refine(HS3.out _).mono ?_;rintro e w5 ⟨rfl,rfl⟩)
      | (go_at_call 123;refine(HPO.out _ ((((Ext.refl _).alloc _).alloc _).trans (x3.trans x4))).mono ?_;rintro e w5 ⟨rfl,x5'⟩))
    go_ret;exact⟨ret_i hr.out.symm,((Ext.refl _).alloc _).alloc _⟩
  | true =>
    rcases HFF.out with⟨hF,hD⟩ | ⟨hD,hF⟩
    case inr =>
      have f1:decide (F < (i:Int))=true:=decide_eq_true hF;subst hD;have hr:Hid (V=6):=Lib.hid (by rw[HV.out,if_neg (by decide),if_pos rfl]);clear HV
      go_wp2_with (first
        | (go_at_call 58;refine(HNM.out _).mono ?_;rintro e w2 ⟨rfl,rfl⟩)
        | (go_at_call 120;refine(HFI.out _ (((Ext.refl _).alloc _).alloc _)).mono ?_;rintro e w3 ⟨rfl,x3⟩;have bb:=boxes x3;have n1:=bb.2 1 _ rfl;clear bb)
        | (go_at_call 121;refine(HLB.out _).mono ?_;rintro e w4 ⟨rfl,x4⟩;have bb:=boxes (x3.trans x4);have n2:=bb.2 2 _ rfl;have n3:=bb.2 3 _ rfl;have n4:=bb.2 4 _ rfl;have n5:=bb.2 5 _ rfl;have n6:=bb.1 4 _ rfl;clear bb)
        | (go_at_call 122;refine(HS2.out _).mono ?_;rintro e w5 ⟨rfl,rfl⟩)
        | (go_at_call 122;refine(HS3.out _).mono ?_;rintro e w5 ⟨rfl,rfl⟩)
        | (go_at_call 123;refine(HPO.out _ ((((Ext.refl _).alloc _).alloc _).trans (x3.trans x4))).mono ?_;rintro e w5 ⟨rfl,x5'⟩))
      go_ret;exact⟨ret_i hr.out.symm,(((Ext.refl _).alloc _).alloc _).trans x3⟩
    case inl =>
    subst hD;subst hF;have f1:decide ((i:Int) < (i:Int))=false:=decide_eq_false (by omega);have HV1:Hid (V=if LE ≠ 0 then LE else if z2 < 1\/1048576 < z2\/z3 < 1\/1048576 < z3\/z4 < -1\/(cl:Int)<=z4 then 3 else PE):=Lib.hid (by rw[HV.out,if_neg (by decide),if_neg (by decide)]);clear HV HFF;have HV:=HV1;clear HV1;by_cases hl0:LE=0
    case neg =>
      obtain⟨f2,f3⟩:=nfacts hl0;have hr:Hid (V=LE):=Lib.hid (by rw[HV.out,if_pos hl0]);clear HV
      go_wp2_with (first
        | (go_at_call 58;refine(HNM.out _).mono ?_;rintro e w2 ⟨rfl,rfl⟩)
        | (go_at_call 120;refine(HFI.out _ (((Ext.refl _).alloc _).alloc _)).mono ?_;rintro e w3 ⟨rfl,x3⟩;have bb:=boxes x3;have n1:=bb.2 1 _ rfl;clear bb)
        | (go_at_call 121;refine(HLB.out _).mono ?_;rintro e w4 ⟨rfl,x4⟩;have bb:=boxes (x3.trans x4);have n2:=bb.2 2 _ rfl;have n3:=bb.2 3 _ rfl;have n4:=bb.2 4 _ rfl;have n5:=bb.2 5 _ rfl;have n6:=bb.1 4 _ rfl;clear bb)
        | (go_at_call 122;refine(HS2.out _).mono ?_;rintro e w5 ⟨rfl,rfl⟩)
        | (go_at_call 122;refine(HS3.out _).mono ?_;rintro e w5 ⟨rfl,rfl⟩)
        | (go_at_call 123;refine(HPO.out _ ((((Ext.refl _).alloc _).alloc _).trans (x3.trans x4))).mono ?_;rintro e w5 ⟨rfl,x5'⟩))
      go_ret;exact⟨ret_i hr.out.symm,(((Ext.refl _).alloc _).alloc _).trans (x3.trans x4)⟩
    subst hl0;obtain⟨f2,f3⟩:=efacts 0;have HV1:Hid (V=if z2 < 1\/1048576 < z2\/z3 < 1\/1048576 < z3\/z4 < -1\/(cl:Int)<=z4 then 3 else PE):=Lib.hid (by rw[HV.out,if_neg (by decide)]);clear HV;have HV:=HV1;clear HV1;by_cases r0:1<=z2/\z2<=1048576
    case neg =>
      rw[decide_eq_false r0] at hs2';have HS2:=Lib.hid hs2';clear hs2';have hr:Hid (V=3):=Lib.hid (by rw[HV.out,if_pos (by omega)]);clear HV
      go_wp2_with (first
        | (go_at_call 58;refine(HNM.out _).mono ?_;rintro e w2 ⟨rfl,rfl⟩)
        | (go_at_call 120;refine(HFI.out _ (((Ext.refl _).alloc _).alloc _)).mono ?_;rintro e w3 ⟨rfl,x3⟩;have bb:=boxes x3;have n1:=bb.2 1 _ rfl;clear bb)
        | (go_at_call 121;refine(HLB.out _).mono ?_;rintro e w4 ⟨rfl,x4⟩;have bb:=boxes (x3.trans x4);have n2:=bb.2 2 _ rfl;have n3:=bb.2 3 _ rfl;have n4:=bb.2 4 _ rfl;have n5:=bb.2 5 _ rfl;have n6:=bb.1 4 _ rfl;clear bb)
        | (go_at_call 122;refine(HS2.out _).mono ?_;rintro e w5 ⟨rfl,rfl⟩)
        | (go_at_call 122;refine(HS3.out _).mono ?_;rintro e w5 ⟨rfl,rfl⟩)
        | (go_at_call 123;refine(HPO.out _ ((((Ext.refl _).alloc _).alloc _).trans (x3.trans x4))).mono ?_;rintro e w5 ⟨rfl,x5'⟩))
      go_ret;exact⟨ret_i hr.out.symm,(((Ext.refl _).alloc _).alloc _).trans (x3.trans x4)⟩
    rw[decide_eq_true r0] at hs2';have HS2:=Lib.hid hs2';clear hs2';by_cases r1:1<=z3/\z3<=1048576
    case neg =>
      rw[decide_eq_false r1] at hs3';have HS3:=Lib.hid hs3';clear hs3';have hr:Hid (V=3):=Lib.hid (by rw[HV.out,if_pos (by omega)]);clear HV
      go_wp2_with (first
        | (go_at_call 58;refine(HNM.out _).mono ?_;rintro e w2 ⟨rfl,rfl⟩)
        | (go_at_call 120;refine(HFI.out _ (((Ext.refl _).alloc _).alloc _)).mono ?_;rintro e w3 ⟨rfl,x3⟩;have bb:=boxes x3;have n1:=bb.2 1 _ rfl;clear bb)
        | (go_at_call 121;refine(HLB.out _).mono ?_;rintro e w4 ⟨rfl,x4⟩;have bb:=boxes (x3.trans x4);have n2:=bb.2 2 _ rfl;have n3:=bb.2 3 _ rfl;have n4:=bb.2 4 _ rfl;have n5:=bb.2 5 _ rfl;have n6:=bb.1 4 _ rfl;clear bb)
        | (go_at_call 122;refine(HS2.out _).mono ?_;rintro e w5 ⟨rfl,rfl⟩)
        | (go_at_call 122;refine(HS3.out _).mono ?_;rintro e w5 ⟨rfl,rfl⟩)
        | (go_at_call 123;refine(HPO.out _ ((((Ext.refl _).alloc _).alloc _).trans (x3.trans x4))).mono ?_;rintro e w5 ⟨rfl,x5'⟩))
      go_ret;exact⟨ret_i hr.out.symm,(((Ext.refl _).alloc _).alloc _).trans (x3.trans x4)⟩
    rw[decide_eq_true r1] at hs3';have HS3:=Lib.hid hs3';clear hs3';by_cases r2:z4 < -1
    · have t2:decide (z4 < -1)=true:=decide_eq_true r2;have hr:Hid (V=3):=Lib.hid (by rw[HV.out,if_pos (by omega)]);clear HV
      go_wp2_with (first
        | (go_at_call 58;refine(HNM.out _).mono ?_;rintro e w2 ⟨rfl,rfl⟩)
        | (go_at_call 120;refine(HFI.out _ (((Ext.refl _).alloc _).alloc _)).mono ?_;rintro e w3 ⟨rfl,x3⟩;have bb:=boxes x3;have n1:=bb.2 1 _ rfl;clear bb)
        | (go_at_call 121;refine(HLB.out _).mono ?_;rintro e w4 ⟨rfl,x4⟩;have bb:=boxes (x3.trans x4);have n2:=bb.2 2 _ rfl;have n3:=bb.2 3 _ rfl;have n4:=bb.2 4 _ rfl;have n5:=bb.2 5 _ rfl;have n6:=bb.1 4 _ rfl;clear bb)
        | (go_at_call 122;refine(HS2.out _).mono ?_;rintro e w5 ⟨rfl,rfl⟩)
        | (go_at_call 122;refine(HS3.out _).mono ?_;rintro e w5 ⟨rfl,rfl⟩)
        | (go_at_call 123;refine(HPO.out _ ((((Ext.refl _).alloc _).alloc _).trans (x3.trans x4))).mono ?_;rintro e w5 ⟨rfl,x5'⟩))
      go_ret;exact⟨ret_i hr.out.symm,(((Ext.refl _).alloc _).alloc _).trans (x3.trans x4)⟩
    have t2:decide (z4 < -1)=false:=decide_eq_false r2;by_cases r3:(cl:Int)<=z4
    · have t3:decide ((cl:Int)<=z4)=true:=decide_eq_true r3;have hr:Hid (V=3):=Lib.hid (by rw[HV.out,if_pos (by omega)]);clear HV
      go_wp2_with (first
        | (go_at_call 58;refine(HNM.out _).mono ?_;rintro e w2 ⟨rfl,rfl⟩)
        | (go_at_call 120;refine(HFI.out _ (((Ext.refl _).alloc _).alloc _)).mono ?_;rintro e w3 ⟨rfl,x3⟩;have bb:=boxes x3;have n1:=bb.2 1 _ rfl;clear bb)
        | (go_at_call 121;refine(HLB.out _).mono ?_;rintro e w4 ⟨rfl,x4⟩;have bb:=boxes (x3.trans x4);have n2:=bb.2 2 _ rfl;have n3:=bb.2 3 _ rfl;have n4:=bb.2 4 _ rfl;have n5:=bb.2 5 _ rfl;have n6:=bb.1 4 _ rfl;clear bb)
        | (go_at_call 122;refine(HS2.out _).mono ?_;rintro e w5 ⟨rfl,rfl⟩)
        | (go_at_call 122;refine(HS3.out _).mono ?_;rintro e w5 ⟨rfl,rfl⟩)
        | (go_at_call 123;refine(HPO.out _ ((((Ext.refl _).alloc _).alloc _).trans (x3.trans x4))).mono ?_;rintro e w5 ⟨rfl,x5'⟩))
      go_ret;exact⟨ret_i hr.out.symm,(((Ext.refl _).alloc _).alloc _).trans (x3.trans x4)⟩
    have t3:decide ((cl:Int)<=z4)=false:=decide_eq_false r3;have hr:Hid (V=PE):=Lib.hid (by rw[HV.out,if_neg (by omega)]);clear HV
    go_wp2_with (first
      | (go_at_call 58;refine(HNM.out _).mono ?_;rintro e w2 ⟨rfl,rfl⟩)
      | (go_at_call 120;refine(HFI.out _ (((Ext.refl _).alloc _).alloc _)).mono ?_;rintro e w3 ⟨rfl,x3⟩;have bb:=boxes x3;have n1:=bb.2 1 _ rfl;clear bb)
      | (go_at_call 121;refine(HLB.out _).mono ?_;rintro e w4 ⟨rfl,x4⟩;have bb:=boxes (x3.trans x4);have n2:=bb.2 2 _ rfl;have n3:=bb.2 3 _ rfl;have n4:=bb.2 4 _ rfl;have n5:=bb.2 5 _ rfl;have n6:=bb.1 4 _ rfl;clear bb)
      | (go_at_call 122;refine(HS2.out _).mono ?_;rintro e w5 ⟨rfl,rfl⟩)
      | (go_at_call 122;refine(HS3.out _).mono ?_;rintro e w5 ⟨rfl,rfl⟩)
      | (go_at_call 123;refine(HPO.out _ ((((Ext.refl _).alloc _).alloc _).trans (x3.trans x4))).mono ?_;rintro e w5 ⟨rfl,x5'⟩))
    go_ret;exact⟨ret_i hr.out.symm,((((Ext.refl _).alloc _).alloc _).trans (x3.trans x4)).trans x5'⟩
end Go.Proofs.YtjaeedbjknejdaaGreatDoor.Nm

namespace Go.Proofs.YtjaeedbjknejdaaGreatDoor.Nm
open Go.RowKit Go.Sort Go.Lib Go.Shelf Fx Lx Tr At
theorem cl_any (g:Gr)(va:Value)(i:Nat)(w:World)(ha:GrIn w va g)(hcp:GrCp w va g)(hi:i < g.C.length)(hN:g.N.length<=1000000000)(hC:g.C.length<=1000000000)
    (hs:∀ x ∈ g.C,x.1.size<=4611686018427387904) (hp:∀ k (h:k < g.C.length),k < i->g.C[k].2 < k /\ -1<=g.C[k].2) :
    Calls Tryz.prog 60 #[va,.int .i64 (i:Int)] w fun e w'=>e=.returned (.int .i64 (clE g.N g.C i g.C[i]))/\Ext w w':=by
  have hfi:=fun(w5:World) (x:Ext w w5)=>find_any g va g.C[i].1 w5 (ha.ext x) (by omega)
  have hde:=fun(h1 : -1<=g.C[i].2/\g.C[i].2 < i) (w5:World) (x:Ext w w5)=>depth_any g va i w5 (ha.ext x) hi hC (fun k hk hki=>by
    by_cases e:k=i
    · subst e;exact⟨h1.2,h1.1⟩
    exact hp k hk (by omega))
  have hsz:=hs _ (List.getElem_mem hi);obtain⟨na,nac,ea,eac,ca,cac,rfl,-,-,a3⟩:=ha;obtain⟨-,hcc1,hcc2⟩:=agg_at hcp;obtain⟨nm,dir,NN,EE,CC⟩:=g;dsimp only at *;obtain⟨V,hV⟩:∃ V,V=clE NN CC i CC[i]:=⟨_,rfl⟩;rw[<-hV];unfold clE at hV;rw[find_ge] at hV;have hi2:i < CC.length:=hi;have HHAS:=fun(w5:World) (x:ByteArray) (c:Addr) (y:Ext w w5) (hc:w5.cell? c=some (.string x))=>hasC_any ca (CC.take i) cac x c w5 (ClIn.take (a3.ext y) i) hc (by rw[List.length_take];omega)
  have hlt':(CC.take i).length=i:=by rw[List.length_take];omega
  rw[hlt'] at HHAS;obtain⟨q,hq⟩:∃ n,n=NN.length:=⟨_,rfl⟩;obtain⟨el,hel⟩:∃ n,n=EE.length:=⟨_,rfl⟩;obtain⟨cl,hcl⟩:∃ n,n=CC.length:=⟨_,rfl⟩;rw[<-hq] at hN hfi hde ⊢;rw[<-hel] at hfi hde ⊢;rw[<-hcl] at hfi hde hC hcc1 ⊢;have hic:i < cl:=by rw[hcl];exact hi
  have hnmc:=isName_any CC[i].1 (by omega);obtain⟨F,hF⟩:∃ F,F=findT NN CC[i].1:=⟨_,rfl⟩;rw[<-hF] at hfi hV;obtain⟨DP,hDP⟩:∃ d,d=depT CC (i+1) (i:Int):=⟨_,rfl⟩;rw[<-hDP] at hde hV;have HH1:=fun w5=>HHAS w5 CC[i].1
  obtain⟨hb,hhb⟩:∃ b,b=hasC (CC.take i) CC[i].1:=⟨_,rfl⟩;rw[<-hhb] at HH1;rw[show((CC.take i).any fun p=>decide (p.1=CC[i].1))=hb from hhb.symm] at hV;obtain⟨s,hse⟩:∃ s,s=CC[i].1:=⟨_,rfl⟩;obtain⟨p,hpe⟩:∃ p,p=CC[i].2:=⟨_,rfl⟩;rw[<-hse] at hfi hsz hnmc hV HH1;rw[<-hpe] at hV hde;obtain⟨nb,hnb⟩:∃ b,b=nameB s.data.toList:=⟨_,rfl⟩;rw[<-hnb] at hnmc hV;have HV:=Lib.hid hV;have HFI:=Lib.hid hfi;have HDE:=Lib.hid hde;have HNM:=Lib.hid hnmc;have HH:=Lib.hid HH1;obtain⟨g1,o1,hca,c0,c1⟩:=a3 i hi;rw[<-hse] at c0;rw[<-hpe] at c1;subst hca;have y0:=fun ob=>((Ext.refl w).alloc ob).cell c0
  have y1:=fun ob=>((Ext.refl w).alloc ob).cell c1
  have b0:(0:Int)<=(i:Int):=by omega
  have b1:(i:Int) < (cl:Int):=by omega
  have b2:(i:Int)<=(cl:Int):=by omega
  have b3:(i:Int)<=(cac:Int):=by omega
  clear hi2 hV hfi hde hnmc hse hpe hnb hF hDP hq hel hcl a3 hs hp c0 c1 HH1 HHAS hhb hlt' hcp;go_enter Tryz.func60,Tryz.ntmps60;cases nb with
  | false =>
    have hr:Hid (V=5):=Lib.hid (by rw[HV.out,if_pos rfl]);clear HV;go_wp2_with (go_at_call 58;refine(HNM.out _).mono ?_;rintro e w2 ⟨rfl,rfl⟩);go_ret;exact⟨ret_i hr.out.symm,((Ext.refl _).alloc _).alloc _⟩
  | true =>
    have HV1:Hid (V=if decide (0<=F)=true\/hb=true then 6 else if p < -1\/(i:Int)<=p then 3 else if 6 < DP then 2 else 0):=Lib.hid (by rw[HV.out,if_neg (by decide)]);clear HV;go_wp2_with (go_at_call 58;refine(HNM.out _).mono ?_;rintro e w2 ⟨rfl,rfl⟩);by_cases hF:0<=F
    · have d4:decide (0<=F)=true:=decide_eq_true hF;have hr:Hid (V=6):=Lib.hid (by rw[HV1.out,if_pos (.inl d4)]);clear HV1 hF;go_wp2_with (go_at_call 120;refine(HFI.out _ (((Ext.refl _).alloc _).alloc _)).mono ?_;rintro e w3 ⟨rfl,x3⟩);go_ret;exact⟨ret_i hr.out.symm,(((Ext.refl _).alloc _).alloc _).trans x3⟩
    have d4:decide (0<=F)=false:=decide_eq_false hF;cases hb with
    | true =>
      have hr:Hid (V=6):=Lib.hid (by rw[HV1.out,if_pos (.inr rfl)]);clear HV1 hF
      go_wp2_with (first
        | (go_at_call 120;refine(HFI.out _ (((Ext.refl _).alloc _).alloc _)).mono ?_;rintro e w3 ⟨rfl,x3⟩;have bb:=boxes x3;have n0:=bb.2 0 _ rfl;have n6:=bb.1 4 _ rfl;clear bb)
        | (go_at_call 124;refine(HH.out _ _ ((((Ext.refl _).alloc _).alloc _).trans x3) n0).mono ?_;rintro e w4 ⟨rfl,x4⟩))
      go_ret;exact⟨ret_i hr.out.symm,((((Ext.refl _).alloc _).alloc _).trans x3).trans x4⟩
    | false =>
      have HV3:Hid (V=if p < -1\/(i:Int)<=p then 3 else if 6 < DP then 2 else 0):=Lib.hid (by rw[HV1.out,d4];simp);clear HV1 hF;by_cases hp1:p < -1
      · have d5:decide (p < -1)=true:=decide_eq_true hp1;have hr:Hid (V=3):=Lib.hid (by rw[HV3.out,if_pos (.inl hp1)]);clear HV3
        go_wp2_with (first
        | (go_at_call 120;refine(HFI.out _ (((Ext.refl _).alloc _).alloc _)).mono ?_;rintro e w3 ⟨rfl,x3⟩;have bb:=boxes x3;have n0:=bb.2 0 _ rfl;have n6:=bb.1 4 _ rfl;clear bb)
        | (go_at_call 124;refine(HH.out _ _ ((((Ext.refl _).alloc _).alloc _).trans x3) n0).mono ?_;rintro e w4 ⟨rfl,x4⟩;have bb:=boxes (x3.trans x4);have k0:=bb.1 0 _ rfl;have k1:=bb.1 1 _ rfl;have k2:=bb.1 2 _ rfl;have k3:=bb.1 3 _ rfl;have k4:=bb.1 4 _ rfl;have m1:=bb.2 1 _ rfl;clear bb)
        | (go_at_call 126;refine(HDE2.out _ ((((Ext.refl _).alloc _).alloc _).trans (x3.trans x4))).mono ?_;rintro e w5 ⟨rfl,x5⟩))
        go_ret;exact⟨ret_i hr.out.symm,((((Ext.refl _).alloc _).alloc _).trans (x3.trans x4))⟩
      have d5:decide (p < -1)=false:=decide_eq_false hp1;by_cases hp2:(i:Int)<=p
      · have d6:decide ((i:Int)<=p)=true:=decide_eq_true hp2;have hr:Hid (V=3):=Lib.hid (by rw[HV3.out,if_pos (.inr hp2)]);clear HV3
        go_wp2_with (first
        | (go_at_call 120;refine(HFI.out _ (((Ext.refl _).alloc _).alloc _)).mono ?_;rintro e w3 ⟨rfl,x3⟩;have bb:=boxes x3;have n0:=bb.2 0 _ rfl;have n6:=bb.1 4 _ rfl;clear bb)
        | (go_at_call 124;refine(HH.out _ _ ((((Ext.refl _).alloc _).alloc _).trans x3) n0).mono ?_;rintro e w4 ⟨rfl,x4⟩;have bb:=boxes (x3.trans x4);have k0:=bb.1 0 _ rfl;have k1:=bb.1 1 _ rfl;have k2:=bb.1 2 _ rfl;have k3:=bb.1 3 _ rfl;have k4:=bb.1 4 _ rfl;have m1:=bb.2 1 _ rfl;clear bb)
        | (go_at_call 126;refine(HDE2.out _ ((((Ext.refl _).alloc _).alloc _).trans (x3.trans x4))).mono ?_;rintro e w5 ⟨rfl,x5⟩))
        go_ret;exact⟨ret_i hr.out.symm,((((Ext.refl _).alloc _).alloc _).trans (x3.trans x4))⟩
      have d6:decide ((i:Int)<=p)=false:=decide_eq_false hp2;have HDE2:=Lib.hid (HDE.out ⟨by omega,by omega⟩);by_cases h6:6 < DP
      · have d7:decide ((6:Int) < (DP:Int))=true:=decide_eq_true (by omega);have hr:Hid (V=2):=Lib.hid (by rw[HV3.out,if_neg (by omega),if_pos h6]);clear HV3
        go_wp2_with (first
        | (go_at_call 120;refine(HFI.out _ (((Ext.refl _).alloc _).alloc _)).mono ?_;rintro e w3 ⟨rfl,x3⟩;have bb:=boxes x3;have n0:=bb.2 0 _ rfl;have n6:=bb.1 4 _ rfl;clear bb)
        | (go_at_call 124;refine(HH.out _ _ ((((Ext.refl _).alloc _).alloc _).trans x3) n0).mono ?_;rintro e w4 ⟨rfl,x4⟩;have bb:=boxes (x3.trans x4);have k0:=bb.1 0 _ rfl;have k1:=bb.1 1 _ rfl;have k2:=bb.1 2 _ rfl;have k3:=bb.1 3 _ rfl;have k4:=bb.1 4 _ rfl;have m1:=bb.2 1 _ rfl;clear bb)
        | (go_at_call 126;refine(HDE2.out _ ((((Ext.refl _).alloc _).alloc _).trans (x3.trans x4))).mono ?_;rintro e w5 ⟨rfl,x5⟩))
        go_ret;exact⟨ret_i hr.out.symm,((((Ext.refl _).alloc _).alloc _).trans (x3.trans x4)).trans x5⟩
      · have d7:decide ((6:Int) < (DP:Int))=false:=decide_eq_false (by omega);have hr:Hid (V=0):=Lib.hid (by rw[HV3.out,if_neg (by omega),if_neg h6]);clear HV3
        go_wp2_with (first
        | (go_at_call 120;refine(HFI.out _ (((Ext.refl _).alloc _).alloc _)).mono ?_;rintro e w3 ⟨rfl,x3⟩;have bb:=boxes x3;have n0:=bb.2 0 _ rfl;have n6:=bb.1 4 _ rfl;clear bb)
        | (go_at_call 124;refine(HH.out _ _ ((((Ext.refl _).alloc _).alloc _).trans x3) n0).mono ?_;rintro e w4 ⟨rfl,x4⟩;have bb:=boxes (x3.trans x4);have k0:=bb.1 0 _ rfl;have k1:=bb.1 1 _ rfl;have k2:=bb.1 2 _ rfl;have k3:=bb.1 3 _ rfl;have k4:=bb.1 4 _ rfl;have m1:=bb.2 1 _ rfl;clear bb)
        | (go_at_call 126;refine(HDE2.out _ ((((Ext.refl _).alloc _).alloc _).trans (x3.trans x4))).mono ?_;rintro e w5 ⟨rfl,x5⟩))
        go_ret;exact⟨ret_i hr.out.symm,((((Ext.refl _).alloc _).alloc _).trans (x3.trans x4)).trans x5⟩
end Go.Proofs.YtjaeedbjknejdaaGreatDoor.Nm
