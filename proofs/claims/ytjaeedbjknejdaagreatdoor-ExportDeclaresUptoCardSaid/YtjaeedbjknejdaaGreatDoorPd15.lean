/- Packed texts: NorLabel, NorNode, NorCl, NorEdge, NorVal -/
import Derived.Test.YtjaeedbjknejdaaGreatDoorPd14
import Derived.Laws.IdiomStrings
set_option linter.unusedVariables false
set_option linter.unusedSimpArgs false
set_option maxHeartbeats 16000000
set_option maxRecDepth 100000
namespace Go.Proofs.YtjaeedbjknejdaaGreatDoor.Nm
open Go.RowKit Go.Sort Go.Lib Go.Shelf Fx Lx Tr At
theorem bytesRow_at (s:ByteArray)(cap j:Nat)(h:j < s.size):(bytesRow s cap)[j]? = some (Value.int .u8 s[j].toNat):=by
 unfold bytesRow;have hj:j < s.data.size:=h;rw[Array.getElem?_append_left (by simpa using hj),Array.getElem?_map,Array.getElem?_eq_getElem hj]
 rfl
theorem label_any (d:ByteArray)(hd0:d.size<=4611686018427387904)(w:World):
  Calls Tryz.prog 121 #[.string d] w fun e w'=>e=.returned (.int .i64 (labE d))/\Ext w w':=by
 obtain⟨V,hV⟩:∃ V,V=labE d:=⟨_,rfl⟩;rw[<-hV];unfold labE at hV;have HV:=hid hV;clear hV;by_cases h32:32 < d.size
 ·have g1:decide ((32:Int) < d.size)=true:=decide_eq_true (by omega);have hr:Hid (V=2):=hid (by rw[HV.out,if_pos h32]);clear HV;go_enter Tryz.func121,Tryz.ntmps121;go_wp2;go_ret;exact⟨ret_i hr.out.symm,Ext.refl _⟩
 have g1:decide ((32:Int) < d.size)=false:=decide_eq_false (by omega);have HV1:Hid (V=if(d.data.toList.drop 0).all Tr.okT=false then 7 else 0):=hid (by rw[HV.out,if_neg h32,List.drop_zero]);clear HV;have hsb:=fun w s=>run_bytes_of_string (P:=Tryz.prog) w 9 148 5 s Tryz.underlying9 Tryz.underlying148 Tryz.underlying5
 go_enter Tryz.func121,Tryz.ntmps121;go_wp2_with fail;obtain⟨w1,hw1⟩:∃ w1,w1=(w.alloc (.cells (bytesRow d (grownCap w d.size 0 5)) 5 ((bytesRow d (grownCap w d.size 0 5)).size,(bytesRow d (grownCap w d.size 0 5)).size+1))).drew:=⟨_,rfl⟩
 have hcell:Hid (∀ j (h:j < d.size),w1.cell? ⟨w.heap.size,j,none⟩=some (.int .u8 d[j].toNat)):=hid (fun j h=>by
  rw[hw1];refine((Ext.refl _).drew).cell ?_
  rw[World.cell?_alloc_mark,bytesRow_at d _ j h])
 have XW:Hid (Ext w w1):=hid (by rw[hw1];exact((Ext.refl _).alloc _).drew);rw[<-hw1];clear hw1 hsb
 go_loop [11] (fun m'=>∃ m:Nat,m<=d.size/\m'=.int .i64 m/\Hid (V=if(d.data.toList.drop m).all Tr.okT=false then 7 else 0)) (fun m'=>d.size - (RowKit.intOf m').toNat)
 case atStart=>exact⟨0,by omega,rfl,HV1⟩
 obtain⟨m,hm,rfl,hb⟩:=hrel;clear HV1;by_cases hjd:m < d.size
 ·have hb':=hb.out;have c0:=hcell.out m hjd
  have hd:d.data.toList.drop m=d[m]::d.data.toList.drop (m+1):=by
   rw[List.drop_eq_getElem_cons (by rw[<-size_len];exact hjd)];rfl
  rw[hd,List.all_cons] at hb';have b0:(0:Int)<=(m:Int):=by omega
  have b1:(m:Int) < (d.size:Int):=by omega
  clear hb hd;by_cases k1:32<=d[m].toNat
  ·by_cases k2:d[m].toNat<=126
   ·have hf:Hid (V=if(d.data.toList.drop (m+1)).all Tr.okT=false then 7 else 0):=hid (by
     rw[hb'];unfold Tr.okT;rw[decide_eq_true k1,decide_eq_true k2];rfl)
    have g2:decide ((126:Int) < d[m].toNat)=false:=decide_eq_false (by omega);have g3:decide ((d[m].toNat:Int) < 32)=false:=decide_eq_false (by omega);clear hb';go_wp2
    go_round
    case rel=>exact⟨m+1,by omega,by go_num,hf⟩
    case measure=>simp[RowKit.intOf];omega
   have hf:Hid (V=7):=hid (by
    rw[hb'];unfold Tr.okT;rw[decide_eq_false k2];simp)
   have g2:decide ((126:Int) < d[m].toNat)=true:=decide_eq_true (by omega);have g3:decide ((d[m].toNat:Int) < 32)=false:=decide_eq_false (by omega);clear hb';go_wp2;go_ret;exact⟨ret_i hf.out.symm,XW.out⟩
  have hf:Hid (V=7):=hid (by
   rw[hb'];unfold Tr.okT;rw[decide_eq_false k1];simp)
  have g3:decide ((d[m].toNat:Int) < 32)=true:=decide_eq_true (by omega);clear hb';go_wp2;go_ret;exact⟨ret_i hf.out.symm,XW.out⟩
 have hr:Hid (V=0):=hid (by rw[hb.out,List.drop_eq_nil_of_le (by rw[<-size_len];omega)];rfl);clear hb;go_wp2;go_ret;exact⟨ret_i hr.out.symm,XW.out⟩
end Go.Proofs.YtjaeedbjknejdaaGreatDoor.Nm

namespace Go.Proofs.YtjaeedbjknejdaaGreatDoor.Nm
open Go.RowKit Go.Sort Go.Lib Go.Shelf Fx Lx Tr At
def NdCp (w:World)(a:Option Addr)(L:List Nd):Prop :=
 ∀ k,k < L.length->∀ g o p n c,a=some ⟨g,o,none⟩->w.cell? ⟨g,o+k * 6+5,none⟩=some (.slice p n c)->n<=c/\c<=9223372036854775807
def GrCp (w:World)(v:Value)(g:Gr):Prop :=
 ∃ n nc e ec c cc,v=.agg #[.string g.name,.bool g.dir,.slice n g.N.length nc,.slice e g.E.length ec,.slice c g.C.length cc]/\NdCp w n g.N/\g.C.length<=cc/\cc<=9223372036854775807
theorem NdCp.ext {w w':World}{a:Option Addr}{L:List Nd}(h:NdCp w a L)(hn:NdIn w a L)(x:Ext w w'):NdCp w' a L:=fun k hk g o p n c ha hc=>by
 obtain⟨g1,o1,p1,c1,ha1,-,-,-,-,-,h5,-⟩:=hn k hk;rw[ha] at ha1;cases ha1;have:=x.cell h5;rw[hc] at this;have e:=Option.some.inj this;cases e;exact h k hk g o _ _ _ ha h5
theorem agg_at {w:World}{g:Gr}{s:ByteArray}{b:Bool}{n e c:Option Addr}{l1 l2 l3 nc ec cc:Nat}(h:GrCp w (.agg #[.string s,.bool b,.slice n l1 nc,.slice e l2 ec,.slice c l3 cc]) g):
  NdCp w n g.N/\g.C.length<=cc/\cc<=9223372036854775807:=by
 obtain⟨n',nc',e',ec',c',cc',hv,h1,h2,h3⟩:=h;have e1:=congrArg (fun v=>match v with | .agg a=>a.toList | _=>[]) hv;have e2:=congrArg (fun l=>l[2]?) e1;have e3:=congrArg (fun l=>l[4]?) e1;dsimp only[List.getElem?_cons_succ,List.getElem?_cons_zero] at e2 e3;have e2:Value.slice n l1 nc=.slice n' g.N.length nc':=Option.some.inj e2;have e3:Value.slice c l3 cc=.slice c' g.C.length cc':=Option.some.inj e3;cases e2;cases e3;exact⟨h1,h2,h3⟩
theorem GrCp.ext {w w':World}{v:Value}{g:Gr}(h:GrCp w v g)(hg:GrIn w v g)(x:Ext w w'):GrCp w' v g:=by
 obtain⟨n,nc,e,ec,c,cc,rfl,a1,-,-⟩:=hg;obtain⟨h1,h2,h3⟩:=agg_at h;exact⟨n,nc,e,ec,c,cc,rfl,h1.ext a1 x,h2,h3⟩
theorem find_lt {L:List Nd}{i:Nat}(hi:i < L.length)(hb:((L.take i).any fun p=>decide (p.name=L[i].name))=true):findT L L[i].name < (i:Int):=by
 rw[List.any_eq_true] at hb;obtain⟨p,hp,he⟩:=hb;rw[List.mem_take_iff_getElem] at hp;obtain⟨j,hj,rfl⟩:=hp;have he:=of_decide_eq_true he
 have key:∀ (M:List Nd) (n:ByteArray) (b:Int) (j:Nat) (hj:j < M.length),M[j].name=n->findGo n b M<=b+j:=by
  intro M n
  induction M with
  | nil=>intro b j hj;exact absurd hj (by simp)
  | cons x M ih =>
   intro b j hj hx;unfold findGo;by_cases hx0:x.name=n
   ·rw[if_pos hx0];omega
   ·rw[if_neg hx0];cases j with
    | zero=>exact absurd hx hx0
    | succ j =>
     have:=ih (b+1) j (by simpa using hj) hx;omega
 have:=key L L[i].name 0 j (by omega) he;unfold findT;omega
theorem sized_any (n:Int)(w:World):Calls Tryz.prog 122 #[.int .i64 n] w fun e w'=>e=.returned (.bool (decide (1<=n/\n<=1048576)))/\w'=w:=by
 by_cases h1:1<=n
 ·have d1:decide (1<=n)=true:=decide_eq_true h1;by_cases h2:n<=1048576
  ·have d2:decide (n<=1048576)=true:=decide_eq_true h2;have d3:decide (1<=n/\n<=1048576)=true:=decide_eq_true ⟨h1,h2⟩;rw[d3];go_enter Tryz.func122,Tryz.ntmps122;go_wp2;go_ret;exact⟨rfl,rfl⟩
  have d2:decide (n<=1048576)=false:=decide_eq_false h2;have d3:decide (1<=n/\n<=1048576)=false:=decide_eq_false (fun h=>h2 h.2);rw[d3];go_enter Tryz.func122,Tryz.ntmps122;go_wp2;go_ret;exact⟨rfl,rfl⟩
 have d1:decide (1<=n)=false:=decide_eq_false h1;have d3:decide (1<=n/\n<=1048576)=false:=decide_eq_false (fun h=>h1 h.1);rw[d3];go_enter Tryz.func122,Tryz.ntmps122;go_wp2;go_ret;exact⟨rfl,rfl⟩
theorem node_any (g:Gr)(va:Value)(i:Nat)(w:World)(ha:GrIn w va g)(hcp:GrCp w va g)(hi:i < g.N.length)(hN:g.N.length<=1000000000)(hC:g.C.length<=1000000000)
  (hs:∀ x ∈ g.N,x.name.size<=4611686018427387904/\x.label.size<=4611686018427387904/\x.ports.length<=1000000000/\∀ q ∈ x.ports,q.1.size<=9223372036854775807) :
  Calls Tryz.prog 59 #[va,.int .i64 (i:Int)] w fun e w'=>e=.returned (.int .i64 (ndE g.C.length (g.N.take i) g.N[i]))/\Ext w w':=by
 have hfi:=fun(w5:World) (x:Ext w w5)=>find_any g va g.N[i].name w5 (ha.ext x) (by omega)
 have hfirst:=find_first hi;have hfsame:=find_same hi;have hflt:=find_lt hi;obtain⟨hs1,hs2,hs3,hs4⟩:=hs _ (List.getElem_mem hi);obtain⟨na,nac,ea,eac,ca,cac,rfl,a1,-,-⟩:=ha;obtain⟨hcn,-,-⟩:=agg_at hcp;obtain⟨nm,dir,NN,EE,CC⟩:=g;dsimp only at *;obtain⟨V,hV⟩:∃ V,V=ndE CC.length (NN.take i) NN[i]:=⟨_,rfl⟩;rw[<-hV];unfold ndE at hV;obtain⟨q,hq⟩:∃ n,n=NN.length:=⟨_,rfl⟩;obtain⟨el,hel⟩:∃ n,n=EE.length:=⟨_,rfl⟩;obtain⟨cl,hcl⟩:∃ n,n=CC.length:=⟨_,rfl⟩;rw[<-hq] at hN ⊢;rw[<-hq] at hfi;rw[<-hel] at hfi ⊢;rw[<-hcl] at hfi hC hV ⊢;have hiq:i < q:=by rw[hq];exact hi
 obtain⟨g1,o1,p1,c1,hna,x0,x1,x2,x3,x4,x5,x6⟩:=a1 i hi;obtain⟨hcp1,hcp2⟩:=hcn i hi g1 o1 _ _ _ hna x5;have hpo:=fun(w5:World) (x:Ext w w5)=>portsE_any p1 NN[i].ports c1 w5 (x6.ext x) hs3 hcp1 hcp2 hs4
 have hnmc:=isName_any NN[i].name (by omega);have hplc:=fun w5=>label_any NN[i].label hs2 w5
 obtain⟨F,hF⟩:∃ F,F=findT NN NN[i].name:=⟨_,rfl⟩;rw[<-hF] at hfi hfirst hfsame hflt;obtain⟨DA,hDA⟩:∃ b,b=(NN.take i).any fun p=>decide (p.name=NN[i].name):=⟨_,rfl⟩
 rw[<-hDA] at hfirst hfsame hV hflt;obtain⟨z,hz⟩:∃ z,z=NN[i]:=⟨_,rfl⟩;rw[<-hz] at x0 x1 x2 x3 x4 x5 hV hs1 hs2 hs3 hs4 hpo hnmc hplc hfi;obtain⟨z0,z1,z2,z3,z4,z5⟩:=z;dsimp only at *;subst hna;obtain⟨PE,hPE⟩:∃ e,e=prtE z5:=⟨_,rfl⟩;rw[<-hPE] at hpo hV;obtain⟨pl,hpl⟩:∃ n,n=z5.length:=⟨_,rfl⟩;rw[<-hpl] at x5 hpo hs3;obtain⟨nb,hnb⟩:∃ b,b=nameB z0.data.toList:=⟨_,rfl⟩;rw[<-hnb] at hnmc hV;obtain⟨LE,hLE⟩:∃ b,b=labE z1:=⟨_,rfl⟩;rw[<-hLE] at hplc hV;have hs2':=sized_any z2;have hs3':=sized_any z3;have HFI:=hid hfi;have HPO:=hid hpo;have HNM:=hid hnmc;have HLB:=hid hplc;have HV:=hid hV;have HFF:Hid ((F=(i:Int)/\DA=false)\/(DA=true/\F < (i:Int))):=hid (hfirst.elim (fun h=>.inl ⟨h,hfsame h⟩) (fun h=>.inr ⟨h.1,hflt h.1⟩));have b0:(0:Int)<=(i:Int):=by omega
 have b1:(i:Int) < (q:Int):=by omega
 clear hfi hpo hnmc hplc hV hfirst hfsame hflt hF hDA hz hpl hnb hPE hLE hs4 x6 hq hel hcl hi a1 hs hcn hcp hcp1 hcp2;go_enter Tryz.func59,Tryz.ntmps59;have y0:=fun ob=>((Ext.refl w).alloc ob).cell x0
 have y1:=fun ob=>((Ext.refl w).alloc ob).cell x1
 have y2:=fun ob=>((Ext.refl w).alloc ob).cell x2
 have y3:=fun ob=>((Ext.refl w).alloc ob).cell x3
 have y4:=fun ob=>((Ext.refl w).alloc ob).cell x4
 have y5:=fun ob=>((Ext.refl w).alloc ob).cell x5
 clear x0 x1 x2 x3 x4 x5;cases nb with
 | false =>
  have hr:Hid (V=5):=hid (by rw[HV.out,if_pos rfl]);clear HV
  go_wp2_with (first
   | (go_at_call 58;refine(HNM.out _).mono ?_;rintro e w2 ⟨rfl,rfl⟩)
   | (go_at_call 120;refine(HFI.out _ (((Ext.refl _).alloc _).alloc _)).mono ?_;rintro e w3 ⟨rfl,x3⟩;have bb:=boxes x3;have n1:=bb.2 1 _ rfl;clear bb)
   | (go_at_call 121;refine(HLB.out _).mono ?_;rintro e w4 ⟨rfl,x4⟩;have bb:=boxes (x3.trans x4);have n2:=bb.2 2 _ rfl;have n3:=bb.2 3 _ rfl;have n4:=bb.2 4 _ rfl;have n5:=bb.2 5 _ rfl;have n6:=bb.1 4 _ rfl;clear bb)
   | (go_at_call 122;refine(HS2.out _).mono ?_;rintro e w5 ⟨rfl,rfl⟩)
   | (go_at_call 122;refine(HS3.out _).mono ?_;rintro e w5 ⟨rfl,rfl⟩)
   | (go_at_call 123;refine(HPO.out _ ((((Ext.refl _).alloc _).alloc _).trans (x3.trans x4))).mono ?_;rintro e w5 ⟨rfl,x5'⟩))
  go_ret;exact⟨ret_i hr.out.symm,((Ext.refl _).alloc _).alloc _⟩
 | true =>
  rcases HFF.out with⟨hF,hD⟩ | ⟨hD,hF⟩
  case inr =>
   have f1:decide (F < (i:Int))=true:=decide_eq_true hF;subst hD;have hr:Hid (V=6):=hid (by rw[HV.out,if_neg (by decide),if_pos rfl]);clear HV
   go_wp2_with (first
    | (go_at_call 58;refine(HNM.out _).mono ?_;rintro e w2 ⟨rfl,rfl⟩)
    | (go_at_call 120;refine(HFI.out _ (((Ext.refl _).alloc _).alloc _)).mono ?_;rintro e w3 ⟨rfl,x3⟩;have bb:=boxes x3;have n1:=bb.2 1 _ rfl;clear bb)
    | (go_at_call 121;refine(HLB.out _).mono ?_;rintro e w4 ⟨rfl,x4⟩;have bb:=boxes (x3.trans x4);have n2:=bb.2 2 _ rfl;have n3:=bb.2 3 _ rfl;have n4:=bb.2 4 _ rfl;have n5:=bb.2 5 _ rfl;have n6:=bb.1 4 _ rfl;clear bb)
    | (go_at_call 122;refine(HS2.out _).mono ?_;rintro e w5 ⟨rfl,rfl⟩)
    | (go_at_call 122;refine(HS3.out _).mono ?_;rintro e w5 ⟨rfl,rfl⟩)
    | (go_at_call 123;refine(HPO.out _ ((((Ext.refl _).alloc _).alloc _).trans (x3.trans x4))).mono ?_;rintro e w5 ⟨rfl,x5'⟩))
   go_ret;exact⟨ret_i hr.out.symm,(((Ext.refl _).alloc _).alloc _).trans x3⟩
  case inl =>
  subst hD;subst hF;have f1:decide ((i:Int) < (i:Int))=false:=decide_eq_false (by omega);have HV1:Hid (V=if LE ≠ 0 then LE else if z2 < 1\/1048576 < z2\/z3 < 1\/1048576 < z3\/z4 < -1\/(cl:Int)<=z4 then 3 else PE):=hid (by rw[HV.out,if_neg (by decide),if_neg (by decide)]);clear HV HFF;have HV:=HV1;clear HV1;by_cases hl0:LE=0
  case neg =>
   obtain⟨f2,f3⟩:=nfacts hl0;have hr:Hid (V=LE):=hid (by rw[HV.out,if_pos hl0]);clear HV
   go_wp2_with (first
    | (go_at_call 58;refine(HNM.out _).mono ?_;rintro e w2 ⟨rfl,rfl⟩)
    | (go_at_call 120;refine(HFI.out _ (((Ext.refl _).alloc _).alloc _)).mono ?_;rintro e w3 ⟨rfl,x3⟩;have bb:=boxes x3;have n1:=bb.2 1 _ rfl;clear bb)
    | (go_at_call 121;refine(HLB.out _).mono ?_;rintro e w4 ⟨rfl,x4⟩;have bb:=boxes (x3.trans x4);have n2:=bb.2 2 _ rfl;have n3:=bb.2 3 _ rfl;have n4:=bb.2 4 _ rfl;have n5:=bb.2 5 _ rfl;have n6:=bb.1 4 _ rfl;clear bb)
    | (go_at_call 122;refine(HS2.out _).mono ?_;rintro e w5 ⟨rfl,rfl⟩)
    | (go_at_call 122;refine(HS3.out _).mono ?_;rintro e w5 ⟨rfl,rfl⟩)
    | (go_at_call 123;refine(HPO.out _ ((((Ext.refl _).alloc _).alloc _).trans (x3.trans x4))).mono ?_;rintro e w5 ⟨rfl,x5'⟩))
   go_ret;exact⟨ret_i hr.out.symm,(((Ext.refl _).alloc _).alloc _).trans (x3.trans x4)⟩
  subst hl0;obtain⟨f2,f3⟩:=efacts 0;have HV1:Hid (V=if z2 < 1\/1048576 < z2\/z3 < 1\/1048576 < z3\/z4 < -1\/(cl:Int)<=z4 then 3 else PE):=hid (by rw[HV.out,if_neg (by decide)]);clear HV;have HV:=HV1;clear HV1;by_cases r0:1<=z2/\z2<=1048576
  case neg =>
   rw[decide_eq_false r0] at hs2';have HS2:=hid hs2';clear hs2';have hr:Hid (V=3):=hid (by rw[HV.out,if_pos (by omega)]);clear HV
   go_wp2_with (first
    | (go_at_call 58;refine(HNM.out _).mono ?_;rintro e w2 ⟨rfl,rfl⟩)
    | (go_at_call 120;refine(HFI.out _ (((Ext.refl _).alloc _).alloc _)).mono ?_;rintro e w3 ⟨rfl,x3⟩;have bb:=boxes x3;have n1:=bb.2 1 _ rfl;clear bb)
    | (go_at_call 121;refine(HLB.out _).mono ?_;rintro e w4 ⟨rfl,x4⟩;have bb:=boxes (x3.trans x4);have n2:=bb.2 2 _ rfl;have n3:=bb.2 3 _ rfl;have n4:=bb.2 4 _ rfl;have n5:=bb.2 5 _ rfl;have n6:=bb.1 4 _ rfl;clear bb)
    | (go_at_call 122;refine(HS2.out _).mono ?_;rintro e w5 ⟨rfl,rfl⟩)
    | (go_at_call 122;refine(HS3.out _).mono ?_;rintro e w5 ⟨rfl,rfl⟩)
    | (go_at_call 123;refine(HPO.out _ ((((Ext.refl _).alloc _).alloc _).trans (x3.trans x4))).mono ?_;rintro e w5 ⟨rfl,x5'⟩))
   go_ret;exact⟨ret_i hr.out.symm,(((Ext.refl _).alloc _).alloc _).trans (x3.trans x4)⟩
  rw[decide_eq_true r0] at hs2';have HS2:=hid hs2';clear hs2';by_cases r1:1<=z3/\z3<=1048576
  case neg =>
   rw[decide_eq_false r1] at hs3';have HS3:=hid hs3';clear hs3';have hr:Hid (V=3):=hid (by rw[HV.out,if_pos (by omega)]);clear HV
   go_wp2_with (first
    | (go_at_call 58;refine(HNM.out _).mono ?_;rintro e w2 ⟨rfl,rfl⟩)
    | (go_at_call 120;refine(HFI.out _ (((Ext.refl _).alloc _).alloc _)).mono ?_;rintro e w3 ⟨rfl,x3⟩;have bb:=boxes x3;have n1:=bb.2 1 _ rfl;clear bb)
    | (go_at_call 121;refine(HLB.out _).mono ?_;rintro e w4 ⟨rfl,x4⟩;have bb:=boxes (x3.trans x4);have n2:=bb.2 2 _ rfl;have n3:=bb.2 3 _ rfl;have n4:=bb.2 4 _ rfl;have n5:=bb.2 5 _ rfl;have n6:=bb.1 4 _ rfl;clear bb)
    | (go_at_call 122;refine(HS2.out _).mono ?_;rintro e w5 ⟨rfl,rfl⟩)
    | (go_at_call 122;refine(HS3.out _).mono ?_;rintro e w5 ⟨rfl,rfl⟩)
    | (go_at_call 123;refine(HPO.out _ ((((Ext.refl _).alloc _).alloc _).trans (x3.trans x4))).mono ?_;rintro e w5 ⟨rfl,x5'⟩))
   go_ret;exact⟨ret_i hr.out.symm,(((Ext.refl _).alloc _).alloc _).trans (x3.trans x4)⟩
  rw[decide_eq_true r1] at hs3';have HS3:=hid hs3';clear hs3';by_cases r2:z4 < -1
  ·have t2:decide (z4 < -1)=true:=decide_eq_true r2;have hr:Hid (V=3):=hid (by rw[HV.out,if_pos (by omega)]);clear HV
   go_wp2_with (first
    | (go_at_call 58;refine(HNM.out _).mono ?_;rintro e w2 ⟨rfl,rfl⟩)
    | (go_at_call 120;refine(HFI.out _ (((Ext.refl _).alloc _).alloc _)).mono ?_;rintro e w3 ⟨rfl,x3⟩;have bb:=boxes x3;have n1:=bb.2 1 _ rfl;clear bb)
    | (go_at_call 121;refine(HLB.out _).mono ?_;rintro e w4 ⟨rfl,x4⟩;have bb:=boxes (x3.trans x4);have n2:=bb.2 2 _ rfl;have n3:=bb.2 3 _ rfl;have n4:=bb.2 4 _ rfl;have n5:=bb.2 5 _ rfl;have n6:=bb.1 4 _ rfl;clear bb)
    | (go_at_call 122;refine(HS2.out _).mono ?_;rintro e w5 ⟨rfl,rfl⟩)
    | (go_at_call 122;refine(HS3.out _).mono ?_;rintro e w5 ⟨rfl,rfl⟩)
    | (go_at_call 123;refine(HPO.out _ ((((Ext.refl _).alloc _).alloc _).trans (x3.trans x4))).mono ?_;rintro e w5 ⟨rfl,x5'⟩))
   go_ret;exact⟨ret_i hr.out.symm,(((Ext.refl _).alloc _).alloc _).trans (x3.trans x4)⟩
  have t2:decide (z4 < -1)=false:=decide_eq_false r2;by_cases r3:(cl:Int)<=z4
  ·have t3:decide ((cl:Int)<=z4)=true:=decide_eq_true r3;have hr:Hid (V=3):=hid (by rw[HV.out,if_pos (by omega)]);clear HV
   go_wp2_with (first
    | (go_at_call 58;refine(HNM.out _).mono ?_;rintro e w2 ⟨rfl,rfl⟩)
    | (go_at_call 120;refine(HFI.out _ (((Ext.refl _).alloc _).alloc _)).mono ?_;rintro e w3 ⟨rfl,x3⟩;have bb:=boxes x3;have n1:=bb.2 1 _ rfl;clear bb)
    | (go_at_call 121;refine(HLB.out _).mono ?_;rintro e w4 ⟨rfl,x4⟩;have bb:=boxes (x3.trans x4);have n2:=bb.2 2 _ rfl;have n3:=bb.2 3 _ rfl;have n4:=bb.2 4 _ rfl;have n5:=bb.2 5 _ rfl;have n6:=bb.1 4 _ rfl;clear bb)
    | (go_at_call 122;refine(HS2.out _).mono ?_;rintro e w5 ⟨rfl,rfl⟩)
    | (go_at_call 122;refine(HS3.out _).mono ?_;rintro e w5 ⟨rfl,rfl⟩)
    | (go_at_call 123;refine(HPO.out _ ((((Ext.refl _).alloc _).alloc _).trans (x3.trans x4))).mono ?_;rintro e w5 ⟨rfl,x5'⟩))
   go_ret;exact⟨ret_i hr.out.symm,(((Ext.refl _).alloc _).alloc _).trans (x3.trans x4)⟩
  have t3:decide ((cl:Int)<=z4)=false:=decide_eq_false r3;have hr:Hid (V=PE):=hid (by rw[HV.out,if_neg (by omega)]);clear HV
  go_wp2_with (first
   | (go_at_call 58;refine(HNM.out _).mono ?_;rintro e w2 ⟨rfl,rfl⟩)
   | (go_at_call 120;refine(HFI.out _ (((Ext.refl _).alloc _).alloc _)).mono ?_;rintro e w3 ⟨rfl,x3⟩;have bb:=boxes x3;have n1:=bb.2 1 _ rfl;clear bb)
   | (go_at_call 121;refine(HLB.out _).mono ?_;rintro e w4 ⟨rfl,x4⟩;have bb:=boxes (x3.trans x4);have n2:=bb.2 2 _ rfl;have n3:=bb.2 3 _ rfl;have n4:=bb.2 4 _ rfl;have n5:=bb.2 5 _ rfl;have n6:=bb.1 4 _ rfl;clear bb)
   | (go_at_call 122;refine(HS2.out _).mono ?_;rintro e w5 ⟨rfl,rfl⟩)
   | (go_at_call 122;refine(HS3.out _).mono ?_;rintro e w5 ⟨rfl,rfl⟩)
   | (go_at_call 123;refine(HPO.out _ ((((Ext.refl _).alloc _).alloc _).trans (x3.trans x4))).mono ?_;rintro e w5 ⟨rfl,x5'⟩))
  go_ret;exact⟨ret_i hr.out.symm,((((Ext.refl _).alloc _).alloc _).trans (x3.trans x4)).trans x5'⟩
end Go.Proofs.YtjaeedbjknejdaaGreatDoor.Nm

namespace Go.Proofs.YtjaeedbjknejdaaGreatDoor.Nm
open Go.RowKit Go.Sort Go.Lib Go.Shelf Fx Lx Tr At
theorem cl_any (g:Gr)(va:Value)(i:Nat)(w:World)(ha:GrIn w va g)(hcp:GrCp w va g)(hi:i < g.C.length)(hN:g.N.length<=1000000000)(hC:g.C.length<=1000000000)
  (hs:∀ x ∈ g.C,x.1.size<=4611686018427387904) (hp:∀ k (h:k < g.C.length),k < i->g.C[k].2 < k /\ -1<=g.C[k].2) :
  Calls Tryz.prog 60 #[va,.int .i64 (i:Int)] w fun e w'=>e=.returned (.int .i64 (clE g.N g.C i g.C[i]))/\Ext w w':=by
 have hfi:=fun(w5:World) (x:Ext w w5)=>find_any g va g.C[i].1 w5 (ha.ext x) (by omega)
 have hde:=fun(h1 : -1<=g.C[i].2/\g.C[i].2 < i) (w5:World) (x:Ext w w5)=>depth_any g va i w5 (ha.ext x) hi hC (fun k hk hki=>by
  by_cases e:k=i
  ·subst e;exact⟨h1.2,h1.1⟩
  exact hp k hk (by omega))
 have hsz:=hs _ (List.getElem_mem hi);obtain⟨na,nac,ea,eac,ca,cac,rfl,-,-,a3⟩:=ha;obtain⟨-,hcc1,hcc2⟩:=agg_at hcp;obtain⟨nm,dir,NN,EE,CC⟩:=g;dsimp only at *;obtain⟨V,hV⟩:∃ V,V=clE NN CC i CC[i]:=⟨_,rfl⟩;rw[<-hV];unfold clE at hV;rw[find_ge] at hV;have hi2:i < CC.length:=hi;have HHAS:=fun(w5:World) (x:ByteArray) (c:Addr) (y:Ext w w5) (hc:w5.cell? c=some (.string x))=>hasC_any ca (CC.take i) cac x c w5 (ClIn.take (a3.ext y) i) hc (by rw[List.length_take];omega)
 have hlt':(CC.take i).length=i:=by rw[List.length_take];omega
 rw[hlt'] at HHAS;obtain⟨q,hq⟩:∃ n,n=NN.length:=⟨_,rfl⟩;obtain⟨el,hel⟩:∃ n,n=EE.length:=⟨_,rfl⟩;obtain⟨cl,hcl⟩:∃ n,n=CC.length:=⟨_,rfl⟩;rw[<-hq] at hN hfi hde ⊢;rw[<-hel] at hfi hde ⊢;rw[<-hcl] at hfi hde hC hcc1 ⊢;have hic:i < cl:=by rw[hcl];exact hi
 have hnmc:=isName_any CC[i].1 (by omega);obtain⟨F,hF⟩:∃ F,F=findT NN CC[i].1:=⟨_,rfl⟩;rw[<-hF] at hfi hV;obtain⟨DP,hDP⟩:∃ d,d=depT CC (i+1) (i:Int):=⟨_,rfl⟩;rw[<-hDP] at hde hV;have HH1:=fun w5=>HHAS w5 CC[i].1
 obtain⟨hb,hhb⟩:∃ b,b=hasC (CC.take i) CC[i].1:=⟨_,rfl⟩;rw[<-hhb] at HH1;rw[show((CC.take i).any fun p=>decide (p.1=CC[i].1))=hb from hhb.symm] at hV;obtain⟨s,hse⟩:∃ s,s=CC[i].1:=⟨_,rfl⟩;obtain⟨p,hpe⟩:∃ p,p=CC[i].2:=⟨_,rfl⟩;rw[<-hse] at hfi hsz hnmc hV HH1;rw[<-hpe] at hV hde;obtain⟨nb,hnb⟩:∃ b,b=nameB s.data.toList:=⟨_,rfl⟩;rw[<-hnb] at hnmc hV;have HV:=hid hV;have HFI:=hid hfi;have HDE:=hid hde;have HNM:=hid hnmc;have HH:=hid HH1;obtain⟨g1,o1,hca,c0,c1⟩:=a3 i hi;rw[<-hse] at c0;rw[<-hpe] at c1;subst hca;have y0:=fun ob=>((Ext.refl w).alloc ob).cell c0
 have y1:=fun ob=>((Ext.refl w).alloc ob).cell c1
 have b0:(0:Int)<=(i:Int):=by omega
 have b1:(i:Int) < (cl:Int):=by omega
 have b2:(i:Int)<=(cl:Int):=by omega
 have b3:(i:Int)<=(cac:Int):=by omega
 clear hi2 hV hfi hde hnmc hse hpe hnb hF hDP hq hel hcl a3 hs hp c0 c1 HH1 HHAS hhb hlt' hcp;go_enter Tryz.func60,Tryz.ntmps60;cases nb with
 | false =>
  have hr:Hid (V=5):=hid (by rw[HV.out,if_pos rfl]);clear HV;go_wp2_with (go_at_call 58;refine(HNM.out _).mono ?_;rintro e w2 ⟨rfl,rfl⟩);go_ret;exact⟨ret_i hr.out.symm,((Ext.refl _).alloc _).alloc _⟩
 | true =>
  have HV1:Hid (V=if decide (0<=F)=true\/hb=true then 6 else if p < -1\/(i:Int)<=p then 3 else if 6 < DP then 2 else 0):=hid (by rw[HV.out,if_neg (by decide)]);clear HV;go_wp2_with (go_at_call 58;refine(HNM.out _).mono ?_;rintro e w2 ⟨rfl,rfl⟩);by_cases hF:0<=F
  ·have d4:decide (0<=F)=true:=decide_eq_true hF;have hr:Hid (V=6):=hid (by rw[HV1.out,if_pos (.inl d4)]);clear HV1 hF;go_wp2_with (go_at_call 120;refine(HFI.out _ (((Ext.refl _).alloc _).alloc _)).mono ?_;rintro e w3 ⟨rfl,x3⟩);go_ret;exact⟨ret_i hr.out.symm,(((Ext.refl _).alloc _).alloc _).trans x3⟩
  have d4:decide (0<=F)=false:=decide_eq_false hF;cases hb with
  | true =>
   have hr:Hid (V=6):=hid (by rw[HV1.out,if_pos (.inr rfl)]);clear HV1 hF
   go_wp2_with (first
    | (go_at_call 120;refine(HFI.out _ (((Ext.refl _).alloc _).alloc _)).mono ?_;rintro e w3 ⟨rfl,x3⟩;have bb:=boxes x3;have n0:=bb.2 0 _ rfl;have n6:=bb.1 4 _ rfl;clear bb)
    | (go_at_call 124;refine(HH.out _ _ ((((Ext.refl _).alloc _).alloc _).trans x3) n0).mono ?_;rintro e w4 ⟨rfl,x4⟩))
   go_ret;exact⟨ret_i hr.out.symm,((((Ext.refl _).alloc _).alloc _).trans x3).trans x4⟩
  | false =>
   have HV3:Hid (V=if p < -1\/(i:Int)<=p then 3 else if 6 < DP then 2 else 0):=hid (by rw[HV1.out,d4];simp);clear HV1 hF;by_cases hp1:p < -1
   ·have d5:decide (p < -1)=true:=decide_eq_true hp1;have hr:Hid (V=3):=hid (by rw[HV3.out,if_pos (.inl hp1)]);clear HV3
    go_wp2_with (first
    | (go_at_call 120;refine(HFI.out _ (((Ext.refl _).alloc _).alloc _)).mono ?_;rintro e w3 ⟨rfl,x3⟩;have bb:=boxes x3;have n0:=bb.2 0 _ rfl;have n6:=bb.1 4 _ rfl;clear bb)
    | (go_at_call 124;refine(HH.out _ _ ((((Ext.refl _).alloc _).alloc _).trans x3) n0).mono ?_;rintro e w4 ⟨rfl,x4⟩;have bb:=boxes (x3.trans x4);have k0:=bb.1 0 _ rfl;have k1:=bb.1 1 _ rfl;have k2:=bb.1 2 _ rfl;have k3:=bb.1 3 _ rfl;have k4:=bb.1 4 _ rfl;have m1:=bb.2 1 _ rfl;clear bb)
    | (go_at_call 126;refine(HDE2.out _ ((((Ext.refl _).alloc _).alloc _).trans (x3.trans x4))).mono ?_;rintro e w5 ⟨rfl,x5⟩))
    go_ret;exact⟨ret_i hr.out.symm,((((Ext.refl _).alloc _).alloc _).trans (x3.trans x4))⟩
   have d5:decide (p < -1)=false:=decide_eq_false hp1;by_cases hp2:(i:Int)<=p
   ·have d6:decide ((i:Int)<=p)=true:=decide_eq_true hp2;have hr:Hid (V=3):=hid (by rw[HV3.out,if_pos (.inr hp2)]);clear HV3
    go_wp2_with (first
    | (go_at_call 120;refine(HFI.out _ (((Ext.refl _).alloc _).alloc _)).mono ?_;rintro e w3 ⟨rfl,x3⟩;have bb:=boxes x3;have n0:=bb.2 0 _ rfl;have n6:=bb.1 4 _ rfl;clear bb)
    | (go_at_call 124;refine(HH.out _ _ ((((Ext.refl _).alloc _).alloc _).trans x3) n0).mono ?_;rintro e w4 ⟨rfl,x4⟩;have bb:=boxes (x3.trans x4);have k0:=bb.1 0 _ rfl;have k1:=bb.1 1 _ rfl;have k2:=bb.1 2 _ rfl;have k3:=bb.1 3 _ rfl;have k4:=bb.1 4 _ rfl;have m1:=bb.2 1 _ rfl;clear bb)
    | (go_at_call 126;refine(HDE2.out _ ((((Ext.refl _).alloc _).alloc _).trans (x3.trans x4))).mono ?_;rintro e w5 ⟨rfl,x5⟩))
    go_ret;exact⟨ret_i hr.out.symm,((((Ext.refl _).alloc _).alloc _).trans (x3.trans x4))⟩
   have d6:decide ((i:Int)<=p)=false:=decide_eq_false hp2;have HDE2:=hid (HDE.out ⟨by omega,by omega⟩);by_cases h6:6 < DP
   ·have d7:decide ((6:Int) < (DP:Int))=true:=decide_eq_true (by omega);have hr:Hid (V=2):=hid (by rw[HV3.out,if_neg (by omega),if_pos h6]);clear HV3
    go_wp2_with (first
    | (go_at_call 120;refine(HFI.out _ (((Ext.refl _).alloc _).alloc _)).mono ?_;rintro e w3 ⟨rfl,x3⟩;have bb:=boxes x3;have n0:=bb.2 0 _ rfl;have n6:=bb.1 4 _ rfl;clear bb)
    | (go_at_call 124;refine(HH.out _ _ ((((Ext.refl _).alloc _).alloc _).trans x3) n0).mono ?_;rintro e w4 ⟨rfl,x4⟩;have bb:=boxes (x3.trans x4);have k0:=bb.1 0 _ rfl;have k1:=bb.1 1 _ rfl;have k2:=bb.1 2 _ rfl;have k3:=bb.1 3 _ rfl;have k4:=bb.1 4 _ rfl;have m1:=bb.2 1 _ rfl;clear bb)
    | (go_at_call 126;refine(HDE2.out _ ((((Ext.refl _).alloc _).alloc _).trans (x3.trans x4))).mono ?_;rintro e w5 ⟨rfl,x5⟩))
    go_ret;exact⟨ret_i hr.out.symm,((((Ext.refl _).alloc _).alloc _).trans (x3.trans x4)).trans x5⟩
   ·have d7:decide ((6:Int) < (DP:Int))=false:=decide_eq_false (by omega);have hr:Hid (V=0):=hid (by rw[HV3.out,if_neg (by omega),if_neg h6]);clear HV3
    go_wp2_with (first
    | (go_at_call 120;refine(HFI.out _ (((Ext.refl _).alloc _).alloc _)).mono ?_;rintro e w3 ⟨rfl,x3⟩;have bb:=boxes x3;have n0:=bb.2 0 _ rfl;have n6:=bb.1 4 _ rfl;clear bb)
    | (go_at_call 124;refine(HH.out _ _ ((((Ext.refl _).alloc _).alloc _).trans x3) n0).mono ?_;rintro e w4 ⟨rfl,x4⟩;have bb:=boxes (x3.trans x4);have k0:=bb.1 0 _ rfl;have k1:=bb.1 1 _ rfl;have k2:=bb.1 2 _ rfl;have k3:=bb.1 3 _ rfl;have k4:=bb.1 4 _ rfl;have m1:=bb.2 1 _ rfl;clear bb)
    | (go_at_call 126;refine(HDE2.out _ ((((Ext.refl _).alloc _).alloc _).trans (x3.trans x4))).mono ?_;rintro e w5 ⟨rfl,x5⟩))
    go_ret;exact⟨ret_i hr.out.symm,((((Ext.refl _).alloc _).alloc _).trans (x3.trans x4)).trans x5⟩
end Go.Proofs.YtjaeedbjknejdaaGreatDoor.Nm

namespace Go.Proofs.YtjaeedbjknejdaaGreatDoor.Nm
open Go.RowKit Go.Sort Go.Lib Go.Shelf Fx Lx Tr At
theorem ed_any (g:Gr)(va:Value)(x:Ed)(w:World)(ha:GrIn w va g)(hN:g.N.length<=1000000000)(hs:x.label.size<=4611686018427387904)(hpl:∀ y ∈ g.N,y.ports.length<=1000000000):
  Calls Tryz.prog 61 #[va,.agg #[.int .i64 x.a,.int .i64 x.b,.int .i64 x.ap,.int .i64 x.bp,.string x.label,.int .i64 x.wt,.int .i64 x.len]] w fun e w'=>e=.returned (.int .i64 (edE g.N x))/\Ext w w':=by
 obtain⟨na,nac,ea,eac,ca,cac,rfl,a1,-,-⟩:=ha;obtain⟨nm,dir,NN,EE,CC⟩:=g;obtain⟨a,b,ap,bp,lb,wt,ln⟩:=x;dsimp only at *;obtain⟨V,hV⟩:∃ V,V=edE NN ⟨a,b,ap,bp,lb,wt,ln⟩:=⟨_,rfl⟩;rw[<-hV];unfold edE at hV;dsimp only at hV;have hplc:=fun w5=>label_any lb hs w5
 obtain⟨LE,hLE⟩:∃ b,b=labE lb:=⟨_,rfl⟩;rw[<-hLE] at hplc hV;obtain⟨q,hq⟩:∃ n,n=NN.length:=⟨_,rfl⟩;obtain⟨el,hel⟩:∃ n,n=EE.length:=⟨_,rfl⟩;obtain⟨cl,hcl⟩:∃ n,n=CC.length:=⟨_,rfl⟩;rw[<-hq] at hN hV ⊢;rw[<-hel,<- hcl];have HLB:=hid hplc;have HV:=hid hV;have A1:=hid a1;have HQ:=hid hq;have HPO:=hid hpl;clear hplc hV a1 hLE hq hel hcl hpl;go_enter Tryz.func61,Tryz.ntmps61;go_wp2_with fail;obtain⟨w1,hw1⟩:∃ w1,w1=(w.alloc (.cells #[.string nm,.bool dir,.slice na q nac,.slice ea el eac,.slice ca cl cac] 26)).alloc (.cells #[.int .i64 a,.int .i64 b,.int .i64 ap,.int .i64 bp,.string lb,.int .i64 wt,.int .i64 ln] 61):=⟨_,rfl⟩
 have X1:Ext ((w.alloc (.cells #[.string nm,.bool dir,.slice na q nac,.slice ea el eac,.slice ca cl cac] 26)).alloc (.cells #[.int .i64 a,.int .i64 b,.int .i64 ap,.int .i64 bp,.string lb,.int .i64 wt,.int .i64 ln] 61)) w1:=by rw[hw1];exact Ext.refl _
 have XW:Hid (Ext w w1):=hid ((((Ext.refl _).alloc _).alloc _).trans X1);rw[<-hw1];clear hw1;have bb:=boxes X1;have m2:=bb.1 2 _ rfl;have l0:=bb.2 0 _ rfl;have l1:=bb.2 1 _ rfl;have l2:=bb.2 2 _ rfl;have l3:=bb.2 3 _ rfl;have l4:=bb.2 4 _ rfl;have l5:=bb.2 5 _ rfl;have l6:=bb.2 6 _ rfl;clear bb X1;by_cases r0:min a b < 0
 ·have t0:decide (min a b < 0)=true:=decide_eq_true r0;have hr:Hid (V=3):=hid (by rw[HV.out];rw[if_pos (by omega)]);clear HV
  go_quiet (fail)
  go_wp2;go_ret;exact⟨ret_i hr.out.symm,XW.out.trans (by first | exact(Ext.refl _).drewN _ | exact(Ext.refl _).drew)⟩
 have t0:decide (min a b < 0)=false:=decide_eq_false r0;by_cases r1:(q:Int)<=max a b
 ·have t1:decide ((q:Int)<=max a b)=true:=decide_eq_true r1;have hr:Hid (V=3):=hid (by rw[HV.out];rw[if_pos (by omega)]);clear HV
  go_quiet (fail)
  go_wp2;go_ret;exact⟨ret_i hr.out.symm,XW.out.trans (by first | exact(Ext.refl _).drewN _ | exact(Ext.refl _).drew)⟩
 have t1:decide ((q:Int)<=max a b)=false:=decide_eq_false r1;by_cases r2:min ap bp < -1
 ·have t2:decide (min ap bp < -1)=true:=decide_eq_true r2;have hr:Hid (V=3):=hid (by rw[HV.out];rw[if_pos (by omega)]);clear HV
  go_quiet (fail)
  go_wp2;go_ret;exact⟨ret_i hr.out.symm,XW.out.trans (by first | exact(Ext.refl _).drewN _ | exact(Ext.refl _).drew)⟩
 have t2:decide (min ap bp < -1)=false:=decide_eq_false r2;obtain⟨ka,rfl⟩:∃ n:Nat,a=(n:Int):=⟨a.toNat,by omega⟩;obtain⟨kb,rfl⟩:∃ n:Nat,b=(n:Int):=⟨b.toNat,by omega⟩;have hka:ka < NN.length:=by rw[<-HQ.out];omega
 have hkb:kb < NN.length:=by rw[<-HQ.out];omega
 have hPA:portsOf NN (ka:Int)=NN[ka].ports.length:=by unfold portsOf;rw[Int.toNat_natCast,List.getElem?_eq_getElem hka];rfl
 have hPB:portsOf NN (kb:Int)=NN[kb].ports.length:=by unfold portsOf;rw[Int.toNat_natCast,List.getElem?_eq_getElem hkb];rfl
 have hv:=HV.out;rw[hPA,hPB] at hv;clear HV;obtain⟨g1,o1,p1,cc1,hna,-,-,-,-,-,x5,-⟩:=A1.out ka hka;obtain⟨g2,o2,p2,cc2,hnb,-,-,-,-,-,y5,-⟩:=A1.out kb hkb;subst hna;cases hnb;have hla:=HPO.out _ (List.getElem_mem hka);have hlb:=HPO.out _ (List.getElem_mem hkb);obtain⟨PA,hPAe⟩:∃ n,n=NN[ka].ports.length:=⟨_,rfl⟩;obtain⟨PB,hPBe⟩:∃ n,n=NN[kb].ports.length:=⟨_,rfl⟩;rw[<-hPAe,<- hPBe] at hv;have HV:=hid hv;clear hv;rw[<-hPAe] at x5 hla;rw[<-hPBe] at y5 hlb;have b0:(0:Int)<=(ka:Int):=by omega
 have b1:(ka:Int) < (q:Int):=by omega
 have b2:(0:Int)<=(kb:Int):=by omega
 have b3:(kb:Int) < (q:Int):=by omega
 have z5:=XW.out.cell x5;have z6:=XW.out.cell y5;clear hPA hPB hPAe hPBe hka hkb x5 y5;by_cases r3:(PA:Int)<=ap
 ·have t3:decide ((PA:Int)<=ap)=true:=decide_eq_true r3;have hr:Hid (V=3):=hid (by rw[HV.out];rw[if_pos (by omega)]);clear HV
  go_quiet (fail)
  go_wp2;go_ret;exact⟨ret_i hr.out.symm,XW.out.trans (by first | exact(Ext.refl _).drewN _ | exact(Ext.refl _).drew)⟩
 have t3:decide ((PA:Int)<=ap)=false:=decide_eq_false r3;by_cases r4:(PB:Int)<=bp
 ·have t4:decide ((PB:Int)<=bp)=true:=decide_eq_true r4;have hr:Hid (V=3):=hid (by rw[HV.out];rw[if_pos (by omega)]);clear HV
  go_quiet (fail)
  go_wp2;go_ret;exact⟨ret_i hr.out.symm,XW.out.trans (by first | exact(Ext.refl _).drewN _ | exact(Ext.refl _).drew)⟩
 have t4:decide ((PB:Int)<=bp)=false:=decide_eq_false r4;have HV1:=hid (show V=if LE ≠ 0 then LE else if wt < 1\/1000 < wt\/ln < 1\/64 < ln then 7 else 0 by rw[HV.out,if_neg (by omega)]);clear HV;have HV:=HV1;clear HV1
 go_quiet (fail)
 have x9:Ext w1 (w1.drewN nq):=(Ext.refl _).drewN _;obtain⟨w9,hw9⟩:∃ w9,w9=w1.drewN nq:=⟨_,rfl⟩;rw[<-hw9] at x9 ⊢;have n4:=x9.cell l4;have p5:=x9.cell l5;have p6:=x9.cell l6;have X9:=hid (XW.out.trans x9);clear hw9 x9 l0 l1 l2 l3 l4 l5 l6 m2 z5 z6;by_cases hl0:LE=0
 case neg =>
  obtain⟨f2,f3⟩:=nfacts hl0;have hr:Hid (V=LE):=hid (by rw[HV.out];rw[if_pos hl0]);clear HV;go_wp2_with (go_at_call 121;refine(HLB.out _).mono ?_;rintro e w4 ⟨rfl,x4⟩;have n5:=x4.cell p5;have n6:=x4.cell p6);go_ret;exact⟨ret_i hr.out.symm,X9.out.trans x4⟩
 subst hl0;obtain⟨f2,f3⟩:=efacts 0;have HV1:=hid (show V=if wt < 1\/1000 < wt\/ln < 1\/64 < ln then 7 else 0 by rw[HV.out,if_neg (by decide)]);clear HV;have HV:=HV1;clear HV1;by_cases r5:wt < 1
 ·have t5:decide (wt < 1)=true:=decide_eq_true r5;have hr:Hid (V=7):=hid (by rw[HV.out];rw[if_pos (by omega)]);clear HV;go_wp2_with (go_at_call 121;refine(HLB.out _).mono ?_;rintro e w4 ⟨rfl,x4⟩;have n5:=x4.cell p5;have n6:=x4.cell p6);go_ret;exact⟨ret_i hr.out.symm,X9.out.trans x4⟩
 have t5:decide (wt < 1)=false:=decide_eq_false r5;by_cases r6:1000 < wt
 ·have t6:decide (1000 < wt)=true:=decide_eq_true r6;have hr:Hid (V=7):=hid (by rw[HV.out];rw[if_pos (by omega)]);clear HV;go_wp2_with (go_at_call 121;refine(HLB.out _).mono ?_;rintro e w4 ⟨rfl,x4⟩;have n5:=x4.cell p5;have n6:=x4.cell p6);go_ret;exact⟨ret_i hr.out.symm,X9.out.trans x4⟩
 have t6:decide (1000 < wt)=false:=decide_eq_false r6;by_cases r7:ln < 1
 ·have t7:decide (ln < 1)=true:=decide_eq_true r7;have hr:Hid (V=7):=hid (by rw[HV.out];rw[if_pos (by omega)]);clear HV;go_wp2_with (go_at_call 121;refine(HLB.out _).mono ?_;rintro e w4 ⟨rfl,x4⟩;have n5:=x4.cell p5;have n6:=x4.cell p6);go_ret;exact⟨ret_i hr.out.symm,X9.out.trans x4⟩
 have t7:decide (ln < 1)=false:=decide_eq_false r7;by_cases r8:64 < ln
 ·have t8:decide (64 < ln)=true:=decide_eq_true r8;have hr:Hid (V=7):=hid (by rw[HV.out];rw[if_pos (by omega)]);clear HV;go_wp2_with (go_at_call 121;refine(HLB.out _).mono ?_;rintro e w4 ⟨rfl,x4⟩;have n5:=x4.cell p5;have n6:=x4.cell p6);go_ret;exact⟨ret_i hr.out.symm,X9.out.trans x4⟩
 have t8:decide (64 < ln)=false:=decide_eq_false r8;have hr:Hid (V=0):=hid (by rw[HV.out];rw[if_neg (by omega)]);clear HV;go_wp2_with (go_at_call 121;refine(HLB.out _).mono ?_;rintro e w4 ⟨rfl,x4⟩;have n5:=x4.cell p5;have n6:=x4.cell p6);go_ret;exact⟨ret_i hr.out.symm,X9.out.trans x4⟩
end Go.Proofs.YtjaeedbjknejdaaGreatDoor.Nm

namespace Go.Proofs.YtjaeedbjknejdaaGreatDoor.Nm
open Go.RowKit Go.Sort Go.Lib Go.Shelf Fx Lx Tr At
theorem validG_any (g:Gr)(va:Value)(w:World)(ha:GrIn w va g)(hcp:GrCp w va g)(hsm:GrSm g):
  Calls Tryz.prog 25 #[va] w fun e w'=>e=.returned (.int .i64 (grE g))/\Ext w w':=by
 obtain⟨h1,h2,h3,h4,h5,h6,h7⟩:=hsm;have hnd:=fun(i:Nat) (hi:i < g.N.length) (w5:World) (x:Ext w w5)=>node_any g va i w5 (ha.ext x) (hcp.ext ha x) hi h2 h4 h5
 have hcl:=fun(i:Nat) (hi:i < g.C.length) (hp:∀ k (h:k < g.C.length),k < i->g.C[k].2 < k /\ -1<=g.C[k].2) (w5:World) (x:Ext w w5)=>cl_any g va i w5 (ha.ext x) (hcp.ext ha x) hi h2 h4 h6 hp
 have hed:=fun(x:Ed) (hs:x.label.size<=4611686018427387904) (w5:World) (y:Ext w w5)=>ed_any g va x w5 (ha.ext y) h2 hs (fun z hz=>(h5 z hz).2.2.1)
 clear hcp;obtain⟨na,nac,ea,eac,ca,cac,rfl,-,a2,-⟩:=ha;obtain⟨nm,dir,NN,EE,CC⟩:=g;dsimp only at *;obtain⟨V,hV⟩:∃ V,V=grE ⟨nm,dir,NN,EE,CC⟩:=⟨_,rfl⟩;rw[<-hV];unfold grE at hV;dsimp only at hV;have hnmc:=isName_any nm (by omega);obtain⟨nb,hnb⟩:∃ b,b=nameB nm.data.toList:=⟨_,rfl⟩;rw[<-hnb] at hnmc hV;obtain⟨VN,hVN⟩:∃ v,v=ndsE CC.length NN []:=⟨_,rfl⟩;obtain⟨VC,hVC⟩:∃ v,v=clsE NN CC 0 CC:=⟨_,rfl⟩;obtain⟨VE,hVE⟩:∃ v,v=edsE NN EE:=⟨_,rfl⟩;rw[<-hVN,<- hVC,<- hVE] at hV;have H0:Hid (VN=ndsE CC.length (NN.drop 0) (NN.take 0)):=hid (by rw[List.drop_zero,List.take_zero];exact hVN);have G0:Hid (VC=clsE NN CC 0 (CC.drop 0)):=hid (by rw[List.drop_zero];exact hVC);have E0:Hid (VE=edsE NN (EE.drop 0)):=hid (by rw[List.drop_zero];exact hVE)
 obtain⟨q,hq⟩:∃ n,n=NN.length:=⟨_,rfl⟩;obtain⟨el,hel⟩:∃ n,n=EE.length:=⟨_,rfl⟩;obtain⟨cl,hcl'⟩:∃ n,n=CC.length:=⟨_,rfl⟩;rw[<-hq] at h2 hed hV ⊢;rw[<-hel] at h3 hed hV ⊢;rw[<-hcl'] at h4 hed hV H0 ⊢;have HV:=hid hV;have HND:=hid hnd;have HCL:=hid hcl;have HED:=hid hed;have HNM:=hid hnmc;have A2:=hid a2;have HQ:=hid hq;have HEL:=hid hel;have HC:=hid hcl';have H7:=hid h7;clear hV hnd hcl hed hnmc a2 hq hel hcl' h7 hVN hVC hVE hnb h5 h6;go_enter Tryz.func25,Tryz.ntmps25;by_cases r0:64 < q
 ·have t0:decide ((64:Int) < q)=true:=decide_eq_true (by omega);have hr:Hid (V=2):=hid (by rw[HV.out,if_pos (by omega)]);clear HV;go_wp2;go_ret;exact⟨ret_i hr.out.symm,(Ext.refl _).alloc _⟩
 have t0:decide ((64:Int) < q)=false:=decide_eq_false (by omega);by_cases r1:256 < el
 ·have t1:decide ((256:Int) < el)=true:=decide_eq_true (by omega);have hr:Hid (V=2):=hid (by rw[HV.out,if_pos (by omega)]);clear HV;go_wp2;go_ret;exact⟨ret_i hr.out.symm,(Ext.refl _).alloc _⟩
 have t1:decide ((256:Int) < el)=false:=decide_eq_false (by omega);by_cases r2:16 < cl
 ·have t2:decide ((16:Int) < cl)=true:=decide_eq_true (by omega);have hr:Hid (V=2):=hid (by rw[HV.out,if_pos (by omega)]);clear HV;go_wp2;go_ret;exact⟨ret_i hr.out.symm,(Ext.refl _).alloc _⟩
 have t2:decide ((16:Int) < cl)=false:=decide_eq_false (by omega);cases nb with
 | false =>
  have hr:Hid (V=5):=hid (by rw[HV.out,if_neg (by omega),if_pos rfl]);clear HV;go_wp2_with (go_at_call 58;refine(HNM.out _).mono ?_;rintro e w2 ⟨rfl,rfl⟩);go_ret;exact⟨ret_i hr.out.symm,(Ext.refl _).alloc _⟩
 | true =>
  have HV1:Hid (V=if VN ≠ 0 then VN else if VC ≠ 0 then VC else VE):=hid (by rw[HV.out,if_neg (by omega),if_neg (by decide)]);clear HV;go_wp2_with (go_at_call 58;refine(HNM.out _).mono ?_;rintro e w2 ⟨rfl,rfl⟩);obtain⟨w1,hw1⟩:∃ w1,w1=w.alloc (.cells #[.string nm,.bool dir,.slice na q nac,.slice ea el eac,.slice ca cl cac] 26):=⟨_,rfl⟩;have X1:Hid (Ext (w.alloc (.cells #[.string nm,.bool dir,.slice na q nac,.slice ea el eac,.slice ca cl cac] 26)) w1):=hid (by rw[hw1];exact Ext.refl _);have XW:Hid (Ext w w1):=hid (((Ext.refl _).alloc _).trans X1.out);rw[<-hw1];clear hw1;generalize decide ((64:Int) < (q:Int))=dk0;generalize decide ((256:Int) < (el:Int))=dk1;generalize decide ((16:Int) < (cl:Int))=dk2
  go_loopw [33] (fun i' wr=>∃ k:Nat,k<=q/\i'=.int .i64 k/\Hid (VN=ndsE cl (NN.drop k) (NN.take k))/\Ext w1 wr) (fun i' _=>q - (RowKit.intOf i').toNat)
  case atStart=>exact⟨0,Nat.zero_le _,rfl,H0,Ext.refl _⟩
  case round =>
   clear H0;obtain⟨k,hk,rfl,hvn,hx⟩:=hrel;have bb:=box1 (X1.out.trans hx);have m0:=bb 0 _ rfl;have m1:=bb 1 _ rfl;have m2:=bb 2 _ rfl;have m3:=bb 3 _ rfl;have m4:=bb 4 _ rfl;clear bb;by_cases hlt:k < q
   ·have hkN:k < NN.length:=by rw[<-HQ.out];exact hlt
    have hv1:=hvn.out;rw[List.drop_eq_getElem_cons hkN] at hv1;unfold ndsE at hv1;rw[<-List.take_succ_eq_append_getElem hkN] at hv1;have HN1:=HND.out k hkN;rw[<-HC.out] at HN1;obtain⟨e,he⟩:∃ e,e=ndE cl (NN.take k) NN[k]:=⟨_,rfl⟩;rw[<-he] at hv1 HN1;rw[<-HQ.out,<- HEL.out] at HN1;have HN1:=hid HN1;have HV2:=hid hv1;clear hv1 hvn he;by_cases h0:e=0
    ·obtain⟨f1,f2⟩:=efacts 0;subst h0;have hn:Hid (VN=ndsE cl (NN.drop (k+1)) (NN.take (k+1))):=hid (by rw[HV2.out];simp);go_wp2_with (go_at_call 59;refine(HN1.out _ (XW.out.trans hx)).mono ?_;rintro e w2 ⟨rfl,x2⟩)
     go_roundw
     case rel=>exact⟨k+1,by omega,by go_num,hn,hx.trans x2⟩
     case measure=>simp[RowKit.intOf];omega
    obtain⟨f1,f2⟩:=nfacts h0
    have hr:Hid (V=e):=hid (by
     have h1:VN=e:=by rw[HV2.out,if_pos h0]
     rw[HV1.out,h1,if_pos h0])
    clear h0;go_wp2_with (go_at_call 59;refine(HN1.out _ (XW.out.trans hx)).mono ?_;rintro e w2 ⟨rfl,x2⟩);go_ret;exact⟨ret_i hr.out.symm,(XW.out.trans hx).trans x2⟩
   have hn0:VN=0:=by rw[hvn.out,List.drop_eq_nil_of_le (by rw[<-HQ.out];omega)];rfl
   have HV2:Hid (V=if VC ≠ 0 then VC else VE):=hid (by rw[HV1.out,if_neg (by omega)]);have hxa:=hid hx;clear hvn hn0 HV1 hx;obtain⟨w5,hw5⟩:∃ w5:World,w5=wr:=⟨_,rfl⟩;subst hw5;go_wp2
   go_loopw [46] (fun i' wr=>∃ k:Nat,k<=cl/\i'=.int .i64 k/\Hid (VC=clsE NN CC k (CC.drop k))/\Hid (∀ j (h:j < CC.length),j < k->CC[j].2 < j /\ -1<=CC[j].2)/\Ext w1 wr) (fun i' _=>cl - (RowKit.intOf i').toNat)
   case atStart=>exact⟨0,Nat.zero_le _,rfl,G0,hid (fun j _ h=>absurd h (by omega)),hxa.out⟩
   clear G0 m0 m1 m2 m3 m4;obtain⟨j,hj,rfl,hvc,hpa,hx⟩:=hrel;have bb:=box1 (X1.out.trans hx);have m0:=bb 0 _ rfl;have m1:=bb 1 _ rfl;have m2:=bb 2 _ rfl;have m3:=bb 3 _ rfl;have m4:=bb 4 _ rfl;clear bb;by_cases hlj:j < cl
   ·have hjC:j < CC.length:=by rw[<-HC.out];exact hlj
    have hv1:=hvc.out;rw[List.drop_eq_getElem_cons hjC] at hv1;unfold clsE at hv1;have HC1:=HCL.out j hjC hpa.out;have hpar:=@cl_parent NN CC j CC[j];obtain⟨e,he⟩:∃ e,e=clE NN CC j CC[j]:=⟨_,rfl⟩;rw[<-he] at hv1 HC1 hpar;rw[<-HQ.out,<- HEL.out,<- HC.out] at HC1;have HC1:=hid HC1;have HV3:=hid hv1;have HPAR:=hid hpar;clear hv1 hvc he hpar;by_cases h0:e=0
    ·obtain⟨f1,f2⟩:=efacts 0;subst h0;have hn:Hid (VC=clsE NN CC (j+1) (CC.drop (j+1))):=hid (by rw[HV3.out];simp)
     have hpa2:Hid (∀ l (h:l < CC.length),l < j+1->CC[l].2 < l /\ -1<=CC[l].2):=hid (fun l hl hlj=>by
      by_cases e:l=j
      ·subst e;exact HPAR.out rfl
      exact hpa.out l hl (by omega))
     go_wp2_with (go_at_call 60;refine(HC1.out _ (XW.out.trans hx)).mono ?_;rintro e w2 ⟨rfl,x2⟩)
     go_roundw
     case rel=>exact⟨j+1,by omega,by go_num,hn,hpa2,hx.trans x2⟩
     case measure=>simp[RowKit.intOf];omega
    obtain⟨f1,f2⟩:=nfacts h0
    have hr:Hid (V=e):=hid (by
     have h1:VC=e:=by rw[HV3.out,if_pos h0]
     rw[HV2.out,h1,if_pos h0])
    clear h0;go_wp2_with (go_at_call 60;refine(HC1.out _ (XW.out.trans hx)).mono ?_;rintro e w2 ⟨rfl,x2⟩);go_ret;exact⟨ret_i hr.out.symm,(XW.out.trans hx).trans x2⟩
   have hn0:VC=0:=by rw[hvc.out,List.drop_eq_nil_of_le (by rw[<-HC.out];omega)];rfl
   have HV3:Hid (V=VE):=hid (by rw[HV2.out,if_neg (by omega)]);have hxb:=hid hx;clear hvc hn0 HV2 hx hpa;obtain⟨w6,hw6⟩:∃ w6:World,w6=wr:=⟨_,rfl⟩;subst hw6;go_wp2
   go_loopw [59] (fun i' wr=>∃ k:Nat,k<=el/\i'=.int .i64 k/\Hid (VE=edsE NN (EE.drop k))/\Ext w1 wr) (fun i' _=>el - (RowKit.intOf i').toNat)
   case atStart=>exact⟨0,Nat.zero_le _,rfl,E0,hxb.out⟩
   clear E0 m0 m1 m2 m3 m4;obtain⟨l,hl,rfl,hve,hx⟩:=hrel;have bb:=box1 (X1.out.trans hx);have m0:=bb 0 _ rfl;have m1:=bb 1 _ rfl;have m2:=bb 2 _ rfl;have m3:=bb 3 _ rfl;have m4:=bb 4 _ rfl;clear bb;by_cases hll:l < el
   ·have hlE:l < EE.length:=by rw[<-HEL.out];exact hll
    obtain⟨g1,o1,rfl,x0,x1,x2,x3,x4,x5,x6⟩:=(A2.out.ext (XW.out.trans hx)) l hlE;have hv1:=hve.out;rw[List.drop_eq_getElem_cons hlE] at hv1;unfold edsE at hv1;have hsz:=H7.out _ (List.getElem_mem hlE);have HE1:=HED.out EE[l] hsz;obtain⟨e,he⟩:∃ e,e=edE NN EE[l]:=⟨_,rfl⟩;rw[<-he] at hv1 HE1;obtain⟨z,hz⟩:∃ z,z=EE[l]:=⟨_,rfl⟩;rw[<-hz] at x0 x1 x2 x3 x4 x5 x6 HE1;obtain⟨z0,z1,z2,z3,z4,z5,z6⟩:=z;dsimp only at x0 x1 x2 x3 x4 x5 x6 HE1;have HV4:=hid hv1;have HE2:=hid HE1;have b0:(0:Int)<=(l:Int):=by omega
    have b1:(l:Int) < (el:Int):=by omega
    clear hv1 hve he hz HE1 hsz;have m0':=fun ob=>((Ext.refl wr).alloc ob).cell m0;have m1':=fun ob=>((Ext.refl wr).alloc ob).cell m1;have m2':=fun ob=>((Ext.refl wr).alloc ob).cell m2;have m3':=fun ob=>((Ext.refl wr).alloc ob).cell m3;have m4':=fun ob=>((Ext.refl wr).alloc ob).cell m4
    by_cases h0:e=0
    ·obtain⟨f1,f2⟩:=efacts 0;subst h0;have hn:Hid (VE=edsE NN (EE.drop (l+1))):=hid (by rw[HV4.out];simp);go_wp2_with (go_at_call 61;refine(HE2.out _ ((XW.out.trans hx).alloc _)).mono ?_;rintro e w7 ⟨rfl,x7⟩)
     go_roundw
     case rel=>exact⟨l+1,by omega,by go_num,hn,(hx.alloc _).trans x7⟩
     case measure=>simp[RowKit.intOf];omega
    obtain⟨f1,f2⟩:=nfacts h0;have hr:Hid (V=e):=hid (by rw[HV3.out,HV4.out,if_pos h0]);clear h0;go_wp2_with (go_at_call 61;refine(HE2.out _ ((XW.out.trans hx).alloc _)).mono ?_;rintro e w7 ⟨rfl,x7⟩);go_ret;exact⟨ret_i hr.out.symm,((XW.out.trans hx).alloc _).trans x7⟩
   have hr:Hid (V=0):=hid (by rw[HV3.out,hve.out,List.drop_eq_nil_of_le (by rw[<-HEL.out];omega)];rfl);clear hve;go_wp2;go_ret;exact⟨ret_i hr.out.symm,XW.out.trans hx⟩
end Go.Proofs.YtjaeedbjknejdaaGreatDoor.Nm
