/- Packed texts: ExpMemR, ExpCon, ExpPrtR -/
import Derived.Test.YtjaeedbjknejdaaGreatDoorPu18
set_option linter.unusedVariables false
set_option linter.unusedSimpArgs false
set_option maxHeartbeats 16000000
set_option maxRecDepth 100000
namespace Go.Proofs.YtjaeedbjknejdaaGreatDoor.Ex
open Go.RowKit Go.Sort Go.Lib Go.Shelf Fx Lx Tr At Go.Proofs.YtjaeedbjknejdaaGreatDoor.Nm
theorem contains_cons (x y:Int)(L:List Int):(x::L).contains y=(decide (x=y) || L.contains y):=by
  rw[List.contains_cons]
  congr 1
  by_cases h:y=x
  · subst h;simp
  have h':¬ x=y:=fun e=>h e.symm
  rw[decide_eq_false h'];simp[h]
theorem hasR_any (g:Gr)(va:Value)(c i:Nat)(w:World)(ha:GrIn w va g)(hi:i < g.N.length)(hN:g.N.length<=1000000000)(hC:g.C.length<=1000000000)(hc1 : -1<=g.N[i].c)(hc2:g.N[i].c < g.C.length)(hp:∀ k (h:k < g.C.length),g.C[k].2 < k /\ -1<=g.C[k].2):
    Calls Tryz.prog 44 #[va,.int .i64 (c:Int),.int .i64 (i:Int)] w fun e w'=>e=.returned (.bool (hasC g.C c g.N[i].c))/\Ext w w':=by
  obtain⟨na,nac,ea,eac,ca,cac,rfl,a1,-,a3⟩:=ha;obtain⟨g1,o1,p1,pc1,rfl,-,-,-,-,hn4,-,-⟩:=a1 i hi;obtain⟨nm,dir,NN,EE,CC⟩:=g;dsimp only at *;obtain⟨k0,hk0⟩:∃ k,k=NN[i].c:=⟨_,rfl⟩;rw[<-hk0] at hc1 hc2 hn4;rw[<-hk0];obtain⟨q,hq⟩:∃ n,n=NN.length:=⟨_,rfl⟩;obtain⟨el,hel⟩:∃ n,n=EE.length:=⟨_,rfl⟩;obtain⟨cl,hcl⟩:∃ n,n=CC.length:=⟨_,rfl⟩;obtain⟨D,hD⟩:∃ n,n=hasC CC c k0:=⟨_,rfl⟩;rw[<-hD];rw[<-hq,<- hel,<- hcl];rw[<-hcl] at hC hc2;rw[<-hq] at hi;have hD0:Hid ((chnT CC (cl+1) k0).contains (c:Int)=D):=Lib.hid (by rw[hD,hcl];rfl);have A3:=Lib.hid a3;have HCL:=Lib.hid hcl;have HP:=Lib.hid hp;have n0:=fun ob=>((Ext.refl w).alloc ob).cell hn4
  have b8:(0:Int)<=(i:Int):=by omega
  have b9:(i:Int) < (q:Int):=by omega
  have f0:((c:Int) == -1)=false:=by rw[beq_eq_false_iff_ne];omega
  clear a1 a3 hq hel hcl hp hD hn4 hi hk0;go_enter Tryz.func44,Tryz.ntmps44;go_wp2_with fail;obtain⟨w1,hw1⟩:∃ w1,w1=w.alloc (.cells #[.string nm,.bool dir,.slice (some ⟨g1,o1,none⟩) q nac,.slice ea el eac,.slice ca cl cac] 26):=⟨_,rfl⟩;have X1:Hid (Ext (w.alloc (.cells #[.string nm,.bool dir,.slice (some ⟨g1,o1,none⟩) q nac,.slice ea el eac,.slice ca cl cac] 26)) w1):=Lib.hid (by rw[hw1];exact Ext.refl _);have XW:Hid (Ext w w1):=Lib.hid (((Ext.refl _).alloc _).trans X1.out);rw[<-hw1];clear hw1 n0 b8 b9
  go_loopw [7] (fun k' wr=>∃ (k:Int) (f:Nat),k'=.int .i64 k /\ -1<=k/\k < cl/\k < f/\Hid ((chnT CC f k).contains (c:Int)=D)/\Ext w1 wr) (fun k' _=>(RowKit.intOf k'+1).toNat)
  case atStart=>exact⟨k0,cl+1,rfl,by omega,by omega,by omega,hD0,Ext.refl _⟩
  clear hD0;obtain⟨k,f,rfl,hk1,hk2,hkf,hd,hx⟩:=hrel;have e0:=box1 (X1.out.trans hx) 4 _ rfl;by_cases hlt:0<=k
  · obtain⟨k,rfl⟩:∃ j:Nat,k=(j:Int):=⟨k.toNat,by omega⟩;have hkC:k < CC.length:=by rw[<-HCL.out];omega
    obtain⟨f',rfl⟩:∃ f',f=f'+1:=⟨f - 1,by omega⟩;have hd1:=hd.out;rw[chn_step CC f' hkC,contains_cons] at hd1;obtain⟨g1,o1,rfl,x0,x1⟩:=(A3.out.ext (XW.out.trans hx)) k hkC;obtain⟨h1,h2⟩:=HP.out k hkC;obtain⟨p,hpe⟩:∃ p,p=CC[k].2:=⟨_,rfl⟩;rw[<-hpe] at x1 h1 h2 hd1;have b0:(0:Int)<=(k:Int):=by omega
    have b1:(k:Int) < (cl:Int):=by omega
    by_cases hkc:(k:Int)=c
    · have hr:Hid (D=true):=Lib.hid (by rw[<-hd1,decide_eq_true hkc];rfl);have f3:((k:Int) == (c:Int))=true:=by rw[hkc];simp
      clear hd hd1 hpe x0 hkc;go_wp2;go_ret;exact⟨ret_b hr.out.symm,XW.out.trans hx⟩
    have HD1:Hid ((chnT CC f' p).contains (c:Int)=D):=Lib.hid (by rw[<-hd1,decide_eq_false hkc];rfl);have f3:((k:Int) == (c:Int))=false:=by rw[beq_eq_false_iff_ne];exact hkc
    clear hd hd1 hpe x0 hkc;go_wp2
    go_roundw
    case rel=>exact⟨p,f',rfl,by omega,by omega,by omega,HD1,hx⟩
    case measure=>simp[RowKit.intOf];omega
  have hr:Hid (D=false):=Lib.hid (by rw[<-hd.out,chn_end CC f (by omega)];rfl);have d0:decide (0<=k)=false:=decide_eq_false hlt;clear hd;go_wp2;go_ret;exact⟨ret_b hr.out.symm,XW.out.trans hx⟩
theorem membersR_any (g:Gr)(va:Value)(k:Nat)(w:World)(ha:GrIn w va g)(hsm:GrSm g)(hg0:grE g=0)(hk:k < g.C.length):
    Calls Tryz.prog 19 #[va,.int .i64 (k:Int)] w fun e w'=>(∃ v,e=.returned v/\w'.ownsRow w.heap.size 3 1 v (memT g k).length (intsC (memI g k g.N.length)))/\Ext w w':=by
  have hok:=gr_ok hg0;have hvl:=fun(w5:World) (x:Ext w w5)=>validGR_any g va w5 (ha.ext x) hsm
  rw[hg0] at hvl;have hcl:=hok.cl;have hnl:=hok.nl;have hpar:∀ i (h:i < g.C.length),g.C[i].2 < i /\ -1<=g.C[i].2:=fun i h=>by have:=cl_ok (hok.cs i h);exact⟨this.2.2.2.2.1,this.2.2.2.1⟩
  have hch:=fun(i:Nat) (x:Nd) (hx:g.N[i]? = some x) (w5:World) (y:Ext w w5)=>show Calls Tryz.prog 44 #[va,.int .i64 (k:Int),.int .i64 (i:Int)] w5 fun e w'=>e=.returned (.bool (hasC g.C k x.c))/\Ext w5 w' by
    obtain⟨h,rfl⟩:=List.getElem?_eq_some_iff.1 hx;have:=nd_ok (hok.nd i h);exact hasR_any g va k i w5 (ha.ext y) h (by omega) (by omega) this.2.2.2.2.2.2.2.1 this.2.2.2.2.2.2.2.2.1 hpar
  obtain⟨T,hT⟩:∃ T,T=memI g k g.N.length:=⟨_,rfl⟩;have htl:(memT g k).length=T.length:=by rw[hT,memI_all,List.length_map]
  rw[<-hT,htl];obtain⟨na,nac,ea,eac,ca,cac,rfl,-,-,-⟩:=ha;have hstep:=fun i h=>memI_succ g k i h
  have hlen:=fun i=>memI_len g k i
  obtain⟨M,hM⟩:∃ M,M=memI g k:=⟨_,rfl⟩;rw[<-hM] at hT hstep hlen;have hM0:M 0=[]:=by rw[hM];rfl
  obtain⟨q,hq⟩:∃ n,n=g.N.length:=⟨_,rfl⟩;obtain⟨el,hel⟩:∃ n,n=g.E.length:=⟨_,rfl⟩;obtain⟨cl,hcle⟩:∃ n,n=g.C.length:=⟨_,rfl⟩;rw[<-hq] at hT hnl;simp only[<-hq,<- hel,<- hcle] at hvl hch;rw[<-hq,<- hel,<- hcle];rw[<-hcle] at hk hcl;have HVL:=Lib.hid hvl;have HCH:=Lib.hid hch;have HST:=Lib.hid hstep;have HLN:=Lib.hid hlen;have HT:=Lib.hid hT;have HQ:=Lib.hid hq;have HM0:=Lib.hid hM0;have f0:decide ((k:Int) < -1)=false:=decide_eq_false (by omega);have f1:decide ((cl:Int)<=(k:Int))=false:=decide_eq_false (by omega);have f1':decide (cl<=k)=false:=decide_eq_false (by omega);obtain⟨e1,e2⟩:=efacts 0;obtain⟨j0,hj0,hjz⟩:=Option.map_eq_some_iff.1 info_i;simp only[Prod.mk.injEq] at hjz;obtain⟨hjz0,hjz1,hjz2⟩:=hjz;clear hvl hch hstep hlen hT hq hel hcle hM0 hpar htl hM hok hsm
  go_enter Tryz.func19,Tryz.ntmps19;go_wp2_with (go_at_call 31;refine Calls.mono (by with_reducible exact HVL.out _ ((Ext.refl _).alloc _)) ?_;rintro e w1 ⟨rfl,x1⟩;obtain⟨b0,b1,b2,b3,b4⟩:=cells5b x1;have X1:=Lib.hid x1;have XW:=Lib.hid (((Ext.refl w).alloc (.cells #[.string g.name,.bool g.dir,.slice na q nac,.slice ea el eac,.slice ca cl cac] 26)).trans x1);clear x1);have hsz:=XW.out.size
  go_loopw [5,6] (fun o' i' wr=>∃ (i n:Nat) (ov:Value),ov=o'/\i<=q/\n<=i/\i'=.int .i64 i/\Hid (n=(M i).length)/\Hid (wr.ownsRow w1.heap.size 3 1 ov n (intsC (M i)))/\Hid (Ext w1 wr)) (fun _ i' _=>q - (RowKit.intOf i').toNat)
  case atStart=>exact⟨0,0,_,rfl,Nat.zero_le _,Nat.le_refl _,rfl,Lib.hid (by rw[HM0.out];rfl),Lib.hid (by rw[HM0.out];exact World.ownsRow_nil _ _ _ _),Lib.hid (Ext.refl _)⟩
  obtain⟨i,n,ov,rfl,hi,hni,rfl,hn,hown,hx⟩:=hrel;clear b0 b1 b2 b3 b4;obtain⟨b0,b1,b2,b3,b4⟩:=cells5b (X1.out.trans hx.out);by_cases hlt:i < q
  · have hin:i < g.N.length:=by rw[<-HQ.out];exact hlt
    have hcx:=HCH.out i g.N[i] (List.getElem?_eq_getElem hin);have hst:=HST.out i hin;obtain⟨b,hbe⟩:∃ b,b=hasC g.C k g.N[i].c:=⟨_,rfl⟩;rw[<-hbe] at hst hcx;have HCX:=Lib.hid hcx;have HS1:=Lib.hid hst;have c0:(0:Int)<=(i:Int):=by omega
    have c1:(i:Int) < (q:Int):=by omega
    have hml:=HLN.out i;clear hcx hst hbe hin;cases b with
    | true =>
      have hs2:Hid (M (i+1)=M i++[(i:Int)]):=Lib.hid (by rw[HS1.out,if_pos rfl])
      go_wp2_with (first
        | (go_at_call 44;refine Calls.mono (by with_reducible exact HCX.out _ (XW.out.trans hx.out)) ?_;rintro e w3 ⟨rfl,x3⟩;have X3:=Lib.hid x3;clear x3)
        | (at_builtin;refine wpList_append_lies _ rfl _ _ 48 rfl w1.heap.size 3 j0 _ 1 8 Tryz.underlying48 hj0 hjz0 hjz1 hjz2 rfl (by decide) _ _ _ rfl (At.own_ext hown.out (X3.out.alloc _)) ⟨w3.heap.size,0,none⟩ 1 1 [.int .i64 (i:Int)] rfl rfl ?c1 ?c2 (by decide) ?c3 ?c4 ?c5 _ rfl ?_))
      case c1=>exact news1 _ _
      case c2=>simp[Value.oneCell']
      case c3=>unfold maxLen;omega
      case c4=>omega
      case c5=>have:=hx.out.size;have:=X3.out.size;simp;omega
      intro gg cc w5 hown5 hgrow5 _ _;have X5:=Lib.hid (show Ext w1 w5 from Below.grown ((hx.out.trans X3.out).alloc _) hgrow5 (by have:=hx.out.size;have:=X3.out.size;simp;omega) (fun q hq=>by have:=(hown.out.lt q hq).1;omega));rw[<-intsC_snoc,<- hs2.out] at hown5;have HO5:=Lib.hid hown5;clear hown5 hgrow5;go_wp2
      go_roundw
      case rel=>exact⟨i+1,n+1,_,rfl,by omega,by omega,by go_num,Lib.hid (by rw[hs2.out,List.length_append,<- hn.out];rfl),HO5,X5⟩
      case measure=>simp[RowKit.intOf];omega
    | false =>
      have hs2:Hid (M (i+1)=M i):=Lib.hid (by rw[HS1.out,if_neg (by decide),List.append_nil]);go_wp2_with (go_at_call 44;refine Calls.mono (by with_reducible exact HCX.out _ (XW.out.trans hx.out)) ?_;rintro e w3 ⟨rfl,x3⟩;have X3:=Lib.hid x3;clear x3)
      go_roundw
      case rel=>exact⟨i+1,n,ov,rfl,by omega,by omega,by go_num,Lib.hid (by rw[hs2.out];exact hn.out),Lib.hid (by rw[hs2.out];exact At.own_ext hown.out X3.out),Lib.hid (hx.out.trans X3.out)⟩
      case measure=>simp[RowKit.intOf];omega
  have hiq:i=q:=by omega
  have hr:Hid (M i=T):=Lib.hid (by rw[hiq];exact HT.out.symm);have c1:¬ (i:Int) < (q:Int):=by omega
  clear hiq;go_wp2;go_ret;exact⟨⟨_,rfl,by have h:=hown.out;rw[hr.out,hn.out,hr.out] at h;exact own_base h hsz⟩,XW.out.trans hx.out⟩
end Go.Proofs.YtjaeedbjknejdaaGreatDoor.Ex

namespace Go.Proofs.YtjaeedbjknejdaaGreatDoor.Ex
open Go.RowKit Go.Sort Go.Lib Go.Shelf Fx Lx Tr At Go.Proofs.YtjaeedbjknejdaaGreatDoor.Nm
theorem contains_take (Z:List Int)(x:Int)(i:Nat)(h:i < Z.length):(Z.take (i+1)).contains x=((Z.take i).contains x || decide (Z[i]=x)):=by
  rw[List.take_succ_eq_append_getElem h,List.contains_eq_any_beq,List.any_append,<- List.contains_eq_any_beq]
  congr 1
  by_cases e:Z[i]=x
  · subst e;simp
  rw[decide_eq_false e];simp;exact fun e2=>e e2.symm
theorem contains_any (g:Gr)(na ea ca:Option Addr)(nac eac cac n k m wb:Nat)(w:World)(ha:GrIn w (.agg #[.string g.name,.bool g.dir,.slice na g.N.length nac,.slice ea g.E.length eac,.slice ca g.C.length cac]) g)(hsm:GrSm g)(hg0:grE g=0)
    (hb:w.heap[wb]? = some (.cells #[.string g.name,.bool g.dir,.slice na g.N.length nac,.slice ea g.E.length eac,.slice ca g.C.length cac,.int .i64 n,.int .i64 m] 80 (0,0))) (hkl:k < g.C.length) (hn:n<=g.N.length) :
    Calls Tryz.prog 78 #[.pointer (some ⟨wb,0,none⟩),.int .i64 (k:Int)] w fun e w'=>e=.returned (.bool ((memT g k).isEmpty || (memT g k).contains n))/\Ext w w':=by
  have hok:=gr_ok hg0;have hnl:=hok.nl;obtain⟨b0,b1,b2,b3,b4,b5,b6⟩:=cells7w hb;have hmc:=membersR_any g _ k w ha hsm hg0 hkl;have hml:(memT g k).length=(memI g k g.N.length).length:=by rw[memI_all,List.length_map]
  have hmb:=memI_len g k g.N.length;have hem:(memT g k).isEmpty=decide ((memI g k g.N.length).length=0):=by rw[<-hml];cases memT g k <;> simp
  have hhas:=memI_has g k n;obtain⟨R,hR⟩:∃ R,R=((memT g k).isEmpty || (memT g k).contains n):=⟨_,rfl⟩;rw[<-hR];rw[hem,<- hhas] at hR;rw[hml] at hmc;obtain⟨q,hq⟩:∃ n,n=g.N.length:=⟨_,rfl⟩;obtain⟨el,hel⟩:∃ n,n=g.E.length:=⟨_,rfl⟩;obtain⟨cl,hcle⟩:∃ n,n=g.C.length:=⟨_,rfl⟩;obtain⟨Z,hZ⟩:∃ Z,Z=memI g k g.N.length:=⟨_,rfl⟩;rw[<-hZ] at hR hmc hmb;simp only[<-hq,<- hel,<- hcle] at hmc b2 b3 b4;rw[<-hq] at hmb hnl;obtain⟨zl,hzl⟩:∃ z,z=Z.length:=⟨_,rfl⟩;have hzl64:zl<=64:=by omega
  rw[<-hzl] at hR;have HMC:=Lib.hid hmc;have HR:=Lib.hid hR;have HB:=Lib.hid hb;have HZL:=Lib.hid hzl;clear hem hhas hml hZ hmc hR hsm hg0 hok hb hq hel hcle hzl hmb ha;go_enter Tryz.func78,Tryz.ntmps78;go_wp2_with (go_at_call 19;refine Calls.mono (by with_reducible exact HMC.out) ?_;rintro e w3 ⟨⟨v3,rfl,hv3⟩,x3⟩;have HV3:=Lib.hid hv3;have X3:=Lib.hid x3;clear hv3 x3)
  have hvz:∃ a c,v3=.slice a zl c/\∀ i (h:i < Z.length),∃ gz,a=some ⟨gz,0,none⟩/\w3.cell? ⟨gz,0+i,none⟩=some (.int .i64 (Z.getD i 0)):=by
    rcases own_ints HV3.out with⟨hz,av,cv,hv⟩ | ⟨gv,cv,hv,hcv⟩
    · exact⟨av,cv,by rw[hv,HZL.out,hz];rfl,fun i h=>absurd h (by rw[hz];simp)⟩
    exact⟨_,cv,by rw[hv,HZL.out],fun i h=>⟨gv,rfl,hcv i h⟩⟩
  obtain⟨av,cv,rfl,hzc⟩:=hvz;have HZC:=Lib.hid hzc;clear hzc b0 b1 b2 b3 b4 b5 b6
  go_loopw [6] (fun i' wr=>∃ i:Nat,i<=zl/\i'=.int .i64 i/\Hid ((Z.take i).contains (n:Int)=false)/\Hid (Ext w3 wr)) (fun i' _=>zl - (RowKit.intOf i').toNat)
  case atStart=>exact⟨0,Nat.zero_le _,rfl,Lib.hid rfl,Lib.hid (Ext.refl _)⟩
  obtain⟨i,hi,rfl,hc,hx⟩:=hrel;obtain⟨b0,b1,b2,b3,b4,b5,b6⟩:=cells7w (At.heap_ext HB.out (X3.out.trans hx.out));clear b0 b1 b2 b3 b4 b6;by_cases hlt:i < zl
  · have hin:i < Z.length:=by rw[<-HZL.out];exact hlt
    obtain⟨gz,rfl,z0⟩:=HZC.out i hin;have z1:=hx.out.cell z0;have hct:=contains_take Z n i hin;rw[hc.out,Bool.false_or] at hct;have hzi:Z.getD i 0=Z[i]:=by rw[List.getD_eq_getElem?_getD,List.getElem?_eq_getElem hin];rfl
    rw[hzi] at z1;obtain⟨z,hz⟩:∃ z,z=Z[i]:=⟨_,rfl⟩;rw[<-hz] at z1 hct;have HCT:=Lib.hid hct;rw[Nat.zero_add] at z1;have c0:(0:Int)<=(i:Int):=by omega
    have c1:(i:Int) < (zl:Int):=by omega
    clear hct hz hzi z0 hin;by_cases hzn:z=(n:Int)
    · have hr:Hid (R=true):=Lib.hid (by
        have h1:=HCT.out;rw[decide_eq_true hzn] at h1;have h2:Z.contains (n:Int)=true:=List.contains_iff_mem.2 (List.mem_of_mem_take (List.contains_iff_mem.1 h1))
        rw[HR.out,h2,Bool.or_true])
      have f1:(z == (n:Int))=true:=by rw[hzn];simp
      clear hzn;go_wp2_with fail
      go_quiet (fail)
      go_wp2;go_ret;exact⟨by rw[hr.out];rfl,(X3.out.trans hx.out).drewN _⟩
    have hr:Hid ((Z.take (i+1)).contains (n:Int)=false):=Lib.hid (by rw[HCT.out,decide_eq_false hzn]);have f1:(z == (n:Int))=false:=by rw[beq_eq_false_iff_ne];exact hzn
    clear hzn;go_wp2_with fail
    go_quiet (fail)
    go_wp2
    go_roundw
    case rel=>exact⟨i+1,by omega,by go_num,hr,Lib.hid (hx.out.drewN _)⟩
    case measure=>simp[RowKit.intOf];omega
  have hiz:i=zl:=by omega
  have hr:Hid (R=decide (zl=0)):=Lib.hid (by
    have h1:=hc.out;rw[List.take_of_length_le (by rw[<-HZL.out];omega)] at h1
    rw[HR.out,h1,Bool.or_false])
  have c1:¬ (i:Int) < (zl:Int):=by omega
  clear hiz;by_cases hz0:zl=0
  · have f1:((zl:Int) == 0)=true:=by rw[hz0];rfl
    have hr2:Hid (R=true):=Lib.hid (by rw[hr.out];exact decide_eq_true hz0);clear hz0;go_wp2;go_ret;exact⟨by rw[hr2.out];rfl,X3.out.trans hx.out⟩
  have f1:((zl:Int) == 0)=false:=by rw[beq_eq_false_iff_ne];omega
  have hr2:Hid (R=false):=Lib.hid (by rw[hr.out];exact decide_eq_false hz0);clear hz0;go_wp2;go_ret;exact⟨by rw[hr2.out];rfl,X3.out.trans hx.out⟩
end Go.Proofs.YtjaeedbjknejdaaGreatDoor.Ex

namespace Go.Proofs.YtjaeedbjknejdaaGreatDoor.Ex
open Go.RowKit Go.Sort Go.Lib Go.Shelf Fx Lx Tr At Pa Go.Proofs.YtjaeedbjknejdaaGreatDoor.Nm
theorem sideR_any (z:Int)(h0:0<=z)(h1:z<=3)(w:World):
    Calls Tryz.prog 195 #[.int .i64 z] w fun e w'=>e=.returned (.string (sideT z))/\Ext w w':=by
  have hz:z=0\/z=1\/z=2\/z=3:=by omega
  rcases hz with rfl | rfl | rfl | rfl <;>
  (go_enter Tryz.func195, Tryz.ntmps195
   go_wp2; go_ret
   exact⟨rfl,(Ext.refl _).alloc _⟩)
theorem join_snoc (A:List (List UInt8))(x sep:List UInt8)(h:A ≠ []):Lib.join (A++[x]) sep=Lib.join A sep++sep++x:=by
  cases A with
  | nil=>exact absurd rfl h
  | cons y r =>
    rw[List.cons_append,Lib.join_cons,Lib.join_cons];unfold Lib.joinTail;simp[List.append_assoc]
def porP (L:List Prt)(i:Nat):ByteArray:=portsTx (L.take i)
theorem porP_one (L:List Prt)(h:0 < L.length):porP L 1=L[0].1++⟨#[32]⟩++sideT L[0].2:=by
  unfold porP portsTx;rw[portB,List.take_succ_eq_append_getElem h,List.take_zero,List.nil_append];show(⟨(Lib.join [portTx L[0]] _).toArray⟩:ByteArray)=_;rw[Lib.join_one]
theorem porP_succ (L:List Prt)(i:Nat)(h0:0 < i)(h:i < L.length):porP L (i+1)=porP L i++⟨#[44,32]⟩++L[i].1++⟨#[32]⟩++sideT L[i].2:=by
  unfold porP portsTx
  rw[List.take_succ_eq_append_getElem h,List.map_append,List.map_cons,List.map_nil,join_snoc _ _ _ (by
    intro e;have:=congrArg List.length e;rw[List.length_map,List.length_take] at this;simp only[List.length_nil] at this
    omega)]
  unfold portTx;apply ByteArray.ext;apply Array.ext';simp[ByteArray.data_append]
theorem porP_le (L:List Prt)(i:Nat)(hl:L.length<=8)(hs:∀ q ∈ L,q.1.size<=1000):(porP L i).size<=10000:=by
  unfold porP portsTx
  have:=join_le ((L.take i).map portTx) [44,32] 1010 (fun x hx=>by
    obtain⟨q,hq,rfl⟩:=List.mem_map.1 hx;have h1:=hs q (List.mem_of_mem_take hq);have h2:=side_le q.2;unfold portTx;rw[List.length_append,List.length_append,<- size_len,<- size_len];show _+1+_<=_
    omega)
  rw[List.length_map] at this;have h3:(L.take i).length<=8:=by rw[List.length_take];omega
  have h4:(L.take i).length * (1010+[44,32].length)<=8 * 1012:=Nat.mul_le_mul h3 (by decide);rw[size_len];show(Lib.join _ _).length<=_;omega
theorem emp_app (s:ByteArray):(⟨#[]⟩:ByteArray)++s=s:=by
  apply ByteArray.ext;simp[ByteArray.data_append]
theorem portsR_any (p:Option Addr)(L:List Prt)(pc:Nat)(w:World)(hp:PrtIn w p L)(hl:L.length<=8)(hsd:∀ q ∈ L,0<=q.2/\q.2<=3/\q.1.size<=1000):
    Calls Tryz.prog 146 #[.slice p L.length pc] w fun e w'=>e=.returned (.string (portsTx L))/\Ext w w':=by
  have hs1:=fun h=>porP_one L h
  have hss:=fun i h0 h=>porP_succ L i h0 h
  have hle:=fun i=>porP_le L i hl (fun q hq=>(hsd q hq).2.2)
  obtain⟨T,hT⟩:∃ T,T=portsTx L:=⟨_,rfl⟩;have hT2:porP L L.length=T:=by unfold porP;rw[List.take_of_length_le (Nat.le_refl _),hT]
  rw[<-hT];obtain⟨M,hM⟩:∃ M,M=porP L:=⟨_,rfl⟩;have hM0:M 0=⟨#[]⟩:=by rw[hM];rfl
  rw[<-hM] at hs1 hss hle hT2;obtain⟨PL,hPL⟩:∃ n,n=L.length:=⟨_,rfl⟩;rw[<-hPL] at hl hT2;rw[<-hPL];have HP:=Lib.hid hp;have HSZ:=Lib.hid hsd;have HS1:=Lib.hid hs1;have HSS:=Lib.hid hss;have HLE:=Lib.hid hle;have HT2:=Lib.hid hT2;have HPL:=Lib.hid hPL;have HM0:=Lib.hid hM0;clear hp hsd hs1 hss hle hT hT2 hM0 hM hPL;go_enter Tryz.func146,Tryz.ntmps146;go_wp2_with fail
  go_loopw [3,4] (fun s' i' wr=>∃ (i:Nat) (t:ByteArray),i<=PL/\s'=.string t/\i'=.int .i64 i/\Hid (t=M i)/\Hid (Ext w wr)) (fun _ i' _=>PL - (RowKit.intOf i').toNat)
  case atStart=>exact⟨0,_,Nat.zero_le _,rfl,rfl,Lib.hid HM0.out.symm,Lib.hid (Ext.refl _)⟩
  obtain⟨i,t,hi,rfl,rfl,ht,hx⟩:=hrel;by_cases hlt:i < PL
  · have hin:i < L.length:=by rw[<-HPL.out];exact hlt
    obtain⟨g1,o1,rfl,n0,n1⟩:=(HP.out.ext hx.out) i hin;obtain⟨s1,s2,s3⟩:=HSZ.out _ (List.getElem_mem hin);have hsdc:=fun(w5:World)=>sideR_any L[i].2 s1 s2 w5
    have htl:t.size<=10000:=by rw[ht.out];exact HLE.out i
    have hsl:=side_le L[i].2;have hst:(i=0->M (i+1)=L[i].1++⟨#[32]⟩++sideT L[i].2)/\(0 < i->M (i+1)=t++⟨#[44,32]⟩++L[i].1++⟨#[32]⟩++sideT L[i].2):=⟨fun e=>by subst e;exact HS1.out hin,fun e=>by rw[ht.out];exact HSS.out i e hin⟩;obtain⟨s,hse⟩:∃ s,s=L[i].1:=⟨_,rfl⟩;obtain⟨z,hze⟩:∃ z,z=L[i].2:=⟨_,rfl⟩;obtain⟨sd,hsde⟩:∃ d,d=sideT z:=⟨_,rfl⟩;rw[<-hze] at n1 hsdc hsl hst;rw[<-hse] at n0 s3 hst;rw[<-hsde] at hsdc hsl hst;have HSD:=Lib.hid hsdc;have HST:=Lib.hid hst;have b0:(0:Int)<=(i:Int):=by omega
    have b1:(i:Int) < (PL:Int):=by omega
    have w1:=wrap_sm (x:=(i:Int)+1) (by omega) (by omega);clear hsdc hst hse hze hsde s1 s2 hin;by_cases h0:i=0
    · subst h0;have HN:Hid (M (0+1)=s++⟨#[32]⟩++sd):=Lib.hid (HST.out.1 rfl);rw[Nat.zero_mul,Nat.add_zero] at n0 n1;have ht0:t=⟨#[]⟩:=by rw[ht.out];exact HM0.out
      subst ht0;have A0:∀ w,(Op.stringOp .add ⟨#[]⟩ s).run Tryz.prog w=.ok (.string (⟨#[]⟩++s)) w:=add_run _ s (by show 0+_<=_;omega);have A1:∀ w,(Op.stringOp .add (⟨#[]⟩++s) ⟨#[32]⟩).run Tryz.prog w=.ok (.string (⟨#[]⟩++s++⟨#[32]⟩)) w:=add_run _ _ (by rw[ByteArray.size_append];show 0+_+1<=_;omega);have A2:∀ w,(Op.stringOp .add (⟨#[]⟩++s++⟨#[32]⟩) sd).run Tryz.prog w=.ok (.string (⟨#[]⟩++s++⟨#[32]⟩++sd)) w:=add_run _ _ (by rw[ByteArray.size_append,ByteArray.size_append];show 0+_+1+_<=_;omega);go_wp2_with fail;refine wp_region_K (S:=fun w'=>w'.cell? ⟨g1,o1,none⟩=some (.string s)/\w'.cell? ⟨g1,o1+1,none⟩=some (.int .i64 z)) (n:=15) (by kernel_rfl) (by exact⟨Ext.cell ((Ext.refl wr).drew) n0,Ext.cell ((Ext.refl wr).drew) n1⟩) (fun hHeld=>?_)
      refine kT 15 0 ?_ rfl (by kernel_rfl) (fun _ _ _ h=>h) (Or.inl ⟨by rfl,?_⟩) hHeld ?_;rotate_left
      · (intro w' hSw;(try dsimp only at hSw);go_simp <;> with_reducible rfl)
      (try simp only[Act.put,q1,q2,q3])
      refine kT 15 1 ?_ rfl (by kernel_rfl) (fun _ _ _ h=>h) (Or.inl ⟨by rfl,?_⟩) hHeld ?_;rotate_left
      · (intro w' hSw;(try dsimp only at hSw);go_simp <;> with_reducible rfl)
      (try simp only[Act.put,q1,q2,q3])
      refine kT 15 2 ?_ rfl (by kernel_rfl) (fun _ _ _ h=>h) (Or.inl ⟨by rfl,?_⟩) hHeld ?_;rotate_left
      · (intro w' hSw;(try dsimp only at hSw);go_simp <;> with_reducible rfl)
      (try simp only[Act.put,q1,q2,q3])
      refine kT 15 3 ?_ rfl (by kernel_rfl) (fun _ _ _ h=>h) (Or.inl ⟨by rfl,?_⟩) hHeld ?_;rotate_left
      · (intro w' hSw;(try dsimp only at hSw);go_simp <;> with_reducible rfl)
      (try simp only[Act.put,q1,q2,q3])
      refine kT 15 4 ?_ rfl (by kernel_rfl) (fun _ _ _ h=>h) (Or.inl ⟨by rfl,?_⟩) hHeld ?_;rotate_left
      · (intro w' hSw;(try dsimp only at hSw);go_simp <;> with_reducible rfl)
      (try simp only[Act.put,q1,q2,q3])
      refine kT 15 5 ?_ rfl (by kernel_rfl) (fun _ _ _ h=>h) (Or.inl ⟨by rfl,?_⟩) hHeld ?_;rotate_left
      · (intro w' hSw;(try dsimp only at hSw);go_simp <;> with_reducible rfl)
      (try simp only[Act.put,q1,q2,q3])
      refine kT 15 6 ?_ rfl (by kernel_rfl) (fun _ _ _ h=>h) (Or.inl ⟨by rfl,?_⟩) hHeld ?_;rotate_left
      · (intro w' hSw;(try dsimp only at hSw);go_simp <;> with_reducible rfl)
      (try simp only[Act.put,q1,q2,q3])
      refine kT 15 7 ?_ rfl (by kernel_rfl) (fun _ _ _ h=>h) (Or.inl ⟨by rfl,?_⟩) hHeld ?_;rotate_left
      · (intro w' hSw;(try dsimp only at hSw);go_simp <;> with_reducible rfl)
      (try simp only[Act.put,q1,q2,q3])
      refine kT 15 8 ?_ rfl (by kernel_rfl) (fun _ _ _ h=>h) (Or.inl ⟨by rfl,?_⟩) hHeld ?_;rotate_left
      · (intro w' hSw;(try dsimp only at hSw);go_simp <;> with_reducible rfl)
      (try simp only[Act.put,q1,q2,q3])
      refine kT 15 9 ?_ rfl (by kernel_rfl) (fun _ _ _ h=>h) (Or.inl ⟨by rfl,?_⟩) hHeld ?_;rotate_left
      · (intro w' hSw;(try dsimp only at hSw);go_simp <;> with_reducible rfl)
      (try simp only[Act.put,q1,q2,q3])
      refine kT 15 10 ?_ rfl (by kernel_rfl) (fun _ _ _ h=>h) (Or.inl ⟨by rfl,?_⟩) hHeld ?_;rotate_left
      · (intro w' hSw;(try dsimp only at hSw);go_simp <;> with_reducible rfl)
      (try simp only[Act.put,q1,q2,q3])
      refine kT 15 11 ?_ rfl (by kernel_rfl) (fun _ _ _ h=>h) (Or.inl ⟨by rfl,?_⟩) hHeld ?_;rotate_left
      · (intro w' hSw;(try dsimp only at hSw);go_simp <;> with_reducible rfl)
      (try simp only[Act.put,q1,q2,q3])
      refine kT 15 12 ?_ rfl (by kernel_rfl) (fun _ _ _ h=>h) (Or.inl ⟨by rfl,?_⟩) hHeld ?_;rotate_left
      · (intro w' hSw;(try dsimp only at hSw);go_simp <;> with_reducible rfl)
      (try simp only[Act.put,q1,q2,q3])
      refine wpAnyK_step (o:=_) (i:=13) rfl (by kernel_rfl) (fun KK hKK=>?_);go_simp
      (go_at_call 195;refine Calls.mono (by with_reducible exact HSD.out _) ?_;rintro e w3 ⟨rfl,x3⟩;have X3:=Lib.hid (show Ext wr w3 from(Ext.refl wr).drew.trans x3);clear x3)
      refine hKK.out _ _ (fun _=>?_) (fun hH=>?_)
      · (exact⟨Ext.cell (X3.out) n0,Ext.cell (X3.out) n1⟩)
      have hHeld2:=hH;clear hKK KK hHeld hH;have hHeld:=hHeld2 (by decide);clear hHeld2
      (try dsimp only at hHeld)
      (try simp only[Act.put,q1,q2,q3])
      refine kT 15 14 ?_ rfl (by kernel_rfl) (fun _ _ _ h=>h) (Or.inl ⟨by rfl,?_⟩) hHeld ?_;rotate_left
      · (intro w' hSw;(try dsimp only at hSw);go_simp <;> with_reducible rfl)
      (try simp only[Act.put,q1,q2,q3])
      refine wpAnyK_step (o:=_) (i:=15) rfl (by kernel_rfl) (fun KK hKK=>?_);go_simp;refine hKK.out _ _ (fun h=>absurd rfl h) (fun _=>?_);clear hKK KK
      (try simp only[Act.put,q1,q2,q3])
      refine wpAnyK_done (by kernel_rfl) ?_ _;go_wp2
      go_roundw
      case rel=>exact⟨1,_,by omega,rfl,by go_num,Lib.hid (by rw[HN.out,emp_app]),Lib.hid (hx.out.trans X3.out)⟩
      case measure=>simp[RowKit.intOf];omega
    have HN:Hid (M (i+1)=t++⟨#[44,32]⟩++s++⟨#[32]⟩++sd):=Lib.hid (HST.out.2 (by omega));have c0:0 < i:=by omega
    have c1:decide (0 < i)=true:=decide_eq_true c0;have c2:decide ((0:Int) < (i:Int))=true:=decide_eq_true (by omega);obtain⟨t2,ht2⟩:∃ u,u=t++⟨#[44,32]⟩:=⟨_,rfl⟩;have h2s:t2.size<=20000:=by rw[ht2,ByteArray.size_append];show _+2<=_;omega
    have A00:∀ w,(Op.stringOp .add t ⟨#[44,32]⟩).run Tryz.prog w=.ok (.string t2) w:=by rw[ht2];exact add_run _ _ (by show _+2<=_;omega)
    have A0:∀ w,(Op.stringOp .add t2 s).run Tryz.prog w=.ok (.string (t2++s)) w:=add_run _ s (by omega);have A1:∀ w,(Op.stringOp .add (t2++s) ⟨#[32]⟩).run Tryz.prog w=.ok (.string (t2++s++⟨#[32]⟩)) w:=add_run _ _ (by rw[ByteArray.size_append];show _+1<=_;omega);have A2:∀ w,(Op.stringOp .add (t2++s++⟨#[32]⟩) sd).run Tryz.prog w=.ok (.string (t2++s++⟨#[32]⟩++sd)) w:=add_run _ _ (by rw[ByteArray.size_append,ByteArray.size_append];show _+1+_<=_;omega);have HT:=Lib.hid ht2;clear ht2 h0;go_wp2_with fail;refine wp_region_K (S:=fun w'=>w'.cell? ⟨g1,o1+i * 2,none⟩=some (.string s)/\w'.cell? ⟨g1,o1+i * 2+1,none⟩=some (.int .i64 z)) (n:=15) (by kernel_rfl) (by exact⟨Ext.cell ((Ext.refl wr).drew) n0,Ext.cell ((Ext.refl wr).drew) n1⟩) (fun hHeld=>?_)
    refine kT 15 0 ?_ rfl (by kernel_rfl) (fun _ _ _ h=>h) (Or.inl ⟨by rfl,?_⟩) hHeld ?_;rotate_left
    · (intro w' hSw;(try dsimp only at hSw);go_simp <;> with_reducible rfl)
    (try simp only[Act.put,q1,q2,q3])
    refine kT 15 1 ?_ rfl (by kernel_rfl) (fun _ _ _ h=>h) (Or.inl ⟨by rfl,?_⟩) hHeld ?_;rotate_left
    · (intro w' hSw;(try dsimp only at hSw);go_simp <;> with_reducible rfl)
    (try simp only[Act.put,q1,q2,q3])
    refine kT 15 2 ?_ rfl (by kernel_rfl) (fun _ _ _ h=>h) (Or.inl ⟨by rfl,?_⟩) hHeld ?_;rotate_left
    · (intro w' hSw;(try dsimp only at hSw);go_simp <;> with_reducible rfl)
    (try simp only[Act.put,q1,q2,q3])
    refine kT 15 3 ?_ rfl (by kernel_rfl) (fun _ _ _ h=>h) (Or.inl ⟨by rfl,?_⟩) hHeld ?_;rotate_left
    · (intro w' hSw;(try dsimp only at hSw);go_simp <;> with_reducible rfl)
    (try simp only[Act.put,q1,q2,q3])
    refine kT 15 4 ?_ rfl (by kernel_rfl) (fun _ _ _ h=>h) (Or.inl ⟨by rfl,?_⟩) hHeld ?_;rotate_left
    · (intro w' hSw;(try dsimp only at hSw);go_simp <;> with_reducible rfl)
    (try simp only[Act.put,q1,q2,q3])
    refine kT 15 5 ?_ rfl (by kernel_rfl) (fun _ _ _ h=>h) (Or.inl ⟨by rfl,?_⟩) hHeld ?_;rotate_left
    · (intro w' hSw;(try dsimp only at hSw);go_simp <;> with_reducible rfl)
    (try simp only[Act.put,q1,q2,q3])
    refine kT 15 6 ?_ rfl (by kernel_rfl) (fun _ _ _ h=>h) (Or.inl ⟨by rfl,?_⟩) hHeld ?_;rotate_left
    · (intro w' hSw;(try dsimp only at hSw);go_simp <;> with_reducible rfl)
    (try simp only[Act.put,q1,q2,q3])
    refine kT 15 7 ?_ rfl (by kernel_rfl) (fun _ _ _ h=>h) (Or.inl ⟨by rfl,?_⟩) hHeld ?_;rotate_left
    · (intro w' hSw;(try dsimp only at hSw);go_simp <;> with_reducible rfl)
    (try simp only[Act.put,q1,q2,q3])
    refine kT 15 8 ?_ rfl (by kernel_rfl) (fun _ _ _ h=>h) (Or.inl ⟨by rfl,?_⟩) hHeld ?_;rotate_left
    · (intro w' hSw;(try dsimp only at hSw);go_simp <;> with_reducible rfl)
    (try simp only[Act.put,q1,q2,q3])
    refine kT 15 9 ?_ rfl (by kernel_rfl) (fun _ _ _ h=>h) (Or.inl ⟨by rfl,?_⟩) hHeld ?_;rotate_left
    · (intro w' hSw;(try dsimp only at hSw);go_simp <;> with_reducible rfl)
    (try simp only[Act.put,q1,q2,q3])
    refine kT 15 10 ?_ rfl (by kernel_rfl) (fun _ _ _ h=>h) (Or.inl ⟨by rfl,?_⟩) hHeld ?_;rotate_left
    · (intro w' hSw;(try dsimp only at hSw);go_simp <;> with_reducible rfl)
    (try simp only[Act.put,q1,q2,q3])
    refine kT 15 11 ?_ rfl (by kernel_rfl) (fun _ _ _ h=>h) (Or.inl ⟨by rfl,?_⟩) hHeld ?_;rotate_left
    · (intro w' hSw;(try dsimp only at hSw);go_simp <;> with_reducible rfl)
    (try simp only[Act.put,q1,q2,q3])
    refine kT 15 12 ?_ rfl (by kernel_rfl) (fun _ _ _ h=>h) (Or.inl ⟨by rfl,?_⟩) hHeld ?_;rotate_left
    · (intro w' hSw;(try dsimp only at hSw);go_simp <;> with_reducible rfl)
    (try simp only[Act.put,q1,q2,q3])
    refine wpAnyK_step (o:=_) (i:=13) rfl (by kernel_rfl) (fun KK hKK=>?_);go_simp
    (go_at_call 195;refine Calls.mono (by with_reducible exact HSD.out _) ?_;rintro e w3 ⟨rfl,x3⟩;have X3:=Lib.hid (show Ext wr w3 from(Ext.refl wr).drew.trans x3);clear x3)
    refine hKK.out _ _ (fun _=>?_) (fun hH=>?_)
    · (exact⟨Ext.cell (X3.out) n0,Ext.cell (X3.out) n1⟩)
    have hHeld2:=hH;clear hKK KK hHeld hH;have hHeld:=hHeld2 (by decide);clear hHeld2
    (try dsimp only at hHeld)
    (try simp only[Act.put,q1,q2,q3])
    refine kT 15 14 ?_ rfl (by kernel_rfl) (fun _ _ _ h=>h) (Or.inl ⟨by rfl,?_⟩) hHeld ?_;rotate_left
    · (intro w' hSw;(try dsimp only at hSw);go_simp <;> with_reducible rfl)
    (try simp only[Act.put,q1,q2,q3])
    refine wpAnyK_step (o:=_) (i:=15) rfl (by kernel_rfl) (fun KK hKK=>?_);go_simp;refine hKK.out _ _ (fun h=>absurd rfl h) (fun _=>?_);clear hKK KK
    (try simp only[Act.put,q1,q2,q3])
    refine wpAnyK_done (by kernel_rfl) ?_ _;go_wp2
    go_roundw
    case rel=>exact⟨i+1,_,by omega,rfl,by go_num,Lib.hid (by rw[HN.out,HT.out]),Lib.hid (hx.out.trans X3.out)⟩
    case measure=>simp[RowKit.intOf];omega
  have hiP:i=PL:=by omega
  have hr:Hid (t=T):=Lib.hid (by rw[ht.out,hiP];exact HT2.out);have b1:¬ (i:Int) < (PL:Int):=by omega
  clear hiP;go_wp2;go_ret;exact⟨by rw[hr.out];rfl,hx.out⟩
end Go.Proofs.YtjaeedbjknejdaaGreatDoor.Ex
