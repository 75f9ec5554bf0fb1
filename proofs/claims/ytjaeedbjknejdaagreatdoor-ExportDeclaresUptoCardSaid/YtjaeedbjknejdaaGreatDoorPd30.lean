/- Packed texts: ParSiz, ExpSiz, ExpMemR, ExpTreA, ExpApT, ExpBlk -/
import Derived.Test.YtjaeedbjknejdaaGreatDoorPd29
import Derived.Deep.LoopGhost
set_option linter.unusedVariables false
set_option linter.unusedSimpArgs false
set_option maxHeartbeats 16000000
set_option maxRecDepth 100000
namespace Go.Proofs.YtjaeedbjknejdaaGreatDoor.Pa
open Go.Lib Fx Lx Tr
def ownS (x:Stm):Nat:=x.name.size+sizeTwo x.refs+sizeTwo x.attrs+1
theorem size_flat (C:Nat):∀ (M:Nat) (L:List Stm),sizeL L<=M->∀ lev:Nat,(∀ p ∈ flatL lev L,ownS p.1<=C)->sizeL L<=C * (flatL lev L).length:=by
 intro M
 induction M using Nat.strongRecOn with
 | _ M ih =>
 intro L
 induction L with
 | nil=>intro _ _ _;rw[sizeL_nil];omega
 | cons x r ihr =>
  intro hM lev h;rw[sizeL_cons] at hM ⊢;have hb:=sizeS_body x;rw[flatL_cons,flatS_eq] at h ⊢;have h1:=ihr (by omega) lev (fun p hp=>h p (List.mem_append_right _ hp));have h2:=ih (sizeL x.body) (by omega) x.body (Nat.le_refl _) (if x.kind=5 then lev+1 else lev) (fun p hp=>h p (List.mem_append_left _ (List.mem_cons_of_mem _ hp)));have h3:ownS x<=C:=h (x,lev) (List.mem_append_left _ List.mem_cons_self);unfold ownS at h3;rw[List.length_append,List.length_cons,Nat.mul_add,Nat.mul_add];omega
theorem two_le (C:Nat):∀ L:List Two,(∀ q ∈ L,q.1.size+q.2.size+1<=C)->sizeTwo L<=C * L.length
 | [],_=>by simp[sizeTwo]
 | q::r,h=>by
  have h1:=h q (by simp);have h2:=two_le C r fun p hp=>h p (by simp[hp])
  rw[sizeTwo,List.length_cons,Nat.mul_add];omega
theorem name_len {n:ByteArray}(h:nameB n.data.toList=true):n.size<=16:=by
 unfold nameB at h;simp only[Bool.and_eq_true,decide_eq_true_eq] at h;rw[size_len];exact h.1.1.2
theorem own_le {x:Stm}(h:okS x)(hr:x.refs.length<=10)(ha:x.attrs.length<=20):ownS x<=1400:=by
 obtain⟨k,n,rs,al,b⟩:=x;obtain⟨h1,h2,h3,h4⟩:=h;simp only[Stm.kind,Stm.name,Stm.refs,Stm.attrs] at h2 h3 h4 hr ha;show n.size+sizeTwo rs+sizeTwo al+1<=1400;have hp:=form_parts k n rs al b h1
 have hn:n.size<=16:=by
  rcases hp with⟨rfl,_⟩ | ⟨rfl,rfl,_⟩ | ⟨rfl,_,_,hn | hn⟩ | ⟨rfl,_⟩ | ⟨rfl,_⟩
  ·exact name_len (h2 (.inl rfl))
  ·decide
  ·rw[size_len,hn];decide
  ·rw[size_len,hn];decide
  ·exact name_len (h2 (.inr (.inl rfl)))
  exact name_len (h2 (.inr (.inr rfl)))
 have hR:sizeTwo rs<=33 * rs.length:=two_le 33 rs fun q hq=>by
  have h:=List.all_eq_true.1 h3 q hq;unfold refB at h;rw[Bool.and_eq_true,Bool.or_eq_true,decide_eq_true_eq] at h;have e1:=name_len h.1
  have e2:q.2.size<=16:=by
   rcases h.2 with e | e
   ·omega
   exact name_len e
  omega
 have hA:sizeTwo al<=49 * al.length:=two_le 49 al fun q hq=>by
  obtain⟨g1,g2,_⟩:=h4 q hq;by_cases h5:k=4
  ·rcases hp with⟨rfl,_⟩ | ⟨rfl,_⟩ | ⟨rfl,_⟩ | ⟨rfl,_,_,v,rfl⟩ | ⟨rfl,_⟩
   ·cases h5
   ·cases h5
   ·cases h5
   ·rw[List.mem_singleton] at hq;subst hq;dsimp only at g2 ⊢;have:ByteArray.size ⟨#[]⟩=0:=rfl;omega
   cases h5
  have:=name_len (g1 h5);omega
 omega
end Go.Proofs.YtjaeedbjknejdaaGreatDoor.Pa

namespace Go.Proofs.YtjaeedbjknejdaaGreatDoor.Ex
open Go.Lib Fx Lx Tr At Go.Proofs.YtjaeedbjknejdaaGreatDoor.Nm
theorem block_all {g:Gr}(P:Stm × Nat->Prop)(hn:∀ (i:Nat) (h:i < g.N.length) (lev:Nat),P (nodeS g.N[i],lev))(hc:∀ (i:Nat) (h:i < g.C.length) (lev:Nat) (B:List Stm),P (.mk 5 g.C[i].1 [] [] B,lev)):∀ (f:Nat) (p:Int) (n k lev:Nat),∀ q ∈ flatL lev (blockT g f p n k).1,P q
 | 0,p,n,k,lev,q,hq=>by rw[blockT] at hq;dsimp only at hq;rw[flatL_nil] at hq;cases hq
 | f+1,p,n,k,lev,q,hq=>by
  rw[blockT] at hq;split at hq
  ·rename_i hr;have hk:=ready_lt hr;dsimp only at hq;rw[flatL_cons,flatS_mk] at hq;rcases List.mem_append.1 hq with hq | hq
   ·rcases List.mem_cons.1 hq with rfl | hq
    ·have:=hc k hk lev (blockT g f k n (k+1)).1;rw[List.getElem?_eq_getElem hk];exact this
    exact block_all P hn hc f _ _ _ _ q hq
   exact block_all P hn hc f _ _ _ _ q hq
  ·split at hq
   ·dsimp only at hq;rw[flatL_nil] at hq;cases hq
   rename_i x hx;obtain⟨hi,rfl⟩:=List.getElem?_eq_some_iff.1 hx;split at hq
   ·dsimp only at hq;have e:=hn n hi lev;unfold nodeS at hq e;rw[flatL_cons,flatS_mk,flatL_nil] at hq;rcases List.mem_append.1 hq with hq | hq
    ·rw[List.mem_singleton.1 hq];exact e
    exact block_all P hn hc f _ _ _ _ q hq
   dsimp only at hq;rw[flatL_nil] at hq;cases hq
theorem edges_all {N:List Nd}(P:Stm × Nat->Prop):∀ (E:List Ed),(∀ x ∈ E,P (edgeS N x,0))->∀ q ∈ flatL 0 (E.map (edgeS N)),P q
 | [],_,q,hq=>by rw[List.map_nil,flatL_nil] at hq;cases hq
 | x::E,h,q,hq=>by
  rw[List.map_cons,flatL_cons] at hq;rcases List.mem_append.1 hq with hq | hq
  ·have e:=h x (by simp);unfold edgeS at hq e;rw[flatS_mk,flatL_nil] at hq;rw[List.mem_singleton.1 hq];exact e
  ·exact edges_all P E (fun y hy=>h y (by simp[hy])) q hq
theorem sets_all (P:Stm × Nat->Prop):∀ (L:List Stm),(∀ x ∈ L,(∃ k v,x=setS k v)/\P (x,0))->∀ q ∈ flatL 0 L,P q
 | [],_,q,hq=>by rw[flatL_nil] at hq;cases hq
 | x::L,h,q,hq=>by
  obtain⟨⟨k,v,rfl⟩,hp⟩:=h x (by simp);rw[flatL_cons] at hq;rcases List.mem_append.1 hq with hq | hq
  ·unfold setS at hq hp;rw[flatS_mk,flatL_nil] at hq;rw[List.mem_singleton.1 hq];exact hp
  ·exact sets_all P L (fun y hy=>h y (by simp[hy])) q hq
theorem node_four (x:Nd):(nodeA x).length<=4:=by
 rw[nodeA_op];have h:=(((op_sub (x.h=10000) kHeight (fmtB x.h)).append (op_sub (x.label=x.name) kLabel x.label)).append (op_sub (x.ports=[]) kPorts (portsTx x.ports)) |>.append (op_sub (x.w=20000) kWidth (fmtB x.w))).length_le;exact h
theorem edge_three (x:Ed):(edgeA x).length<=3:=by
 rw[edgeA_op];exact(((op_sub _ _ _).append (op_sub _ _ _)).append (op_sub _ _ _)).length_le
theorem sets_only (o:Op5):∀ x ∈ optsL o,∃ k v,x=setS k v:=fun x hx=>by
 rw[optsL_op] at hx;simp only[List.mem_append] at hx;rcases hx with(((hx | hx) | hx) | hx) | hx <;> exact⟨_,_,opS_mem hx⟩
theorem body_few (g:Gr)(o:Op5):∀ p ∈ flatL 0 (bodyT g o),p.1.refs.length<=10/\p.1.attrs.length<=16:=fun p hp=>by
 unfold bodyT at hp;rw[flatL_app,flatL_app] at hp;rcases List.mem_append.1 hp with hp | hp
 ·rcases List.mem_append.1 hp with hp | hp
  ·refine sets_all (fun p=>p.1.refs.length<=10/\p.1.attrs.length<=16) _ (fun x hx=>?_) p hp;obtain⟨k,v,rfl⟩:=sets_only o x hx;exact⟨⟨k,v,rfl⟩,by show 0<=10;decide,by show 1<=16;decide⟩
  refine block_all (fun p=>p.1.refs.length<=10/\p.1.attrs.length<=16) (fun i h lev=>⟨by show 0<=10;decide,?_⟩) (fun i h lev B=>⟨by show 0<=10;decide,by show 0<=16;decide⟩) _ _ _ _ _ p hp;have:=node_four g.N[i];show(nodeA g.N[i]).length<=16;omega
 refine edges_all (fun p=>p.1.refs.length<=10/\p.1.attrs.length<=16) _ (fun x hx=>⟨by show 2<=10;decide,?_⟩) p hp;have:=edge_three x;show(edgeA x).length<=16;omega
theorem tree_ok {g:Gr}{o:Op5}{B:List Stm}(h:treeT g o=.ok B):B=bodyT g o/\grE g=0/\inR5 o=true/\validE g.name B=0/\(∀ p ∈ flatL 0 B,p.1.refs.length<=10/\p.1.attrs.length<=16)/\g.name.size<=16/\sizeL B<=1048576/\cntL B<=341:=by
 unfold treeT at h;split at h
 ·cases h
 rename_i h1;split at h
 ·cases h
 split at h
 ·cases h
 rename_i h3;injection h with h;subst h;have hg:grE g=0:=Classical.not_not.1 fun e=>h1 (.inl e)
 have ho:inR5 o=true:=by
  cases e:inR5 o
  ·exact absurd (.inr e) h1
  rfl
 have hv:validE g.name (bodyT g o)=0:=Classical.not_not.1 h3;have hfw:=body_few g o;have hcn:=cnt_body (gr_ok hg) o;obtain⟨v1,v2,v3,-⟩:=valid_ok g.name (bodyT g o) hv;have:=Pa.size_flat 1400 (sizeL (bodyT g o)) (bodyT g o) (Nat.le_refl _) 0 (fun p hp=>Pa.own_le (okS_of p.1 p.2 (v3 p hp)) (hfw p hp).1 (by have:=(hfw p hp).2;omega));rw[cntL_flat] at this;exact⟨rfl,hg,ho,hv,hfw,Pa.name_len v1,by omega,hcn⟩
end Go.Proofs.YtjaeedbjknejdaaGreatDoor.Ex

namespace Go.Proofs.YtjaeedbjknejdaaGreatDoor.Ex
open Go.RowKit Go.Sort Go.Lib Go.Shelf Fx Lx Tr At Go.Proofs.YtjaeedbjknejdaaGreatDoor.Nm
theorem contains_cons (x y:Int)(L:List Int):(x::L).contains y=(decide (x=y) || L.contains y):=by
 rw[List.contains_cons]
 congr 1
 by_cases h:y=x
 ·subst h;simp
 have h':¬ x=y:=fun e=>h e.symm
 rw[decide_eq_false h'];simp[h]
theorem hasR_any (g:Gr)(va:Value)(c i:Nat)(w:World)(ha:GrIn w va g)(hi:i < g.N.length)(hN:g.N.length<=1000000000)(hC:g.C.length<=1000000000)(hc1 : -1<=g.N[i].c)(hc2:g.N[i].c < g.C.length)(hp:∀ k (h:k < g.C.length),g.C[k].2 < k /\ -1<=g.C[k].2):
  Calls Tryz.prog 44 #[va,.int .i64 (c:Int),.int .i64 (i:Int)] w fun e w'=>e=.returned (.bool (hasC g.C c g.N[i].c))/\Ext w w':=by
 obtain⟨na,nac,ea,eac,ca,cac,rfl,a1,-,a3⟩:=ha;obtain⟨g1,o1,p1,pc1,rfl,-,-,-,-,hn4,-,-⟩:=a1 i hi;obtain⟨nm,dir,NN,EE,CC⟩:=g;dsimp only at *;obtain⟨k0,hk0⟩:∃ k,k=NN[i].c:=⟨_,rfl⟩;rw[<-hk0] at hc1 hc2 hn4;rw[<-hk0];obtain⟨q,hq⟩:∃ n,n=NN.length:=⟨_,rfl⟩;obtain⟨el,hel⟩:∃ n,n=EE.length:=⟨_,rfl⟩;obtain⟨cl,hcl⟩:∃ n,n=CC.length:=⟨_,rfl⟩;obtain⟨D,hD⟩:∃ n,n=hasC CC c k0:=⟨_,rfl⟩;rw[<-hD];rw[<-hq,<- hel,<- hcl];rw[<-hcl] at hC hc2;rw[<-hq] at hi;have hD0:Hid ((chnT CC (cl+1) k0).contains (c:Int)=D):=hid (by rw[hD,hcl];rfl);have A3:=hid a3;have HCL:=hid hcl;have HP:=hid hp;have n0:=fun ob=>((Ext.refl w).alloc ob).cell hn4
 have b8:(0:Int)<=(i:Int):=by omega
 have b9:(i:Int) < (q:Int):=by omega
 have f0:((c:Int) == -1)=false:=by rw[beq_eq_false_iff_ne];omega
 clear a1 a3 hq hel hcl hp hD hn4 hi hk0;go_enter Tryz.func44,Tryz.ntmps44;go_wp2_with fail;obtain⟨w1,hw1⟩:∃ w1,w1=w.alloc (.cells #[.string nm,.bool dir,.slice (some ⟨g1,o1,none⟩) q nac,.slice ea el eac,.slice ca cl cac] 26):=⟨_,rfl⟩;have X1:Hid (Ext (w.alloc (.cells #[.string nm,.bool dir,.slice (some ⟨g1,o1,none⟩) q nac,.slice ea el eac,.slice ca cl cac] 26)) w1):=hid (by rw[hw1];exact Ext.refl _);have XW:Hid (Ext w w1):=hid (((Ext.refl _).alloc _).trans X1.out);rw[<-hw1];clear hw1 n0 b8 b9
 go_loopw [7] (fun k' wr=>∃ (k:Int) (f:Nat),k'=.int .i64 k /\ -1<=k/\k < cl/\k < f/\Hid ((chnT CC f k).contains (c:Int)=D)/\Ext w1 wr) (fun k' _=>(RowKit.intOf k'+1).toNat)
 case atStart=>exact⟨k0,cl+1,rfl,by omega,by omega,by omega,hD0,Ext.refl _⟩
 clear hD0;obtain⟨k,f,rfl,hk1,hk2,hkf,hd,hx⟩:=hrel;have e0:=box1 (X1.out.trans hx) 4 _ rfl;by_cases hlt:0<=k
 ·obtain⟨k,rfl⟩:∃ j:Nat,k=(j:Int):=⟨k.toNat,by omega⟩;have hkC:k < CC.length:=by rw[<-HCL.out];omega
  obtain⟨f',rfl⟩:∃ f',f=f'+1:=⟨f - 1,by omega⟩;have hd1:=hd.out;rw[chn_step CC f' hkC,contains_cons] at hd1;obtain⟨g1,o1,rfl,x0,x1⟩:=(A3.out.ext (XW.out.trans hx)) k hkC;obtain⟨h1,h2⟩:=HP.out k hkC;obtain⟨p,hpe⟩:∃ p,p=CC[k].2:=⟨_,rfl⟩;rw[<-hpe] at x1 h1 h2 hd1;have b0:(0:Int)<=(k:Int):=by omega
  have b1:(k:Int) < (cl:Int):=by omega
  by_cases hkc:(k:Int)=c
  ·have hr:Hid (D=true):=hid (by rw[<-hd1,decide_eq_true hkc];rfl);have f3:((k:Int) == (c:Int))=true:=by rw[hkc];simp
   clear hd hd1 hpe x0 hkc;go_wp2;go_ret;exact⟨ret_b hr.out.symm,XW.out.trans hx⟩
  have HD1:Hid ((chnT CC f' p).contains (c:Int)=D):=hid (by rw[<-hd1,decide_eq_false hkc];rfl);have f3:((k:Int) == (c:Int))=false:=by rw[beq_eq_false_iff_ne];exact hkc
  clear hd hd1 hpe x0 hkc;go_wp2
  go_roundw
  case rel=>exact⟨p,f',rfl,by omega,by omega,by omega,HD1,hx⟩
  case measure=>simp[RowKit.intOf];omega
 have hr:Hid (D=false):=hid (by rw[<-hd.out,chn_end CC f (by omega)];rfl);have d0:decide (0<=k)=false:=decide_eq_false hlt;clear hd;go_wp2;go_ret;exact⟨ret_b hr.out.symm,XW.out.trans hx⟩
theorem membersR_any (g:Gr)(va:Value)(k:Nat)(w:World)(ha:GrIn w va g)(hsm:GrSm g)(hg0:grE g=0)(hk:k < g.C.length):
  Calls Tryz.prog 19 #[va,.int .i64 (k:Int)] w fun e w'=>(∃ v,e=.returned v/\w'.ownsRow w.heap.size 3 1 v (memT g k).length (intsC (memI g k g.N.length)))/\Ext w w':=by
 have hok:=gr_ok hg0;have hvl:=fun(w5:World) (x:Ext w w5)=>validGR_any g va w5 (ha.ext x) hsm
 rw[hg0] at hvl;have hcl:=hok.cl;have hnl:=hok.nl;have hpar:∀ i (h:i < g.C.length),g.C[i].2 < i /\ -1<=g.C[i].2:=fun i h=>by have:=cl_ok (hok.cs i h);exact⟨this.2.2.2.2.1,this.2.2.2.1⟩
 have hch:=fun(i:Nat) (x:Nd) (hx:g.N[i]? = some x) (w5:World) (y:Ext w w5)=>show Calls Tryz.prog 44 #[va,.int .i64 (k:Int),.int .i64 (i:Int)] w5 fun e w'=>e=.returned (.bool (hasC g.C k x.c))/\Ext w5 w' by
  obtain⟨h,rfl⟩:=List.getElem?_eq_some_iff.1 hx;have:=nd_ok (hok.nd i h);exact hasR_any g va k i w5 (ha.ext y) h (by omega) (by omega) this.2.2.2.2.2.2.2.1 this.2.2.2.2.2.2.2.2.1 hpar
 obtain⟨T,hT⟩:∃ T,T=memI g k g.N.length:=⟨_,rfl⟩;have htl:(memT g k).length=T.length:=by rw[hT,memI_all,List.length_map]
 rw[<-hT,htl];obtain⟨na,nac,ea,eac,ca,cac,rfl,-,-,-⟩:=ha;have hstep:=fun i h=>memI_succ g k i h
 have hlen:=fun i=>memI_len g k i
 obtain⟨M,hM⟩:∃ M,M=memI g k:=⟨_,rfl⟩;rw[<-hM] at hT hstep hlen;have hM0:M 0=[]:=by rw[hM];rfl
 obtain⟨q,hq⟩:∃ n,n=g.N.length:=⟨_,rfl⟩;obtain⟨el,hel⟩:∃ n,n=g.E.length:=⟨_,rfl⟩;obtain⟨cl,hcle⟩:∃ n,n=g.C.length:=⟨_,rfl⟩;rw[<-hq] at hT hnl;simp only[<-hq,<- hel,<- hcle] at hvl hch;rw[<-hq,<- hel,<- hcle];rw[<-hcle] at hk hcl;have HVL:=hid hvl;have HCH:=hid hch;have HST:=hid hstep;have HLN:=hid hlen;have HT:=hid hT;have HQ:=hid hq;have HM0:=hid hM0;have f0:decide ((k:Int) < -1)=false:=decide_eq_false (by omega);have f1:decide ((cl:Int)<=(k:Int))=false:=decide_eq_false (by omega);have f1':decide (cl<=k)=false:=decide_eq_false (by omega);obtain⟨e1,e2⟩:=efacts 0;obtain⟨j0,hj0,hjz⟩:=Option.map_eq_some_iff.1 info_i;simp only[Prod.mk.injEq] at hjz;obtain⟨hjz0,hjz1,hjz2⟩:=hjz;clear hvl hch hstep hlen hT hq hel hcle hM0 hpar htl hM hok hsm;go_enter Tryz.func19,Tryz.ntmps19
 go_wp2_with (go_at_call 31;refine Calls.mono (by with_reducible exact HVL.out _ ((Ext.refl _).alloc _)) ?_;rintro e w1 ⟨rfl,x1⟩;obtain⟨b0,b1,b2,b3,b4⟩:=cells5b x1;have X1:=hid x1;have XW:=hid (((Ext.refl w).alloc (.cells #[.string g.name,.bool g.dir,.slice na q nac,.slice ea el eac,.slice ca cl cac] 26)).trans x1);clear x1);have hsz:=XW.out.size
 go_loopw [5,6] (fun o' i' wr=>∃ (i n:Nat) (ov:Value),ov=o'/\i<=q/\n<=i/\i'=.int .i64 i/\Hid (n=(M i).length)/\Hid (wr.ownsRow w1.heap.size 3 1 ov n (intsC (M i)))/\Hid (Ext w1 wr)) (fun _ i' _=>q - (RowKit.intOf i').toNat)
 case atStart=>exact⟨0,0,_,rfl,Nat.zero_le _,Nat.le_refl _,rfl,hid (by rw[HM0.out];rfl),hid (by rw[HM0.out];exact World.ownsRow_nil _ _ _ _),hid (Ext.refl _)⟩
 obtain⟨i,n,ov,rfl,hi,hni,rfl,hn,hown,hx⟩:=hrel;clear b0 b1 b2 b3 b4;obtain⟨b0,b1,b2,b3,b4⟩:=cells5b (X1.out.trans hx.out);by_cases hlt:i < q
 ·have hin:i < g.N.length:=by rw[<-HQ.out];exact hlt
  have hcx:=HCH.out i g.N[i] (List.getElem?_eq_getElem hin);have hst:=HST.out i hin;obtain⟨b,hbe⟩:∃ b,b=hasC g.C k g.N[i].c:=⟨_,rfl⟩;rw[<-hbe] at hst hcx;have HCX:=hid hcx;have HS1:=hid hst;have c0:(0:Int)<=(i:Int):=by omega
  have c1:(i:Int) < (q:Int):=by omega
  have hml:=HLN.out i;clear hcx hst hbe hin;cases b with
  | true =>
   have hs2:Hid (M (i+1)=M i++[(i:Int)]):=hid (by rw[HS1.out,if_pos rfl])
   go_wp2_with (first
    | (go_at_call 44;refine Calls.mono (by with_reducible exact HCX.out _ (XW.out.trans hx.out)) ?_;rintro e w3 ⟨rfl,x3⟩;have X3:=hid x3;clear x3)
    | (at_builtin;refine wpList_append_lies _ rfl _ _ 48 rfl w1.heap.size 3 j0 _ 1 8 Tryz.underlying48 hj0 hjz0 hjz1 hjz2 rfl (by decide) _ _ _ rfl (At.own_ext hown.out (X3.out.alloc _)) ⟨w3.heap.size,0,none⟩ 1 1 [.int .i64 (i:Int)] rfl rfl ?c1 ?c2 (by decide) ?c3 ?c4 ?c5 _ rfl ?_))
   case c1=>exact news1 _ _
   case c2=>simp[Value.oneCell']
   case c3=>unfold maxLen;omega
   case c4=>omega
   case c5=>have:=hx.out.size;have:=X3.out.size;simp;omega
   intro gg cc w5 hown5 hgrow5 _ _;have X5:=hid (show Ext w1 w5 from Below.grown ((hx.out.trans X3.out).alloc _) hgrow5 (by have:=hx.out.size;have:=X3.out.size;simp;omega) (fun q hq=>by have:=(hown.out.lt q hq).1;omega));rw[<-intsC_snoc,<- hs2.out] at hown5;have HO5:=hid hown5;clear hown5 hgrow5;go_wp2
   go_roundw
   case rel=>exact⟨i+1,n+1,_,rfl,by omega,by omega,by go_num,hid (by rw[hs2.out,List.length_append,<- hn.out];rfl),HO5,X5⟩
   case measure=>simp[RowKit.intOf];omega
  | false =>
   have hs2:Hid (M (i+1)=M i):=hid (by rw[HS1.out,if_neg (by decide),List.append_nil]);go_wp2_with (go_at_call 44;refine Calls.mono (by with_reducible exact HCX.out _ (XW.out.trans hx.out)) ?_;rintro e w3 ⟨rfl,x3⟩;have X3:=hid x3;clear x3)
   go_roundw
   case rel=>exact⟨i+1,n,ov,rfl,by omega,by omega,by go_num,hid (by rw[hs2.out];exact hn.out),hid (by rw[hs2.out];exact At.own_ext hown.out X3.out),hid (hx.out.trans X3.out)⟩
   case measure=>simp[RowKit.intOf];omega
 have hiq:i=q:=by omega
 have hr:Hid (M i=T):=hid (by rw[hiq];exact HT.out.symm);have c1:¬ (i:Int) < (q:Int):=by omega
 clear hiq;go_wp2;go_ret;exact⟨⟨_,rfl,by have h:=hown.out;rw[hr.out,hn.out,hr.out] at h;exact own_base h hsz⟩,XW.out.trans hx.out⟩
end Go.Proofs.YtjaeedbjknejdaaGreatDoor.Ex

namespace Go.Proofs.YtjaeedbjknejdaaGreatDoor.Ex
open Go Go.RowKit Go.Sort Go.Lib Go.Shelf Fx Lx Tr At Pa Go.Proofs.YtjaeedbjknejdaaGreatDoor.Nm
theorem size_tr : (Tryz.prog.info? 33).map (·.size)=some 3:=by kernel_rfl
theorem results_tr {fn:Func}{p u:Tmp}(h:fn.results=#[.cell p 33,.tmp u])(tmps:Array Value)(w:World)(g:Nat)(cs:Array Value)(e:Value)(hsz:cs.size=3)(hp:tmps.getD p undef=.pointer (some ⟨g,0,none⟩))(he:tmps.getD u undef=e)(hg:w.heap[g]? = some (.cells cs 33 (0,0))):
  (results fn tmps).run Tryz.prog w=.ok (.tuple #[.agg cs,e]) w:=by
 rw[results_cell_tmp h,hp,he];have hl:=run_loadVar_row (P:=Tryz.prog) w g 33 33 cs (0,0) _ hg Tryz.underlying33 rfl (by rw[size_tr,hsz]);simp[asAddr,Result.andThen,hl]
theorem cells3t {w:World}{g:Nat}{T:TypeId}{c0 c1 c2:Value}(h:w.heap[g]? = some (.cells #[c0,c1,c2] T (0,0))):
  w.cell? ⟨g,0,none⟩=some c0/\w.cell? ⟨g,1,none⟩=some c1/\w.cell? ⟨g,2,none⟩=some c2/\∀ j,w.frozen? ⟨g,j,none⟩=false:=by
 refine⟨?_,?_,?_,fun j=>Lib.frozen_of_heap h j⟩ <;> (rw[Lib.cell_of_heap h];rfl)
theorem set3t {w:World}{g:Nat}{T:TypeId}{c0 c1 c2:Value}(h:w.heap[g]? = some (.cells #[c0,c1,c2] T (0,0)))(v0 v1 v2:Value):
  (((w.setCell ⟨g,0,none⟩ v0).setCell ⟨g,1,none⟩ v1).setCell ⟨g,2,none⟩ v2).heap[g]? = some (.cells #[v0,v1,v2] T (0,0)) :=
 blk_set (blk_set (blk_set h 0 v0) 1 v1) 2 v2
theorem ext3t {w0 w:World}(x:Ext w0 w){g:Nat}(hg:w0.heap.size<=g)(v0 v1 v2:Value):Ext w0 (((w.setCell ⟨g,0,none⟩ v0).setCell ⟨g,1,none⟩ v1).setCell ⟨g,2,none⟩ v2) :=
 ((x.setCell hg v0).setCell hg v1).setCell hg v2
def tr0V : Value:=.agg #[.string ⟨#[]⟩,.bool false,.slice none 0 0]
theorem two_newT {w w3:World}{o o2:Obj}{cs:Array Value}{T:TypeId}(x:Ext (((w.alloc o).alloc o2).alloc (.cells cs T)) w3):w3.heap[w.heap.size+1+1]? = some (.cells cs T (0,0)):=by
 have h:=heap_alloc_new ((w.alloc o).alloc o2) (.cells cs T);simp only[World.size_alloc] at h;exact At.heap_ext h x
theorem treeA_bad (g:Gr)(na ea ca:Option Addr)(nac eac cac:Nat)(o:Op5)(w:World)(ha:GrIn w (.agg #[.string g.name,.bool g.dir,.slice na g.N.length nac,.slice ea g.E.length eac,.slice ca g.C.length cac]) g)(hcp:GrCp w (.agg #[.string g.name,.bool g.dir,.slice na g.N.length nac,.slice ea g.E.length eac,.slice ca g.C.length cac]) g)(hsm:GrSm g)(hbad:grE g ≠ 0\/inR5 o=false):
    Calls Tryz.prog 10 #[.agg #[.string g.name,.bool g.dir,.slice na g.N.length nac,.slice ea g.E.length eac,.slice ca g.C.length cac],opV o] w fun e w'=>e=.returned (.tuple #[tr0V,.int .i64 1])/\Ext w w':=by
  have hvg:=fun(w5:World) (x:Ext w w5)=>validG_any g _ w5 (ha.ext x) (hcp.ext ha x) hsm
  have hvo:=fun(w5:World)=>vopP_any o w5
  have e5:=ok5 o;obtain⟨V,hV⟩:∃ V,V=grE g:=⟨_,rfl⟩;rw[<-hV] at hbad;simp only[<-hV] at hvg;obtain⟨q,hq⟩:∃ n,n=g.N.length:=⟨_,rfl⟩;obtain⟨el,hel⟩:∃ n,n=g.E.length:=⟨_,rfl⟩;obtain⟨cl,hcle⟩:∃ n,n=g.C.length:=⟨_,rfl⟩;simp only[<-hq,<- hel,<- hcle] at hvg ⊢;unfold opV at hvo ⊢;obtain⟨mo,ns,rs,mg,rd⟩:=o;dsimp only at hvo ⊢;by_cases hv0:V=0
  · subst hv0
    have hb : inR5 ⟨mo, ns, rs, mg, rd⟩ = false := by rcases hbad with h | h; · exact absurd rfl h
                                                      · exact h
    rw[hb] at e5;simp only[e5] at hvo;have HVG:=hid hvg;have HVO:=hid hvo;clear hvg hvo hbad hV hb e5 ha hcp hsm hq hel hcle;go_enter Tryz.func10,Tryz.ntmps10
    go_wp2_with (first
      | (go_at_call 25;refine(HVG.out _ ((((Ext.refl _).alloc _).alloc _).alloc _)).mono ?_;rintro e w3 ⟨rfl,x3⟩;have X3:=hid x3;obtain⟨o0,o1,o2,o3,o4⟩:=cells5g (At.heap_ext (new2 _ _ _ (by simp)) (((Ext.refl _).alloc _).trans x3):w3.heap[w.heap.size+1]? = some (.cells #[.int .i64 mo,.int .i64 ns,.int .i64 rs,.int .i64 mg,.int .i64 rd] 28 (0,0)));clear x3)
      | (go_at_call 26;refine(HVO.out _).mono ?_;rintro e w4 ⟨rfl,x4⟩;have X4:=hid (X3.out.trans x4);have HG4:=hid (two_newT X4.out);obtain⟨z0,z1,z2,zf⟩:=cells3t HG4.out;clear x4))
    (try simp only[Exit.inBlock,Exit.then])
    refine bodyPost_ret (results_tr rfl _ _ (w.heap.size+1+1) _ (.int .i64 1) rfl rfl rfl (set3t HG4.out _ _ _)) rfl ?_;exact⟨rfl,ext3t (((((Ext.refl _).alloc _).alloc _).alloc _).trans X4.out) (by omega) _ _ _⟩
  obtain⟨f1,f2⟩:=nfacts hv0;have HVG:=hid hvg;clear hvg hvo hbad hV e5 ha hcp hsm hq hel hcle;go_enter Tryz.func10,Tryz.ntmps10;go_wp2_with (go_at_call 25;refine(HVG.out _ ((((Ext.refl _).alloc _).alloc _).alloc _)).mono ?_;rintro e w3 ⟨rfl,x3⟩;have X3:=hid x3;have HG4:=hid (two_newT x3);obtain⟨z0,z1,z2,zf⟩:=cells3t HG4.out;clear x3)
  (try simp only[Exit.inBlock,Exit.then])
  refine bodyPost_ret (results_tr rfl _ _ (w.heap.size+1+1) _ (.int .i64 1) rfl rfl rfl (set3t HG4.out _ _ _)) rfl ?_;exact⟨rfl,ext3t (((((Ext.refl _).alloc _).alloc _).alloc _).trans X3.out) (by omega) _ _ _⟩
end Go.Proofs.YtjaeedbjknejdaaGreatDoor.Ex

namespace Go.Proofs.YtjaeedbjknejdaaGreatDoor.Ex
open Go Go.RowKit Go.Sort Go.Lib Go.Shelf Fx Lx Tr At Pa Go.Proofs.YtjaeedbjknejdaaGreatDoor.Nm
def BarT (T:Nat->Prop)(B:Nat)(L:List Stm)(v:Value)(w:World):Prop:=∃ X,w.ownsRow B 67 5 v L.length X/\StmsC (fun g=>B<=g/\some g ≠ v.ownBlock/\¬ T g) w L X
theorem BarT.of {T:Nat->Prop}{B:Nat}{L:List Stm}{v:Value}{w:World}(h:BarAt B 0 L v w)(hT:∀ g,B<=g->g < w.heap.size->¬ T g):BarT T B L v w:=by
 obtain⟨X,o,c⟩:=h.own;refine⟨X,o,StmsC.keep (fun _ _ _=>rfl) (fun g hk hlt=>?_) L X c⟩;rcases hk with hk | hk
 ·omega
 exact⟨hk.1,hk.2,hT g hk.1 hlt⟩
theorem BarT.turn {T T':Nat->Prop}{B:Nat}{L:List Stm}{v:Value}{w w':World}(h:BarT T B L v w)(x:Ext w w')(hT:∀ g,B<=g->g < w.heap.size->¬ T g->¬ T' g):BarT T' B L v w':=by
 obtain⟨X,o,c⟩:=h;exact⟨X,At.own_ext o x,StmsC.keep (fun g hk hlt=>x.block g hlt) (fun g hk hlt=>⟨hk.1,hk.2.1,hT g hk.1 hlt hk.2.2⟩) L X c⟩
theorem BarT.but {T:Nat->Prop}{B b:Nat}{L:List Stm}{v:Value}{w w':World}(h:BarT T B L v w)(x:But b w w')(hb:b < B):BarT T B L v w':=by
 obtain⟨X,o,c⟩:=h;exact⟨X,own_but o x hb,StmsC.keep (fun g hk hlt=>x.block g hlt (fun e=>by have:=hk.1;omega)) (fun g hk _=>hk) L X c⟩
theorem BarT.set {T:Nat->Prop}{B t j:Nat}{L:List Stm}{v u:Value}{w:World}{cs:Array Value}{TT:TypeId}(h:BarT T B L v w)(ht:T t)(hb:w.heap[t]? = some (.cells cs TT (0,0)))(hne:TT ≠ 67):BarT T B L v (w.setCell ⟨t,j,none⟩ u):=by
 obtain⟨X,o,c⟩:=h;refine⟨X,row_keep o (set_grown w t j u) (cel_ty hb) (nope (Ne.symm hne)),StmsC.keep (fun g hk hlt=>Below.heap_setCell _ _ _ _ (fun e=>hk.2.2 (by rw[e];exact ht))) (fun g hk _=>hk) L X c⟩
theorem stmsC_app {ok:Nat->Prop}{w:World}{M:List Stm}{Y:List Value}:∀ (K:List Stm) (X:List Value),StmsC ok w K X->StmsC ok w M Y->StmsC ok w (K++M) (X++Y)
 | [],X,h1,h2=>by have h1:X=[]:=h1;subst h1;exact h2
 | s::K,X,h1,h2=>by
  obtain⟨xs,Z,hX,h5,hs,hr⟩:=h1;exact⟨xs,Z++Y,by rw[hX,List.append_assoc],h5,hs,stmsC_app K Z hr h2⟩
theorem BarT.cat {T:Nat->Prop}{B:Nat}{K M:List Stm}{v v':Value}{wr w7:World}{X Y:List Value}(own:wr.ownsRow B 67 5 v K.length X)(hc:StmsC (fun g=>B<=g/\some g ≠ v.ownBlock/\¬ T g) wr K X)(hm:StmsC (fun g=>(B<=g/\some g ≠ v.ownBlock/\¬ T g)/\g < wr.heap.size) wr M Y)
  (hg:wr.grownBy w7 v.ownBlock) (ho:w7.ownsRow B 67 5 v' (K.length+M.length) (X++Y)) (hor:v'.ownBlock=v.ownBlock\/v'.ownBlock=some wr.heap.size):BarT T B (K++M) v' w7:=by
 have key:∀ g,g < wr.heap.size->some g ≠ v.ownBlock->some g ≠ v'.ownBlock:=fun g h1 h2=>by
  rcases hor with h | h <;> rw[h]
  ·exact h2
  intro e;injection e with e;omega
 refine⟨X++Y,by rw[List.length_append];exact ho,stmsC_app K X ?_ ?_⟩
 ·exact StmsC.keep (fun g hk hlt=>hg.block g hlt (fun e=>hk.2.1 e)) (fun g hk hlt=>⟨hk.1,key g hlt hk.2.1,hk.2.2⟩) K X hc
 exact StmsC.keep (fun g hk hlt=>hg.block g hlt (fun e=>hk.1.2.1 e)) (fun g hk hlt=>⟨hk.1.1,key g hlt hk.1.2.1,hk.1.2.2⟩) M Y hm
theorem run_append_stmsT {T:Nat->Prop}{t ty:TypeId}{i:TypeInfo}{z:Value}(w:World)(B:Nat)(ht:Tryz.prog.underlying t=some (.slice 67))(hi:Tryz.prog.info? 67=some i)(hz:i.zero=some z)(hsize:i.size=5)(hby:i.bytes=96)(hzs:z.cells.size=5)
  (K M:List Stm) (v:Value) (b:Option Addr) (c:Nat) (h:BarT T B K v w) (hb:StmsP (fun g=>B<=g/\some g ≠ v.ownBlock/\¬ T g) w b M) (hl:K.length+M.length<=1000) (hB:B<=w.heap.size) :
  ∃ v' w',(Builtin.append_ #[t,t] ty #[v,.slice b M.length c]).run Tryz.prog w=.ok v' w'/\BarT T B (K++M) v' w'/\w.grownBy w' v.ownBlock/\∀ g,v.ownBlock=some g->B<=g:=by
 obtain⟨X,own,hc⟩:=h;have hB2:∀ g,v.ownBlock=some g->B<=g:=fun g e=>(own.lt g e).1
 cases b with
 | none =>
  have hM:M=[]:=by
   cases M with
   | nil=>rfl
   | cons s M=>rw[StmsP] at hb;obtain⟨g,o,xs,e,-⟩:=hb;cases e
  subst hM;refine⟨v,w,run_append_no w B t ty _ i ht hi 5 v K.length X own c,by rw[List.append_nil];exact⟨X,own,hc⟩,⟨rfl,rfl,rfl,Nat.le_refl _,fun _ _ _=>rfl⟩,hB2⟩
 | some ad =>
  have hY:∃ Y:List Value,Y.length=M.length * 5/\StmsC (fun g=>B<=g/\some g ≠ v.ownBlock/\¬ T g) w M Y/\(∀ j u,Y[j]? = some u->w.cell? (ad.add j)=some u)/\∀ u ∈ Y,u.oneCell'=true:=by
   cases M with
   | nil=>exact⟨[],by simp,rfl,(by intro j u hj;simp at hj),(by intro u hu;simp at hu)⟩
   | cons s M =>
    have hb2:=hb;rw[StmsP] at hb2;obtain⟨g,o,xs,e,-⟩:=hb2;injection e with e;subst e;obtain⟨Y,h1,h2,h3,h4⟩:=stmsP_cells (s::M) o hb;exact⟨Y,h1,h2,fun j u hj=>by rw[add_o];exact h3 j u hj,h4⟩
  obtain⟨Y,hYl,hYc,hYn,hY1⟩:=hY;obtain⟨v',w',hr,ho,hg,-,hor⟩:=run_append_own_at (P:=Tryz.prog) w B t ty _ i z 5 96 ht hi hz hsize hby hzs (by decide) v K.length X own ad M.length c Y hYl hYn hY1 (by unfold maxLen;omega) (by omega) hB;exact⟨v',w',hr,BarT.cat own hc (StmsC.keep (fun _ _ _=>rfl) (fun g hk hlt=>⟨hk,hlt⟩) M Y hYc) hg ho hor,hg,hB2⟩
theorem step_append_stmsT {T:Nat->Prop}{ops:Array Oper}{o:Oper}{a:Act}{Kk:Act->World->Prop}{Q:Exit->Act->World->Prop}{E:Prop}{w:World}(hgd:o.guard=none)(s x:Operand)(t:TypeId)
    (ho:o.op=.call { callee:=.builtin .append,args:=#[s,x],argTypes:=#[t,t] }) {i:TypeInfo} {z:Value} (B:Nat) (ht:Tryz.prog.underlying t=some (.slice 67)) (hi:Tryz.prog.info? 67=some i) (hz:i.zero=some z) (hsize:i.size=5) (hby:i.bytes=96) (hzs:z.cells.size=5)
    (K M:List Stm) (v:Value) (b:Option Addr) (c:Nat) (hs:a.eval s=v) (hx:a.eval x=.slice b M.length c) (hk:BarT T B K v w) (hb:StmsP (fun g=>B<=g/\some g ≠ v.ownBlock/\¬ T g) w b M) (hl:K.length+M.length<=1000) (hB:B<=w.heap.size)
    (h:∀ v' w',BarT T B (K++M) v' w'->w.grownBy w' v.ownBlock->(∀ g,v.ownBlock=some g->B<=g)->Kk (a.put o.dst v') w') :
    if Region.wanted o (yielded ops a.tmps)=true then Oper.wp Tryz.prog o a w Kk Q else E:=by
  have hw:Region.wanted o (yielded ops a.tmps)=true:=by simp[Region.wanted,hgd]
  rw[if_pos hw];obtain⟨v',w',hr,h2,h3,h4⟩:=run_append_stmsT (t:=t) (ty:=o.type) w B ht hi hz hsize hby hzs K M v b c hk hb hl hB;unfold Oper.wp execOp;simp only[ho,resolve,invoke,builtin,Sem.run_bind,Sem.run_pure,Result.andThen_ok,List.map_toArray,List.map_cons,List.map_nil,hs,hx,hr];exact h v' w' h2 h3 h4
end Go.Proofs.YtjaeedbjknejdaaGreatDoor.Ex

namespace Go.Proofs.YtjaeedbjknejdaaGreatDoor.Ex
open Go.RowKit Go.Sort Go.Lib Go.Shelf Fx Lx Tr At Pa Go.Proofs.YtjaeedbjknejdaaGreatDoor.Nm
def BlkC (w00:World)(g:Gr)(na ea ca:Option Addr)(nac eac cac wb M:Nat):Prop :=
 ∀ (p:Int) (n k:Nat) (w:World),msr g n k < M->n<=g.N.length->k<=g.C.length->Ext w00 w->w.heap[wb]? = some (boxO 74 g na ea ca nac eac cac n k) ->
  Calls Tryz.prog 28 #[.pointer (some ⟨wb,0,none⟩),.int .i64 p] w fun e w'=>(∃ a c,e=.returned (.slice a (blkT g p n k).1.length c)/\StmsP (w.heap.size <= ·) w' a (blkT g p n k).1/\(blkT g p n k).1.length<=c/\c<=maxLen)/\But wb w w'/\w'.heap[wb]? = some (boxO 74 g na ea ca nac eac cac (blkT g p n k).2.1 (blkT g p n k).2.2)
theorem name16b {n:ByteArray}(h:nameB n.data.toList=true):n.size<=16:=by
 unfold nameB at h;simp only[Bool.and_eq_true,decide_eq_true_eq] at h;rw[size_len];exact h.1.1.2
theorem nd_at {g:Gr}(hok:GrOk g){n:Nat}(h:n < g.N.length):g.N[n].ports.length<=8/\(∀ q ∈ g.N[n].ports,0<=q.2/\q.2<=3/\q.1.size<=1000)/\(0<=g.N[n].w/\g.N[n].w<=1048576)/\(0<=g.N[n].h/\g.N[n].h<=1048576):=by
 obtain⟨-,-,-,h1,h2,h3,h4,-,-,h5⟩:=nd_ok (hok.nd n h);obtain⟨p1,p2⟩:=prt_ok h5;refine⟨p1,fun q hq=>?_,⟨by omega,h2⟩,⟨by omega,h4⟩⟩;obtain⟨k,hk,rfl⟩:=List.getElem_of_mem hq;obtain⟨a,-,b,c⟩:=p2 k hk;exact⟨b,c,Nat.le_trans (name16b a) (by decide)⟩
theorem nodeA_le (x:Nd):(nodeA x).length<=4:=by
 unfold nodeA;simp only[List.length_append];have h:∀ (c:Prop) [Decidable c] (y:Two),(if c then [] else [y]).length<=1:=fun c _ y=>by split <;> simp
 have h1:=h (x.h=10000) (kHeight,fmtB x.h);have h2:=h (x.label=x.name) (kLabel,x.label);have h3:=h (x.ports=[]) (kPorts,portsTx x.ports);have h4:=h (x.w=20000) (kWidth,fmtB x.w);omega
theorem msr_le {g:Gr}(hok:GrOk g)(n k:Nat):msr g n k<=80:=by
 have:=hok.nl;have:=hok.cl;unfold msr;omega
theorem BlkI.ext {w wr w':World}{wb:Nat}{T:TypeId}{g:Gr}{na ea ca:Option Addr}{nac eac cac:Nat}{p:Int}{RL:List Stm}{RS:Nat × Nat}{n k:Nat}{L:List Stm}{v:Value}(h:BlkI w wb T g na ea ca nac eac cac p RL RS n k L v wr)(x:Ext wr w'):BlkI w wb T g na ea ca nac eac cac p RL RS n k L v w':=by
 obtain⟨X,o,c⟩:=h.row.own;exact⟨⟨X,At.own_ext o x,StmsC.keep (fun g hk hlt=>x.block g hlt) (fun g hk _=>hk) _ X c⟩,h.b.ext x,At.heap_ext h.bx x,h.eq,h.lo,h.ll⟩
theorem blk_out {w w':World}{wb:Nat}{T:TypeId}{g:Gr}{na ea ca:Option Addr}{nac eac cac:Nat}{p:Int}{RL:List Stm}{RS:Nat × Nat}{n k:Nat}{L:List Stm}{v:Value}(h:BlkI w wb T g na ea ca nac eac cac p RL RS n k L v w')(hb:blkT g p n k=([],n,k)):
  (∃ a c,Ending.returned v=.returned (.slice a RL.length c)/\StmsP (w.heap.size <= ·) w' a RL/\RL.length<=c/\c<=maxLen)/\But wb w w'/\w'.heap[wb]? = some (boxO T g na ea ca nac eac cac RS.1 RS.2):=by
 have e1:RL=L:=by rw[h.eq.1,hb];simp
 have e2:RS=(n,k):=by rw[h.eq.2,hb]
 rw[e1,e2];obtain⟨X,o,c⟩:=h.row.own;obtain⟨b,cap,e,h1,h2,h3⟩:=own_stms (ok':=fun g=>w.heap.size<=g) o c (fun g hk=>by rcases hk with hk | hk <;> omega) (fun g hk=>hk);exact⟨⟨b,cap,by rw[e],h1,h2,h3⟩,h.b,h.bx⟩
theorem bar_cap {B LN:Nat}{L:List Stm}{s:Stm}{a:Option Addr}{c:Nat}{w:World}(hl:LN=L.length)(h:BarAt B 0 (L++[s]) (.slice a (LN+1) c) w):LN+1<=c/\c<=maxLen:=by
 obtain⟨X,o,-⟩:=h.own;obtain⟨a',c',e,h1,h2⟩:=row_val o;have hl2:(L++[s]).length=LN+1:=by rw[List.length_append,hl];rfl
 rw[hl2] at h1;injection e with _ _ e3;rw[e3];exact⟨h1,h2⟩
theorem blk_step (w00:World)(g:Gr)(na ea ca:Option Addr)(nac eac cac wb M:Nat)(ha:GrIn w00 (.agg #[.string g.name,.bool g.dir,.slice na g.N.length nac,.slice ea g.E.length eac,.slice ca g.C.length cac]) g)(hcp:GrCp w00 (.agg #[.string g.name,.bool g.dir,.slice na g.N.length nac,.slice ea g.E.length eac,.slice ca g.C.length cac]) g)(hsm:GrSm g)(hg0:grE g=0)(he:Env w00)(hwb:w00.heap.size<=wb)(ih:BlkC w00 g na ea ca nac eac cac wb M):BlkC w00 g na ea ca nac eac cac wb (M+1):=by
 intro p n k w hm hn0 hk0 x0 hb0;have hok:=gr_ok hg0;obtain⟨RL,hRL⟩:∃ RL,RL=(blkT g p n k).1:=⟨_,rfl⟩;obtain⟨RS,hRS⟩:∃ RS,RS=(blkT g p n k).2:=⟨_,rfl⟩;rw[<-hRL,<- hRS];obtain⟨j0,hj0,hjz0,hjz1,hjz2⟩:=info_parts info_stm;have hwl:=(Array.getElem?_eq_some_iff.1 hb0).1;have HST:Hid (BlkI w wb 74 g na ea ca nac eac cac p RL RS n k [] (.slice none 0 0) w):=hid ⟨⟨[],World.ownsRow_nil _ _ _ _,rfl⟩,But.refl _ _,hb0,⟨by rw[hRL];rfl,hRS⟩,⟨hn0,hk0⟩,by have:=msr_le hok n k;simpa using Nat.le_trans this (by decide)⟩;have HM:=hid hm;have HA:=hid ha;have HCP:=hid hcp;have HSM:=hid hsm;have HG0:=hid hg0;have HE:=hid he;have HWB:=hid hwb;have HIH:=hid ih;have HOK:=hid hok;have HX0:=hid x0;have HWL:=hid hwl;obtain⟨q,hq⟩:∃ n,n=g.N.length:=⟨_,rfl⟩;obtain⟨el,hel⟩:∃ n,n=g.E.length:=⟨_,rfl⟩
 obtain⟨cl,hcle⟩:∃ n,n=g.C.length:=⟨_,rfl⟩;have HQ:=hid hq.symm;have HEL:=hid hel.symm;have HCL:=hid hcle.symm;have hql:q<=64:=by rw[hq];exact hok.nl
 have hcll:cl<=16:=by rw[hcle];exact hok.cl
 clear hm ha hcp hsm hg0 he hwb ih hok x0 hb0 hn0 hk0 hRL hRS hq hel hcle hwl;go_enter Tryz.func28,Tryz.ntmps28;go_wp2_with fail
 go_loopg [5] (msr g n k) (fun f ov wr=>∃ (n1 k1:Nat) (L:List Stm) (oa:Option Addr) (LN oc:Nat),f=msr g n1 k1/\f<=msr g n k/\ov=.slice oa LN oc/\LN<=oc/\oc<=maxLen/\LN<=100/\Hid (LN=L.length)/\Hid (BlkI w wb 74 g na ea ca nac eac cac p RL RS n1 k1 L (.slice oa LN oc) wr))
 case atStart=>exact⟨n,k,[],none,0,0,rfl,Nat.le_refl _,rfl,Nat.le_refl _,Nat.zero_le _,Nat.zero_le _,hid rfl,HST⟩
 clear HST;obtain⟨n1,k1,L,oa,LN,oc,hf,hf2,rfl,hoc,hom,hLN,HLN,HI⟩:=hrel;have hn1:n1<=q:=by rw[<-HQ.out];exact HI.out.lo.1
 have hk1:k1<=cl:=by rw[<-HCL.out];exact HI.out.lo.2
 have xr:Hid (Ext w00 wr):=hid (But.fresh HX0.out HI.out.b HWB.out);have hrd:=ready_any g na ea ca nac eac cac n1 k1 wb p wr (HA.out.ext xr.out) (HCP.out.ext HA.out xr.out) HSM.out HG0.out HI.out.bx HI.out.lo.2 HI.out.lo.1;by_cases hr:readyT g p n1 k1=true
 ·rw[hr] at hrd;have hkl:=ready_lt hr;have hc:=blk_clu hr;obtain⟨BD,hBD⟩:∃ b,b=blkT g k1 n1 (k1+1):=⟨_,rfl⟩;have hlt:msr g n1 (k1+1) < M:=by have:=HM.out;have:msr g n1 (k1+1)+1=msr g n1 k1:=by { unfold msr;omega };omega
  have hmo:=blk_mono g k1 n1 (k1+1);have hle:=blk_le (p:=(k1:Int)) HI.out.lo.1 (show k1+1<=g.C.length from hkl);have hln:=blk_len (p:=(k1:Int)) HI.out.lo.1 (show k1+1<=g.C.length from hkl);have hm80:=msr_le HOK.out n1 (k1+1);have hih:=fun(w5:World) (x:Ext w00 w5) (hb:w5.heap[wb]? = some (boxO 74 g na ea ca nac eac cac n1 (k1+1)))=>HIH.out k1 n1 (k1+1) w5 hlt HI.out.lo.1 hkl x hb
  simp only[<-hBD] at hc hmo hle hln hih;obtain⟨BL,n2,k2⟩:=BD;dsimp only at hc hmo hle hln hih;obtain⟨na',nac',ea',eac',ca',cac',hv,-,-,a3⟩:=HA.out;cases hv;obtain⟨gc,oc',rfl,kn,-⟩:=a3 k1 hkl;have hnm:(Option.map Prod.fst g.C[k1]?).getD ⟨#[]⟩=g.C[k1].1:=by rw[List.getElem?_eq_getElem hkl];rfl
  rw[hnm] at hc;obtain⟨nm,hnm2⟩:∃ x,x=g.C[k1].1:=⟨_,rfl⟩;rw[<-hnm2] at hc kn;have hkl':k1 < cl:=by rw[<-HCL.out];exact hkl
  have d0:(0:Int)<=(k1:Int):=by omega
  have d1:(k1:Int) < (cl:Int):=by omega
  have hmn:n2<=q:=by rw[<-HQ.out];exact hle.1
  have hmk:k2<=cl:=by rw[<-HCL.out];exact hle.2
  have hme:msr g n2 k2+1<=msr g n1 k1:=by unfold msr;rw[HQ.out,HCL.out];omega
  have HC:=hid hc;have HRD:=hid hrd;have HIH2:=hid hih;have HMO:=hid hmo;have HLE:=hid hle;have HKN:=hid kn;have HBL:=hid (show BL.length<=80 by omega);have HME:=hid hme;have HMB:=hid hBD;clear hc hrd hih hmo hle hln hm80 hlt hBD kn hnm hnm2 hkl hr a3 hme;go_wp2_with (go_at_call 65;refine Calls.mono (by with_reducible exact HRD.out) ?_;rintro e w5 ⟨rfl,x5⟩;have X5:=hid x5;have HI5:=hid (HI.out.ext x5);clear x5;obtain⟨b0,b1,b2,b3,b4,b5,b6⟩:=cells7w HI5.out.bx;have bf:w5.frozen? ⟨wb,6,none⟩=false:=Lib.frozen_of_heap HI5.out.bx 6);obtain⟨w6,hw6⟩:∃ w6,w6=w5.setCell ⟨wb,6,none⟩ (.int .i64 ((k1:Int)+1)):=⟨_,rfl⟩;have B6:Hid (w6.heap[wb]? = some (boxO 74 g na ea (some ⟨gc,oc',none⟩) nac eac cac n1 (k1+1))):=hid (by rw[hw6];exact boxK HI5.out.bx)
  have U6:Hid (But wb wr w6):=hid (by rw[hw6];exact But.setCell (c:=wb) (But.of X5.out) ⟨wb,6,none⟩ rfl _);rw[<-hw6];clear hw6 b0 b1 b2 b3 b4 b5 b6 bf;obtain⟨c0,c1,c2,c3,c4,c5,c6⟩:=cells7w B6.out;rw[show g.C.length=cl from HCL.out] at c4;have X60:Hid (Ext w00 w6):=hid (But.fresh HX0.out (HI.out.b.trans U6.out) HWB.out);have kn:=X60.out.cell HKN.out;go_wp2_with fail;refine wp_region_K (S:=fun w'=>w'.cell? ⟨wb,4,none⟩=some (.slice (some ⟨gc,oc',none⟩) cl cac)/\w'.cell? ⟨gc,oc'+k1 * 2,none⟩=some (.string nm)) (n:=21) (by kernel_rfl) (by exact⟨Ext.cell ((Ext.refl w6).drew) c4,Ext.cell ((Ext.refl w6).drew) kn⟩) (fun hHeld=>?_);refine kU 21 0 rfl hHeld ?_
  (try simp only[Act.put,q1,q2,q3])
  refine kU 21 1 rfl hHeld ?_
  (try simp only[Act.put,q1,q2,q3])
  refine kU 21 2 rfl hHeld ?_
  (try simp only[Act.put,q1,q2,q3])
  refine kU 21 3 rfl hHeld ?_
  (try simp only[Act.put,q1,q2,q3])
  refine kU 21 4 rfl hHeld ?_
  (try simp only[Act.put,q1,q2,q3])
  refine kU 21 5 rfl hHeld ?_
  (try simp only[Act.put,q1,q2,q3])
  refine kU 21 6 rfl hHeld ?_
  (try simp only[Act.put,q1,q2,q3])
  refine kU 21 7 rfl hHeld ?_
  (try simp only[Act.put,q1,q2,q3])
  refine kU 21 8 rfl hHeld ?_
  (try simp only[Act.put,q1,q2,q3])
  refine kU 21 9 rfl hHeld ?_
  (try simp only[Act.put,q1,q2,q3])
  refine kU 21 10 rfl hHeld ?_
  (try simp only[Act.put,q1,q2,q3])
  refine kU 21 11 rfl hHeld ?_
  (try simp only[Act.put,q1,q2,q3])
  refine kU 21 12 rfl hHeld ?_
  (try simp only[Act.put,q1,q2,q3])
  refine kU 21 13 rfl hHeld ?_
  (try simp only[Act.put,q1,q2,q3])
  refine kU 21 14 rfl hHeld ?_
  (try simp only[Act.put,q1,q2,q3])
  refine kU 21 15 rfl hHeld ?_
  (try simp only[Act.put,q1,q2,q3])
  refine kU 21 16 rfl hHeld ?_
  (try simp only[Act.put,q1,q2,q3])
  refine wpAnyK_step (o:=_) (i:=17) rfl (by kernel_rfl) (fun KK hKK=>?_);go_simp
  (go_at_call 28;refine Calls.mono (by with_reducible exact HIH2.out _ (X60.out.drew) (At.heap_ext B6.out ((Ext.refl w6).drew))) ?_;rintro e w7 ⟨⟨ba,bc,rfl,hsp,hl1,hl2⟩,u7,b7⟩)
  have U7:Hid (But wb wr w7):=hid ((U6.out.ext (Ext.refl w6).drew).trans u7);have B7:=hid b7;have X70:Hid (Ext w00 w7):=hid (But.fresh HX0.out (HI.out.b.trans U7.out) HWB.out);have z4:w7.cell? ⟨wb,4,none⟩=some (.slice (some ⟨gc,oc',none⟩) cl cac):=by rw[Lib.cell_of_heap b7,<- HCL.out];rfl
  have zn:=X70.out.cell HKN.out;obtain⟨BN,hBN⟩:∃ n,n=BL.length:=⟨_,rfl⟩;have hSP:Hid (StmP (fun g=>wr.heap.size<=g) w7 (.mk 5 nm [] [] BL) [.int .i64 5,.string nm,.slice none 0 0,.slice none 0 0,.slice ba BN bc]):=hid (by rw[hBN];have s6:=U6.out.size;exact StmP.keep (fun _ _ _=>rfl) (fun g hg _=>Nat.le_trans s6 hg) _ _ (clu_made hsp (Nat.le_trans HBL.out (by unfold maxLen;decide))));have S67:=hid u7.size;rw[<-hBN];clear u7 b7 hsp hBN;refine hKK.out _ _ (fun _=>?_) (fun hH=>?_)
  ·(exact⟨z4,zn⟩)
  clear hHeld;have hHeld:=hH (by decide);clear hKK KK hH;(try dsimp only at hHeld)
  (try simp only[Act.put,q1,q2,q3])
  refine kU 21 18 rfl hHeld ?_
  (try simp only[Act.put,q1,q2,q3])
  refine wpAnyK_step (o:=_) (i:=19) rfl (by kernel_rfl) (fun KK hKK=>?_);go_simp;refine hKK.out _ _ (fun _=>?_) (fun hH=>?_)
  ·(exact⟨Ext.cell ((Ext.refl w7).alloc _) z4,Ext.cell ((Ext.refl w7).alloc _) zn⟩)
  clear hHeld;have hHeld:=hH (by decide);clear hKK KK hH;(try dsimp only at hHeld)
  (try simp only[Act.put,q1,q2,q3])
  refine wpAnyK_step (o:=_) (i:=20) rfl (by kernel_rfl) (fun KK hKK=>?_);obtain⟨X,hown,hrow⟩:=HI.out.row.own;rw[<-HLN.out] at hown;have OW:=hid hown;have HR:=hid hrow;have OW7:=hid (At.own_ext (own_but OW.out U7.out HWL.out) ((Ext.refl w7).alloc (.cells #[.int .i64 5,.string nm,.slice none 0 0,.slice none 0 0,.slice ba BN bc] 67)));clear hown hrow
  refine step_append_full _ (by rfl) _ _ 31 (by rfl) w.heap.size 67 j0 _ 5 96 Tryz.underlying31 hj0 hjz0 hjz1 hjz2 rfl (by decide) oa LN oc X (by rfl) OW7.out ⟨w7.heap.size,0,none⟩ 1 1 [.int .i64 5,.string nm,.slice none 0 0,.slice none 0 0,.slice ba BN bc] (by rfl) (by rfl) (World.news_of_block (cs:=#[.int .i64 5,.string nm,.slice none 0 0,.slice none 0 0,.slice ba BN bc]) (t:=67) (fr:=(0,0)) (heap_alloc_new w7 _)) (by omega) (by unfold maxLen;omega) (by omega) (by have:=HI.out.b.size;have:=U7.out.size;simp;omega) (w7.heap.size+1) (by simp) ?_;intro c7 w9 hown9 hgrow9 hlt9
  have HNX:Hid (BarAt w.heap.size 0 (L++[.mk 5 nm [] [] BL]) (.slice (some ⟨w7.heap.size+1,0,none⟩) (LN+1) c7) w9):=hid (BarAt.nextB HLN.out OW.out HR.out HWL.out HI.out.b.size (U7.out.ext ((Ext.refl w7).alloc (.cells #[.int .i64 5,.string nm,.slice none 0 0,.slice none 0 0,.slice ba BN bc] 67))) (StmP.keep (fun g _ hlt=>((Ext.refl w7).alloc _).block g hlt) (fun _ h _=>h) _ _ hSP.out) rfl (.inl rfl) hgrow9 hown9 (.inr (by simp)));have X79:Hid (Ext w7 w9):=hid (ext_grown ((Ext.refl w7).alloc _) hgrow9 (fun k e=>by cases e));clear hown9 hgrow9;refine hKK.out _ _ (fun _=>?_) (fun hH=>?_)
  ·(exact⟨Ext.cell (X79.out) z4,Ext.cell (X79.out) zn⟩)
  clear hHeld;have hHeld:=hH (by decide);clear hKK KK hH;(try dsimp only at hHeld)
  (try simp only[Act.put,q1,q2,q3])
  refine wpAnyK_step (o:=_) (i:=21) rfl (by kernel_rfl) (fun KK hKK=>?_);go_simp;refine hKK.out _ _ (fun h=>absurd rfl h) (fun _=>?_);clear hKK KK
  (try simp only[Act.put,q1,q2,q3])
  refine wpAnyK_done (by kernel_rfl) ?_ _;obtain⟨hcap1,hcap2⟩:=bar_cap HLN.out HNX.out;go_wp2
  go_roundg (msr g n2 k2)
  case measure=>have:=HME.out;omega
  case rel=>exact⟨n2,k2,_,_,_,_,rfl,by have:=HME.out;omega,rfl,hcap1,hcap2,by have:=HI.out.ll;have:=HME.out;have:=HLN.out;omega,hid (by rw[List.length_append,HLN.out];rfl),hid ⟨HNX.out,(HI.out.b.trans U7.out).ext X79.out,At.heap_ext B7.out X79.out,⟨by rw[HI.out.eq.1,HC.out];simp,by rw[HI.out.eq.2,HC.out]⟩,HLE.out,by have:=HI.out.ll;have:=HME.out;rw[List.length_append];simp;omega⟩⟩
 have hrf:readyT g p n1 k1=false:=Bool.eq_false_iff.2 hr;rw[hrf] at hrd;have HRD:=hid hrd;by_cases hnq:n1 < g.N.length
 ·have hnda:=nd_at HOK.out hnq;have hbn:=fun h=>blk_node (p:=p) hr (List.getElem?_eq_getElem hnq) h
  have hbe:=fun h=>blk_end (p:=p) hr (fun x hx=>by rw[List.getElem?_eq_getElem hnq] at hx;rw[<-Option.some.inj hx];exact h)
  obtain⟨na',nac',ea',eac',ca',cac',hv,a1,-,-⟩:=HA.out;cases hv;obtain⟨gn,on,pa,pc,rfl,k0,kl,kw,kh,kc,kp,kpp⟩:=a1 n1 hnq;have hmn:msr g (n1+1) k1+1=msr g n1 k1:=by unfold msr;omega
  have hnq':n1 < q:=by rw[<-HQ.out];exact hnq
  obtain⟨x,hx⟩:∃ x,x=g.N[n1]:=⟨_,rfl⟩;rw[<-hx] at hnda k0 kl kw kh kc kp kpp;simp only[<-hx] at hbn hbe;have hna:=fun(w5:World) (y:Ext w00 w5)=>nodeA_any x pa pc w5 (kpp.ext y) hnda.1 hnda.2.1 hnda.2.2.1 hnda.2.2.2 (HE.out.ext y)
  obtain⟨AL,hAL⟩:∃ l,l=nodeA x:=⟨_,rfl⟩;have hns:nodeS x=.mk 1 x.name [] AL []:=by rw[hAL];rfl
  have hall:AL.length<=4:=by rw[hAL];exact nodeA_le x
  rw[hns] at hbn;simp only[<-hAL] at hna;obtain⟨xn,xl,xw,xh,xc,xp⟩:=x;dsimp only at hbn hbe k0 kl kw kh kc kp hna hnda;obtain⟨pl,hpl⟩:∃ n,n=xp.length:=⟨_,rfl⟩;rw[<-hpl] at kp;simp only[<-hpl] at hna;have HK0:=hid k0;have HKL:=hid kl;have HKW:=hid kw;have HKH:=hid kh;have HKC:=hid kc;have HKP:=hid kp;have HMN:=hid hmn;have HNA:=hid hna;have HBN:=hid hbn;have HBE:=hid hbe;have q1:decide ((n1:Int) < (q:Int))=true:=decide_eq_true (by omega);have q2:decide (n1 < q)=true:=decide_eq_true hnq';have d0:(0:Int)<=(n1:Int):=by omega
  have d1:(n1:Int) < (q:Int):=by omega
  clear hrd hrf hr hnda hx hns hAL hna hbn hbe k0 kl kw kh kc kp kpp hpl hnq hmn a1;by_cases hcp:xc=p
  ·have f1:(xc == p)=true:=beq_iff_eq.2 hcp;have HB1:=hid (HBN.out hcp);clear HBN HBE hcp;go_wp2_with (go_at_call 65;refine Calls.mono (by with_reducible exact HRD.out) ?_;rintro e w5 ⟨rfl,x5⟩;have X5:=hid x5;have HI5:=hid (HI.out.ext x5);clear x5;obtain⟨b0,b1,b2,b3,b4,b5,b6⟩:=cells7w HI5.out.bx;rw[HQ.out] at b2);have X05:Hid (Ext w00 w5):=hid (xr.out.trans X5.out);have kc:=X05.out.cell HKC.out
   go_quiet (fail)
   obtain⟨w9,hw9⟩:∃ w9,w9=w5.drewN nq:=⟨_,rfl⟩;have X9:Hid (Ext w5 w9):=hid (by rw[hw9];exact(Ext.refl w5).drewN _);rw[<-hw9];clear hw9 b0 b1 b2 b3 b4 b5 b6 kc;have X09:Hid (Ext w00 w9):=hid (X05.out.trans X9.out);have HI9:=hid (HI5.out.ext X9.out);obtain⟨c0,c1,c2,c3,c4,c5,c6⟩:=cells7w HI9.out.bx;rw[HQ.out] at c2;have k0:=X09.out.cell HK0.out;have kl:=X09.out.cell HKL.out;have kw:=X09.out.cell HKW.out;have kh:=X09.out.cell HKH.out;have kc:=X09.out.cell HKC.out;have kp:=X09.out.cell HKP.out;have cf:w9.frozen? ⟨wb,5,none⟩=false:=Lib.frozen_of_heap HI9.out.bx 5;go_wp2_with fail
   refine wp_region_K (S:=fun w'=>w'.cell? ⟨wb,2,none⟩=some (.slice (some ⟨gn,on,none⟩) q nac)/\w'.cell? ⟨wb,5,none⟩=some (.int .i64 n1)/\w'.cell? ⟨gn,on+n1 * 6,none⟩=some (.string xn)/\w'.cell? ⟨gn,on+n1 * 6+1,none⟩=some (.string xl)/\w'.cell? ⟨gn,on+n1 * 6+2,none⟩=some (.int .i64 xw)/\w'.cell? ⟨gn,on+n1 * 6+3,none⟩=some (.int .i64 xh)/\w'.cell? ⟨gn,on+n1 * 6+4,none⟩=some (.int .i64 xc)/\w'.cell? ⟨gn,on+n1 * 6+5,none⟩=some (.slice pa pl pc)) (n:=12) (by kernel_rfl) (by exact⟨Ext.cell ((Ext.refl w9).drew) c2,Ext.cell ((Ext.refl w9).drew) c5,Ext.cell ((Ext.refl w9).drew) k0,Ext.cell ((Ext.refl w9).drew) kl,Ext.cell ((Ext.refl w9).drew) kw,Ext.cell ((Ext.refl w9).drew) kh,Ext.cell ((Ext.refl w9).drew) kc,Ext.cell ((Ext.refl w9).drew) kp⟩) (fun hHeld=>?_);refine kU 12 0 rfl hHeld ?_
   (try simp only[Act.put,q1,q2,q3])
   refine kU 12 1 rfl hHeld ?_
   (try simp only[Act.put,q1,q2,q3])
   refine kU 12 2 rfl hHeld ?_
   (try simp only[Act.put,q1,q2,q3])
   refine kU 12 3 rfl hHeld ?_
   (try simp only[Act.put,q1,q2,q3])
   refine kU 12 4 rfl hHeld ?_
   (try simp only[Act.put,q1,q2,q3])
   refine kU 12 5 rfl hHeld ?_
   (try simp only[Act.put,q1,q2,q3])
   refine kU 12 6 rfl hHeld ?_
   (try simp only[Act.put,q1,q2,q3])
   refine kU 12 7 rfl hHeld ?_
   (try simp only[Act.put,q1,q2,q3])
   refine kU 12 8 rfl hHeld ?_
   (try simp only[Act.put,q1,q2,q3])
   refine kU 12 9 rfl hHeld ?_
   (try simp only[Act.put,q1,q2,q3])
   refine kU 12 10 rfl hHeld ?_
   (try simp only[Act.put,q1,q2,q3])
   refine wpAnyK_step (o:=_) (i:=11) rfl (by kernel_rfl) (fun KK hKK=>?_);go_simp;refine hKK.out _ _ (fun _=>?_) (fun hH=>?_)
   ·(exact⟨Ext.cell (((Ext.refl w9).drew.alloc _)) c2,Ext.cell (((Ext.refl w9).drew.alloc _)) c5,Ext.cell (((Ext.refl w9).drew.alloc _)) k0,Ext.cell (((Ext.refl w9).drew.alloc _)) kl,Ext.cell (((Ext.refl w9).drew.alloc _)) kw,Ext.cell (((Ext.refl w9).drew.alloc _)) kh,Ext.cell (((Ext.refl w9).drew.alloc _)) kc,Ext.cell (((Ext.refl w9).drew.alloc _)) kp⟩)
   clear hHeld;have hHeld:=hH (by decide);clear hKK KK hH;(try dsimp only at hHeld)
   (try simp only[Act.put,q1,q2,q3])
   refine wpAnyK_step (o:=_) (i:=12) rfl (by kernel_rfl) (fun KK hKK=>?_);go_simp;refine hKK.out _ _ (fun h=>absurd rfl h) (fun _=>?_);clear hKK KK
   (try simp only[Act.put,q1,q2,q3])
   refine wpAnyK_done (by kernel_rfl) ?_ _;obtain⟨nb,hnb⟩:∃ n,n=w9.heap.size:=⟨_,rfl⟩;obtain⟨w10,hw10⟩:∃ w',w'=(w9.alloc (.cells #[.string xn,.string xl,.int .i64 xw,.int .i64 xh,.int .i64 xc,.slice pa pl pc] 59)).drew:=⟨_,rfl⟩;have G10:Hid (w10.heap[nb]? = some (.cells #[.string xn,.string xl,.int .i64 xw,.int .i64 xh,.int .i64 xc,.slice pa pl pc] 59 (0,0))):=hid (by rw[hw10,hnb];exact heap_alloc_new w9 _);have X10:Hid (Ext w5 w10):=hid (by rw[hw10];exact(X9.out.alloc _).drew);have NB:Hid (wb < nb):=hid (by rw[hnb];exact(Array.getElem?_eq_some_iff.1 HI9.out.bx).1);rw[<-hnb,<- hw10];clear hnb hw10 hHeld c0 c1 c2 c3 c4 c5 c6 k0 kl kw kh kc kp cf;have HI10:=hid (HI5.out.ext X10.out);obtain⟨c0,c1,c2,c3,c4,c5,c6⟩:=cells7w HI10.out.bx;have cf:w10.frozen? ⟨wb,5,none⟩=false:=Lib.frozen_of_heap HI10.out.bx 5
   go_wp2_with fail;obtain⟨w11,hw11⟩:∃ w6,w6=w10.setCell ⟨wb,5,none⟩ (.int .i64 ((n1:Int)+1)):=⟨_,rfl⟩;have B6:Hid (w11.heap[wb]? = some (boxO 74 g (some ⟨gn,on,none⟩) ea ca nac eac cac (n1+1) k1)):=hid (by rw[hw11];exact boxN HI10.out.bx);have U6:Hid (But wb wr w11):=hid (by rw[hw11];exact But.setCell (c:=wb) (But.of (X5.out.trans X10.out)) ⟨wb,5,none⟩ rfl _);have G11:Hid (w11.heap[nb]? = some (.cells #[.string xn,.string xl,.int .i64 xw,.int .i64 xh,.int .i64 xc,.slice pa pl pc] 59 (0,0))):=hid (by rw[hw11,Below.heap_setCell _ _ _ _ (Nat.ne_of_gt NB.out)];exact G10.out);rw[<-hw11];clear hw11 c0 c1 c2 c3 c4 c5 c6 cf;obtain⟨c0,c1,c2,c3,c4,c5⟩:=cells6b G11.out;have X60:Hid (Ext w00 w11):=hid (But.fresh HX0.out (HI.out.b.trans U6.out) HWB.out);go_wp2_with fail
   refine wp_region_K (S:=fun w'=>w'.cell? ⟨nb,0,none⟩=some (.string xn)/\w'.cell? ⟨nb,1,none⟩=some (.string xl)/\w'.cell? ⟨nb,2,none⟩=some (.int .i64 xw)/\w'.cell? ⟨nb,3,none⟩=some (.int .i64 xh)/\w'.cell? ⟨nb,4,none⟩=some (.int .i64 xc)/\w'.cell? ⟨nb,5,none⟩=some (.slice pa pl pc)) (n:=13) (by kernel_rfl) (by exact⟨Ext.cell ((Ext.refl w11).drew) c0,Ext.cell ((Ext.refl w11).drew) c1,Ext.cell ((Ext.refl w11).drew) c2,Ext.cell ((Ext.refl w11).drew) c3,Ext.cell ((Ext.refl w11).drew) c4,Ext.cell ((Ext.refl w11).drew) c5⟩) (fun hHeld=>?_);refine kU 13 0 rfl hHeld ?_
   (try simp only[Act.put,q1,q2,q3])
   refine kU 13 1 rfl hHeld ?_
   (try simp only[Act.put,q1,q2,q3])
   refine kU 13 2 rfl hHeld ?_
   (try simp only[Act.put,q1,q2,q3])
   refine kU 13 3 rfl hHeld ?_
   (try simp only[Act.put,q1,q2,q3])
   refine kU 13 4 rfl hHeld ?_
   (try simp only[Act.put,q1,q2,q3])
   refine kU 13 5 rfl hHeld ?_
   (try simp only[Act.put,q1,q2,q3])
   refine kU 13 6 rfl hHeld ?_
   (try simp only[Act.put,q1,q2,q3])
   refine kU 13 7 rfl hHeld ?_
   (try simp only[Act.put,q1,q2,q3])
   refine kU 13 8 rfl hHeld ?_
   (try simp only[Act.put,q1,q2,q3])
   refine wpAnyK_step (o:=_) (i:=9) rfl (by kernel_rfl) (fun KK hKK=>?_);go_simp
   (go_at_call 66;refine Calls.mono (by with_reducible exact HNA.out _ (X60.out.drew)) ?_;rintro e w12 ⟨⟨v,rfl,hat⟩,x12⟩)
   obtain⟨va,vc,rfl,htp,hl1,hl2⟩:=own_atV hat;have X12:Hid (Ext w11 w12):=hid ((Ext.refl w11).drew.trans x12);have U12:Hid (But wb wr w12):=hid (U6.out.ext X12.out);obtain⟨AN,hAN⟩:∃ n,n=AL.length:=⟨_,rfl⟩;have hSP:Hid (StmP (fun g=>wr.heap.size<=g) w12 (.mk 1 xn [] AL []) [.int .i64 1,.string xn,.slice none 0 0,.slice va AN vc,.slice none 0 0]):=hid (by rw[hAN];have s6:=U6.out.size;exact StmP.keep (fun _ _ _=>rfl) (fun g hg _=>Nat.le_trans s6 hg) _ _ (stm_made (twoP_nil _ _) htp (Nat.le_refl _) hl1 (Nat.zero_le _) hl2));rw[<-hAN];clear x12 hat htp hAN;refine hKK.out _ _ (fun _=>?_) (fun hH=>?_)
   ·(exact⟨Ext.cell (X12.out) c0,Ext.cell (X12.out) c1,Ext.cell (X12.out) c2,Ext.cell (X12.out) c3,Ext.cell (X12.out) c4,Ext.cell (X12.out) c5⟩)
   clear hHeld;have hHeld:=hH (by decide);clear hKK KK hH;(try dsimp only at hHeld)
   (try simp only[Act.put,q1,q2,q3])
   refine kU 13 10 rfl hHeld ?_
   (try simp only[Act.put,q1,q2,q3])
   refine wpAnyK_step (o:=_) (i:=11) rfl (by kernel_rfl) (fun KK hKK=>?_);go_simp;refine hKK.out _ _ (fun _=>?_) (fun hH=>?_)
   ·(exact⟨Ext.cell (X12.out.alloc _) c0,Ext.cell (X12.out.alloc _) c1,Ext.cell (X12.out.alloc _) c2,Ext.cell (X12.out.alloc _) c3,Ext.cell (X12.out.alloc _) c4,Ext.cell (X12.out.alloc _) c5⟩)
   clear hHeld;have hHeld:=hH (by decide);clear hKK KK hH;(try dsimp only at hHeld)
   (try simp only[Act.put,q1,q2,q3])
   refine wpAnyK_step (o:=_) (i:=12) rfl (by kernel_rfl) (fun KK hKK=>?_);obtain⟨X,hown,hrow⟩:=HI.out.row.own;rw[<-HLN.out] at hown;have OW:=hid hown;have HR:=hid hrow;have OW7:=hid (At.own_ext (own_but OW.out U12.out HWL.out) ((Ext.refl w12).alloc (.cells #[.int .i64 1,.string xn,.slice none 0 0,.slice va AN vc,.slice none 0 0] 67)));clear hown hrow
   refine step_append_full _ (by rfl) _ _ 31 (by rfl) w.heap.size 67 j0 _ 5 96 Tryz.underlying31 hj0 hjz0 hjz1 hjz2 rfl (by decide) oa LN oc X (by rfl) OW7.out ⟨w12.heap.size,0,none⟩ 1 1 [.int .i64 1,.string xn,.slice none 0 0,.slice va AN vc,.slice none 0 0] (by rfl) (by rfl) (World.news_of_block (cs:=#[.int .i64 1,.string xn,.slice none 0 0,.slice va AN vc,.slice none 0 0]) (t:=67) (fr:=(0,0)) (heap_alloc_new w12 _)) (by omega) (by unfold maxLen;omega) (by omega) (by have:=HI.out.b.size;have:=U12.out.size;simp;omega) (w12.heap.size+1) (by simp) ?_;intro c7 w13 hown9 hgrow9 hlt9
   have HNX:Hid (BarAt w.heap.size 0 (L++[.mk 1 xn [] AL []]) (.slice (some ⟨w12.heap.size+1,0,none⟩) (LN+1) c7) w13):=hid (BarAt.nextB HLN.out OW.out HR.out HWL.out HI.out.b.size (U12.out.ext ((Ext.refl w12).alloc (.cells #[.int .i64 1,.string xn,.slice none 0 0,.slice va AN vc,.slice none 0 0] 67))) (StmP.keep (fun g _ hlt=>((Ext.refl w12).alloc _).block g hlt) (fun _ h _=>h) _ _ hSP.out) rfl (.inl rfl) hgrow9 hown9 (.inr (by simp)));have X79:Hid (Ext w12 w13):=hid (ext_grown ((Ext.refl w12).alloc _) hgrow9 (fun k e=>by cases e));have z0:=X79.out.cell (X12.out.cell c0);have z1:=X79.out.cell (X12.out.cell c1);have z2:=X79.out.cell (X12.out.cell c2);have z3:=X79.out.cell (X12.out.cell c3);have z4:=X79.out.cell (X12.out.cell c4);have z5:=X79.out.cell (X12.out.cell c5);clear hown9 hgrow9;refine hKK.out _ _ (fun _=>?_) (fun hH=>?_)
   ·(exact⟨z0,z1,z2,z3,z4,z5⟩)
   clear hHeld;have hHeld:=hH (by decide);clear hKK KK hH;(try dsimp only at hHeld)
   (try simp only[Act.put,q1,q2,q3])
   refine wpAnyK_step (o:=_) (i:=13) rfl (by kernel_rfl) (fun KK hKK=>?_);go_simp;refine hKK.out _ _ (fun h=>absurd rfl h) (fun _=>?_);clear hKK KK
   (try simp only[Act.put,q1,q2,q3])
   refine wpAnyK_done (by kernel_rfl) ?_ _;obtain⟨hcap1,hcap2⟩:=bar_cap HLN.out HNX.out;go_wp2
   go_roundg (msr g (n1+1) k1)
   case measure=>have:=HMN.out;omega
   case rel=>exact⟨n1+1,k1,_,_,_,_,rfl,by have:=HMN.out;omega,rfl,hcap1,hcap2,by have:=HI.out.ll;have:=HMN.out;have:=HLN.out;omega,hid (by rw[List.length_append,HLN.out];rfl),hid ⟨HNX.out,HI.out.b.trans (U12.out.ext X79.out),At.heap_ext B6.out (X12.out.trans X79.out),⟨by rw[HI.out.eq.1,HB1.out];simp,by rw[HI.out.eq.2,HB1.out]⟩,⟨by rw[HQ.out];exact hnq',HI.out.lo.2⟩,by have:=HI.out.ll;have:=HMN.out;rw[List.length_append];simp;omega⟩⟩
  have f1:(xc == p)=false:=beq_eq_false_iff_ne.2 hcp;have HB1:=hid (HBE.out hcp);clear HBN HBE hcp;go_wp2_with (go_at_call 65;refine Calls.mono (by with_reducible exact HRD.out) ?_;rintro e w5 ⟨rfl,x5⟩;have X5:=hid x5;have HI5:=hid (HI.out.ext x5);clear x5;obtain⟨b0,b1,b2,b3,b4,b5,b6⟩:=cells7w HI5.out.bx;rw[HQ.out] at b2);have X05:Hid (Ext w00 w5):=hid (xr.out.trans X5.out);have kc:=X05.out.cell HKC.out
  go_quiet (fail)
  go_wp2;go_returns;exact blk_out (HI5.out.ext ((Ext.refl w5).drewN _)) HB1.out
 have hb:=blk_end (p:=p) hr (fun x hx=>absurd (List.getElem?_eq_some_iff.1 hx).1 hnq);have HB1:=hid hb;have q1:decide ((n1:Int) < (q:Int))=false:=decide_eq_false (by have:=HQ.out;omega);have q2:decide (n1 < q)=false:=decide_eq_false (by rw[<-HQ.out];exact hnq);clear hrd hrf hr hnq hb;go_wp2_with (go_at_call 65;refine Calls.mono (by with_reducible exact HRD.out) ?_;rintro e w5 ⟨rfl,x5⟩;have X5:=hid x5;have HI5:=hid (HI.out.ext x5);clear x5;obtain⟨b0,b1,b2,b3,b4,b5,b6⟩:=cells7w HI5.out.bx;rw[HQ.out] at b2);have X05:Hid (Ext w00 w5):=hid (xr.out.trans X5.out)
 go_quiet (fail)
 go_wp2;go_returns;exact blk_out (HI5.out.ext ((Ext.refl w5).drewN _)) HB1.out
theorem blk_all (w00:World)(g:Gr)(na ea ca:Option Addr)(nac eac cac wb:Nat)(ha:GrIn w00 (.agg #[.string g.name,.bool g.dir,.slice na g.N.length nac,.slice ea g.E.length eac,.slice ca g.C.length cac]) g)(hcp:GrCp w00 (.agg #[.string g.name,.bool g.dir,.slice na g.N.length nac,.slice ea g.E.length eac,.slice ca g.C.length cac]) g)(hsm:GrSm g)(hg0:grE g=0)(he:Env w00)(hwb:w00.heap.size<=wb):∀ M,BlkC w00 g na ea ca nac eac cac wb M
 | 0=>fun _ _ _ _ h=>absurd h (Nat.not_lt_zero _)
 | M+1=>blk_step w00 g na ea ca nac eac cac wb M ha hcp hsm hg0 he hwb (blk_all w00 g na ea ca nac eac cac wb ha hcp hsm hg0 he hwb M)
end Go.Proofs.YtjaeedbjknejdaaGreatDoor.Ex
