/- Packed texts: ExpTreC, ExpFew, TreOpen, ParOpen, NorOpA -/
import Derived.Test.YtjaeedbjknejdaaGreatDoorPu39
import Derived.Test.YtjaeedbjknejdaaGreatDoorPu46
import Derived.Deep.Slices
import Derived.OpenShut
import Derived.SizedLaws
import Derived.Lib.SmallJoins
set_option linter.unusedVariables false
set_option linter.unusedSimpArgs false
set_option maxHeartbeats 16000000
set_option maxRecDepth 100000
namespace Go.Proofs.YtjaeedbjknejdaaGreatDoor.Ex
open Go Go.RowKit Go.Sort Go.Lib Go.Shelf Fx Lx Tr At Pa Go.Proofs.YtjaeedbjknejdaaGreatDoor.Nm
theorem tree_bad {g:Gr}{o:Op5}(h:grE g ≠ 0\/inR5 o=false):treeT g o=.error 1:=by unfold treeT;rw[if_pos h]
theorem treeP_all (g:Gr)(na ea ca:Option Addr)(nac eac cac:Nat)(o:Op5)(w:World)(ha:GrIn w (.agg #[.string g.name,.bool g.dir,.slice na g.N.length nac,.slice ea g.E.length eac,.slice ca g.C.length cac]) g)(hcp:GrCp w (.agg #[.string g.name,.bool g.dir,.slice na g.N.length nac,.slice ea g.E.length eac,.slice ca g.C.length cac]) g)(hsm:GrSm g)(he:Env w):
    Calls Tryz.prog 10 #[.agg #[.string g.name,.bool g.dir,.slice na g.N.length nac,.slice ea g.E.length eac,.slice ca g.C.length cac],opV o] w fun e w'=>TreeR g (treeT g o) w.heap.size e w'/\Ext w w':=by
  by_cases hb:grE g ≠ 0\/inR5 o=false
  · rw[tree_bad hb];exact(treeA_bad g na ea ca nac eac cac o w ha hcp hsm hb).mono fun e w' h=>h
  have h1:grE g=0:=Classical.not_not.1 fun e=>hb (.inl e)
  have h2:inR5 o=true:=by
    cases e:inR5 o
    · exact absurd (.inr e) hb
    rfl
  exact treeA_good g na ea ca nac eac cac o w ha hcp hsm h1 h2 he
theorem treeD_all (g:Gr)(na ea ca:Option Addr)(nac eac cac:Nat)(o:Op5)(w:World)(ha:GrIn w (.agg #[.string g.name,.bool g.dir,.slice na g.N.length nac,.slice ea g.E.length eac,.slice ca g.C.length cac]) g)(hsm:GrSm g):
    Calls Tryz.prog 11 #[.agg #[.string g.name,.bool g.dir,.slice na g.N.length nac,.slice ea g.E.length eac,.slice ca g.C.length cac],opV o] w fun e w'=>TreeR g (treeT g o) w.heap.size e w'/\Ext w w':=by
  by_cases hb:grE g ≠ 0\/inR5 o=false
  · rw[tree_bad hb];exact(treeR_bad g na ea ca nac eac cac o w ha hsm hb).mono fun e w' h=>h
  have h1:grE g=0:=Classical.not_not.1 fun e=>hb (.inl e)
  have h2:inR5 o=true:=by
    cases e:inR5 o
    · exact absurd (.inr e) hb
    rfl
  exact treeR_good g na ea ca nac eac cac o w ha hsm h1 h2
theorem treeR_ok {g:Gr}{L:List Stm}{m:Nat}{e:Ending}{w':World}(h:TreeR g (.ok L) m e w'):∃ b c,e=.returned (.tuple #[.agg #[.string g.name,.bool g.dir,.slice b L.length c],.int .i64 0])/\StmsAt w'.heap.size w' b L/\L.length<=c/\c<=maxLen:=by
  obtain⟨b,c,h1,h2,h3⟩:=h;exact⟨b,c,h1,stmsV_at h2,h3⟩
def textG (g:Gr)(o:Op5):Except Int (List UInt8):=match treeT g o with
  | .error n=>.error n
  | .ok B=>if 16384 < (printT g.dir g.name B).length then .error 2 else .ok (printT g.dir g.name B)
def TextR (r:Except Int (List UInt8))(e:Ending):Prop:=match r with
  | .ok s=>e=.returned (.tuple #[.string ⟨s.toArray⟩,.int .i64 0])
  | .error n=>e=.returned (.tuple #[.string ⟨#[]⟩,.int .i64 n])
theorem tree_err {g:Gr}{o:Op5}{n:Int}(h:treeT g o=.error n):n ≠ 0:=by
  unfold treeT at h;split at h
  · injection h with h;subst h;decide
  split at h
  · injection h with h;subst h;decide
  split at h
  · rename_i h3;injection h with h;subst h;exact h3
  cases h
theorem textP_all (g:Gr)(na ea ca:Option Addr)(nac eac cac:Nat)(o:Op5)(w:World)(ha:GrIn w (.agg #[.string g.name,.bool g.dir,.slice na g.N.length nac,.slice ea g.E.length eac,.slice ca g.C.length cac]) g)(hcp:GrCp w (.agg #[.string g.name,.bool g.dir,.slice na g.N.length nac,.slice ea g.E.length eac,.slice ca g.C.length cac]) g)(hsm:GrSm g)(he:Env w):
    Calls Tryz.prog 13 #[.agg #[.string g.name,.bool g.dir,.slice na g.N.length nac,.slice ea g.E.length eac,.slice ca g.C.length cac],opV o] w fun e w'=>TextR (textG g o) e/\Ext w w':=by
  have htr:=fun(w5:World) (x:Ext w w5)=>treeP_all g na ea ca nac eac cac o w5 (ha.ext x) (hcp.ext ha x) hsm (he.ext x)
  have herr:=fun(n:Int) (h:treeT g o=.error n)=>tree_err h
  have hprt:=fun(B:List Stm) (h:treeT g o=.ok B) (b:Option Addr) (c:Nat) (w5:World) (x:Ext w w5) (hst:StmsAt w5.heap.size w5 b B)=>by
    obtain⟨-,-,-,hv,-,hs1,hs2,-⟩:=tree_ok h;have:=print_any g.name g.dir b B c w5 (he.ext x) hst hs2 (by omega) (fun _=>printT_len g.dir g.name B (by omega) hs2);rw[if_pos hv] at this;exact this
  unfold textG;obtain⟨R,hR⟩:∃ R,R=treeT g o:=⟨_,rfl⟩;rw[<-hR];simp only[<-hR] at htr herr hprt;obtain⟨q,hq⟩:∃ n,n=g.N.length:=⟨_,rfl⟩;obtain⟨el,hel⟩:∃ n,n=g.E.length:=⟨_,rfl⟩;obtain⟨cl,hcle⟩:∃ n,n=g.C.length:=⟨_,rfl⟩;simp only[<-hq,<- hel,<- hcle] at htr ⊢;obtain⟨mo,ns,rs,mg,rd⟩:=o;unfold opV at htr ⊢;dsimp only at htr ⊢;have X0:Hid (Ext w ((w.alloc (.cells #[.string g.name,.bool g.dir,.slice na q nac,.slice ea el eac,.slice ca cl cac] 26)).alloc (.cells #[.int .i64 mo,.int .i64 ns,.int .i64 rs,.int .i64 mg,.int .i64 rd] 28))):=Lib.hid (((Ext.refl _).alloc _).alloc _);cases R with
  | error n =>
    obtain⟨f1,f2⟩:=nfacts (herr n rfl);have HTR:=Lib.hid htr;clear htr herr hprt hR ha hsm hcp he hq hel hcle;dsimp only;go_enter Tryz.func13,Tryz.ntmps13;go_wp2_with (go_at_call 10;refine Calls.mono (by exact HTR.out _ X0.out) ?_;rintro e w1 ⟨hr,x1⟩;have hr:e=.returned (.tuple #[tr0V,.int .i64 n]):=hr;subst hr;unfold tr0V);go_returns;exact⟨rfl,X0.out.trans (x1.alloc _)⟩
  | ok B =>
    have HTR:=Lib.hid (fun(w5:World) (x:Ext w w5)=>(htr w5 x).mono (fun e w' h=>And.intro (treeR_ok h.1) h.2));have HPR:=Lib.hid (hprt B rfl);dsimp only;obtain⟨P,hP⟩:∃ P,P=bs (printT g.dir g.name B):=⟨_,rfl⟩;have hPl:P.size=(printT g.dir g.name B).length:=by rw[hP];rfl
    have hPe:(⟨(printT g.dir g.name B).toArray⟩:ByteArray)=P:=by rw[hP]
    rw[hPe] at HPR;have HR:Hid (TextR (if 16384 < (printT g.dir g.name B).length then .error 2 else .ok (printT g.dir g.name B))=TextR (if 16384 < P.size then .error 2 else .ok P.data.toList)):=Lib.hid (by rw[hPl,hP]);rw[HR.out];clear htr herr hprt hR ha hsm hcp he hq hel hcle HR hPl hPe hP;have HBL:Hid (∃ n,n=B.length):=Lib.hid ⟨_,rfl⟩;generalize g.name=GN at *;generalize g.dir=GD at *;have STEP:∀ (w1:World) (b:Option Addr) (c:Nat),Ext w w1->StmsAt w1.heap.size w1 b B->Hid (Calls Tryz.prog 37 #[.agg #[.string GN,.bool GD,.slice b B.length c]] (w1.alloc (.cells #[.string GN,.bool GD,.slice b B.length c] 33)) fun e w'=>e=.returned (.string P)/\Ext (w1.alloc (.cells #[.string GN,.bool GD,.slice b B.length c] 33)) w'):=fun w1 b c x h=>Lib.hid (HPR.out b c _ (x.alloc _) (StmsAt.mono (by simp) B (StmsAt.below ((Ext.refl w1).alloc _) B h)))
    clear HPR;generalize B.length=N at *;by_cases hb:16384 < P.size
    · have g1:(16384:Int) < P.size:=by omega
      rw[if_pos hb];clear hb;go_enter Tryz.func13,Tryz.ntmps13
      go_wp2_with (first
        | (go_at_call 10;refine Calls.mono (by exact HTR.out _ X0.out) ?_;rintro e w1 ⟨⟨b,c,rfl,hst,-,-⟩,x1⟩;have X1:=Lib.hid (X0.out.trans x1);have HST:=STEP _ b c X1.out hst;clear hst)
        | (go_at_call 37;refine HST.out.mono ?_;rintro e w2 ⟨rfl,x2⟩))
      go_returns;exact⟨rfl,(X1.out.alloc _).trans x2⟩
    · have g1:¬ (16384:Int) < P.size:=by omega
      rw[if_neg hb];clear hb;go_enter Tryz.func13,Tryz.ntmps13
      go_wp2_with (first
        | (go_at_call 10;refine Calls.mono (by exact HTR.out _ X0.out) ?_;rintro e w1 ⟨⟨b,c,rfl,hst,-,-⟩,x1⟩;have X1:=Lib.hid (X0.out.trans x1);have HST:=STEP _ b c X1.out hst;clear hst)
        | (go_at_call 37;refine HST.out.mono ?_;rintro e w2 ⟨rfl,x2⟩))
      go_returns;exact⟨rfl,(X1.out.alloc _).trans x2⟩
theorem textD_all (g:Gr)(na ea ca:Option Addr)(nac eac cac:Nat)(o:Op5)(w:World)(ha:GrIn w (.agg #[.string g.name,.bool g.dir,.slice na g.N.length nac,.slice ea g.E.length eac,.slice ca g.C.length cac]) g)(hsm:GrSm g):
    Calls Tryz.prog 14 #[.agg #[.string g.name,.bool g.dir,.slice na g.N.length nac,.slice ea g.E.length eac,.slice ca g.C.length cac],opV o] w fun e w'=>TextR (textG g o) e/\Ext w w':=by
  have htr:=fun(w5:World) (x:Ext w w5)=>treeD_all g na ea ca nac eac cac o w5 (ha.ext x) hsm
  have herr:=fun(n:Int) (h:treeT g o=.error n)=>tree_err h
  have hprt:=fun(B:List Stm) (h:treeT g o=.ok B) (b:Option Addr) (c:Nat) (w5:World) (x:Ext w w5) (hst:StmsAt w5.heap.size w5 b B)=>by
    obtain⟨-,-,-,hv,-,hs1,hs2,-⟩:=tree_ok h;have:=printR_any g.name g.dir b B c w5.heap.size w5 (Nat.le_refl _) hst hs2 (by omega) (fun _=>printT_len g.dir g.name B (by omega) hs2);rw[if_pos hv] at this;exact this
  unfold textG;obtain⟨R,hR⟩:∃ R,R=treeT g o:=⟨_,rfl⟩;rw[<-hR];simp only[<-hR] at htr herr hprt;obtain⟨q,hq⟩:∃ n,n=g.N.length:=⟨_,rfl⟩;obtain⟨el,hel⟩:∃ n,n=g.E.length:=⟨_,rfl⟩;obtain⟨cl,hcle⟩:∃ n,n=g.C.length:=⟨_,rfl⟩;simp only[<-hq,<- hel,<- hcle] at htr ⊢;obtain⟨mo,ns,rs,mg,rd⟩:=o;unfold opV at htr ⊢;dsimp only at htr ⊢;have X0:Hid (Ext w ((w.alloc (.cells #[.string g.name,.bool g.dir,.slice na q nac,.slice ea el eac,.slice ca cl cac] 26)).alloc (.cells #[.int .i64 mo,.int .i64 ns,.int .i64 rs,.int .i64 mg,.int .i64 rd] 28))):=Lib.hid (((Ext.refl _).alloc _).alloc _);cases R with
  | error n =>
    obtain⟨f1,f2⟩:=nfacts (herr n rfl);have HTR:=Lib.hid htr;clear htr herr hprt hR ha hsm hq hel hcle;dsimp only;go_enter Tryz.func14,Tryz.ntmps14;go_wp2_with (go_at_call 11;refine Calls.mono (by exact HTR.out _ X0.out) ?_;rintro e w1 ⟨hr,x1⟩;have hr:e=.returned (.tuple #[tr0V,.int .i64 n]):=hr;subst hr;unfold tr0V);go_returns;exact⟨rfl,X0.out.trans (x1.alloc _)⟩
  | ok B =>
    have HTR:=Lib.hid (fun(w5:World) (x:Ext w w5)=>(htr w5 x).mono (fun e w' h=>And.intro (treeR_ok h.1) h.2));have HPR:=Lib.hid (hprt B rfl);dsimp only;obtain⟨P,hP⟩:∃ P,P=bs (printT g.dir g.name B):=⟨_,rfl⟩;have hPl:P.size=(printT g.dir g.name B).length:=by rw[hP];rfl
    have hPe:(⟨(printT g.dir g.name B).toArray⟩:ByteArray)=P:=by rw[hP]
    rw[hPe] at HPR;have HR:Hid (TextR (if 16384 < (printT g.dir g.name B).length then .error 2 else .ok (printT g.dir g.name B))=TextR (if 16384 < P.size then .error 2 else .ok P.data.toList)):=Lib.hid (by rw[hPl,hP]);rw[HR.out];clear htr herr hprt hR ha hsm hq hel hcle HR hPl hPe hP;have HBL:Hid (∃ n,n=B.length):=Lib.hid ⟨_,rfl⟩;generalize g.name=GN at *;generalize g.dir=GD at *;have STEP:∀ (w1:World) (b:Option Addr) (c:Nat),Ext w w1->StmsAt w1.heap.size w1 b B->Hid (Calls Tryz.prog 38 #[.agg #[.string GN,.bool GD,.slice b B.length c]] (w1.alloc (.cells #[.string GN,.bool GD,.slice b B.length c] 33)) fun e w'=>e=.returned (.string P)/\Ext (w1.alloc (.cells #[.string GN,.bool GD,.slice b B.length c] 33)) w'):=fun w1 b c x h=>Lib.hid (HPR.out b c _ (x.alloc _) (StmsAt.mono (by simp) B (StmsAt.below ((Ext.refl w1).alloc _) B h)))
    clear HPR;generalize B.length=N at *;by_cases hb:16384 < P.size
    · have g1:(16384:Int) < P.size:=by omega
      rw[if_pos hb];clear hb;go_enter Tryz.func14,Tryz.ntmps14
      go_wp2_with (first
        | (go_at_call 11;refine Calls.mono (by exact HTR.out _ X0.out) ?_;rintro e w1 ⟨⟨b,c,rfl,hst,-,-⟩,x1⟩;have X1:=Lib.hid (X0.out.trans x1);have HST:=STEP _ b c X1.out hst;clear hst)
        | (go_at_call 38;refine HST.out.mono ?_;rintro e w2 ⟨rfl,x2⟩))
      go_returns;exact⟨rfl,(X1.out.alloc _).trans x2⟩
    · have g1:¬ (16384:Int) < P.size:=by omega
      rw[if_neg hb];clear hb;go_enter Tryz.func14,Tryz.ntmps14
      go_wp2_with (first
        | (go_at_call 11;refine Calls.mono (by exact HTR.out _ X0.out) ?_;rintro e w1 ⟨⟨b,c,rfl,hst,-,-⟩,x1⟩;have X1:=Lib.hid (X0.out.trans x1);have HST:=STEP _ b c X1.out hst;clear hst)
        | (go_at_call 38;refine HST.out.mono ?_;rintro e w2 ⟨rfl,x2⟩))
      go_returns;exact⟨rfl,(X1.out.alloc _).trans x2⟩
end Go.Proofs.YtjaeedbjknejdaaGreatDoor.Ex

namespace Go.Proofs.YtjaeedbjknejdaaGreatDoor.Ex
open Go Go.RowKit Go.Sort Go.Lib Go.Shelf Fx Lx Tr At Pa Go.Proofs.YtjaeedbjknejdaaGreatDoor.Nm
theorem size_op : (Tryz.prog.info? 28).map (·.size)=some 5:=by kernel_rfl
theorem normal_any (w:World):Calls Tryz.prog 20 #[] w fun e w'=>e=.returned (opV ⟨0,10000,20000,5000,8⟩)/\Ext w w':=by
  go_enter Tryz.func20,Tryz.ntmps20;go_wp2
  (try simp only[Exit.inBlock,Exit.then])
  refine bodyPost_ret (results_cell_row rfl _ _ w.heap.size 28 #[.int .i64 0,.int .i64 10000,.int .i64 20000,.int .i64 5000,.int .i64 8] (0,0) _ rfl (heap_alloc_new w _) Tryz.underlying28 rfl size_op) rfl ?_;exact⟨rfl,(Ext.refl _).alloc _⟩
def fewG (g:Gr):Bool:=decide (g.N.length<=70) && decide (g.E.length<=300) && decide (g.C.length<=20) && g.N.all fun x=>decide (x.ports.length<=20)
theorem few_any (g:Gr)(na ea ca:Option Addr)(nac eac cac:Nat)(w:World)(ha:GrIn w (.agg #[.string g.name,.bool g.dir,.slice na g.N.length nac,.slice ea g.E.length eac,.slice ca g.C.length cac]) g):
    Calls Tryz.prog 8 #[.agg #[.string g.name,.bool g.dir,.slice na g.N.length nac,.slice ea g.E.length eac,.slice ca g.C.length cac]] w fun e w'=>e=.returned (.bool (fewG g))/\Ext w w':=by
  obtain⟨na',nac',ea',eac',ca',cac',hv,a1,-,-⟩:=ha;cases hv;obtain⟨V,hV⟩:∃ V,V=fewG g:=⟨_,rfl⟩;rw[<-hV];unfold fewG at hV;obtain⟨q,hq⟩:∃ n,n=g.N.length:=⟨_,rfl⟩;obtain⟨el,hel⟩:∃ n,n=g.E.length:=⟨_,rfl⟩;obtain⟨cl,hcle⟩:∃ n,n=g.C.length:=⟨_,rfl⟩;simp only[<-hq,<- hel,<- hcle] at hV ⊢;have HQ:=Lib.hid hq;have HA:=Lib.hid a1;clear hq hel hcle a1;by_cases h1:q<=70
  · have f1:decide ((70:Int) < (q:Int))=false:=decide_eq_false (by omega);have f1':decide (70 < q)=false:=decide_eq_false (by omega);rw[decide_eq_true h1,Bool.true_and] at hV;by_cases h2:el<=300
    · have f2:decide ((300:Int) < (el:Int))=false:=decide_eq_false (by omega);have f2':decide (300 < el)=false:=decide_eq_false (by omega);rw[decide_eq_true h2,Bool.true_and] at hV;by_cases h3:cl<=20
      · have f3:decide ((20:Int) < (cl:Int))=false:=decide_eq_false (by omega);have f3':decide (20 < cl)=false:=decide_eq_false (by omega);rw[decide_eq_true h3,Bool.true_and] at hV;have HV:Hid (V=(g.N.drop 0).all fun x=>decide (x.ports.length<=20)):=Lib.hid hV;obtain⟨nm,hnm⟩:∃ x,x=g.name:=⟨_,rfl⟩;rw[<-hnm];clear hV hnm;go_enter Tryz.func8,Tryz.ntmps8;go_wp2_with fail;obtain⟨w1,hw1⟩:∃ w1,w1=w.alloc (.cells #[.string nm,.bool g.dir,.slice na q nac,.slice ea el eac,.slice ca cl cac] 26):=⟨_,rfl⟩;obtain⟨gb,hgb⟩:∃ g,g=w.heap.size:=⟨_,rfl⟩;have G1:Hid (w1.heap[gb]? = some (.cells #[.string nm,.bool g.dir,.slice na q nac,.slice ea el eac,.slice ca cl cac] 26 (0,0))):=Lib.hid (by rw[hw1,hgb];exact heap_alloc_new w _);have X1:Hid (Ext w w1):=Lib.hid (by rw[hw1];exact(Ext.refl w).alloc _);rw[<-hw1,<- hgb]
        clear hw1 hgb
        go_loopw [3] (fun i' wr=>∃ k:Nat,k<=q/\i'=.int .i64 k/\Hid (Ext w1 wr)/\Hid (V=(g.N.drop k).all fun x=>decide (x.ports.length<=20))) (fun i' _=>q - (RowKit.intOf i').toNat)
        case atStart=>exact⟨0,Nat.zero_le _,rfl,Lib.hid (Ext.refl _),HV⟩
        clear HV;obtain⟨k,hk,rfl,hx,hv⟩:=hrel;obtain⟨c0,c1,c2,c3,c4⟩:=cells5g (At.heap_ext G1.out hx.out);by_cases hlt:k < q
        · have hkl:k < g.N.length:=by rw[<-HQ.out];exact hlt
          obtain⟨gn,on,p,pc,rfl,-,-,-,-,-,k5,-⟩:=HA.out k hkl;have z5:=(X1.out.trans hx.out).cell k5;have hvb:=hv.out;rw[List.drop_eq_getElem_cons hkl,List.all_cons] at hvb;obtain⟨pl,hpl⟩:∃ n,n=g.N[k].ports.length:=⟨_,rfl⟩;rw[<-hpl] at z5 hvb;have d0:(0:Int)<=(k:Int):=by omega
          have d1:(k:Int) < (q:Int):=by omega
          clear k5 hpl hv;by_cases h20:pl<=20
          · have f4:decide ((20:Int) < (pl:Int))=false:=decide_eq_false (by omega);have f4':decide (20 < pl)=false:=decide_eq_false (by omega);rw[decide_eq_true h20,Bool.true_and] at hvb;have HV:=Lib.hid hvb;clear hvb;go_wp2_with fail
            go_roundw
            case rel=>exact⟨k+1,by omega,by go_num,hx,HV⟩
            case measure=>simp[RowKit.intOf];omega
          have f4:decide ((20:Int) < (pl:Int))=true:=decide_eq_true (by omega);have f4':decide (20 < pl)=true:=decide_eq_true (by omega);rw[decide_eq_false h20,Bool.false_and] at hvb;have HV:=Lib.hid hvb;clear hvb;go_wp2_with fail;go_ret;exact⟨by rw[HV.out];rfl,X1.out.trans hx.out⟩
        have hr:Hid (V=true):=Lib.hid (by rw[hv.out,List.drop_eq_nil_of_le (by rw[<-HQ.out];omega)];rfl);have d1:¬ (k:Int) < (q:Int):=by omega
        clear hv;go_wp2_with fail;go_ret;exact⟨by rw[hr.out];rfl,X1.out.trans hx.out⟩
      have f3:decide ((20:Int) < (cl:Int))=true:=decide_eq_true (by omega);have f3':decide (20 < cl)=true:=decide_eq_true (by omega);rw[decide_eq_false h3,Bool.false_and] at hV;have HV:=Lib.hid hV;clear hV;go_enter Tryz.func8,Tryz.ntmps8;go_wp2_with fail;go_ret;exact⟨by rw[HV.out];rfl,(Ext.refl _).alloc _⟩
    have f2:decide ((300:Int) < (el:Int))=true:=decide_eq_true (by omega);have f2':decide (300 < el)=true:=decide_eq_true (by omega);rw[decide_eq_false h2,Bool.false_and] at hV;have HV:=Lib.hid hV;clear hV;go_enter Tryz.func8,Tryz.ntmps8;go_wp2_with fail;go_ret;exact⟨by rw[HV.out];rfl,(Ext.refl _).alloc _⟩
  have f1:decide ((70:Int) < (q:Int))=true:=decide_eq_true (by omega);have f1':decide (70 < q)=true:=decide_eq_true (by omega);rw[decide_eq_false h1,Bool.false_and] at hV;have HV:=Lib.hid hV;clear hV;go_enter Tryz.func8,Tryz.ntmps8;go_wp2_with fail;go_ret;exact⟨by rw[HV.out];rfl,(Ext.refl _).alloc _⟩
end Go.Proofs.YtjaeedbjknejdaaGreatDoor.Ex

namespace Go.Proofs.YtjaeedbjknejdaaGreatDoor.Tr
open Go.RowKit Go.Lib Fx Lx Go.ChangeShapes Go.WideShapes Go.Deep
theorem cInt : Tryz.prog.cellsOf 3=1:=by kernel_rfl
theorem cStr : Tryz.prog.cellsOf 9=1:=by kernel_rfl
section
variable {H:Type} {enc:TypeId × Value->H} {W:World} {base:Nat} {sp:Nat->Bool} {held:Bool}
instance : Inhabited Stm:=⟨.mk 0 ByteArray.empty [] [] []⟩
end
end Go.Proofs.YtjaeedbjknejdaaGreatDoor.Tr

namespace Go.Proofs.YtjaeedbjknejdaaGreatDoor.Pa
open Go.RowKit Go.Lib Fx Lx Tr Go.ChangeShapes Go.WideShapes Go.Deep
def reachN : Nat:=140737488351232
theorem weightsAll_of {H:Type}{P:Program}{e:TypeId}:∀ {l:List (DataW H)} {d:DataW H},d ∈ l->∀ n ∈ d.weights P e,n ∈ DataW.weightsAll P e l
  | x::r,d,hd,n,hn=>by
    rw[DataW.weightsAll,List.mem_append];rcases List.mem_cons.1 hd with rfl | hd
    · exact .inl hn
    · exact .inr (weightsAll_of hd n hn)
section
variable {H:Type} {enc:TypeId × Value->H} {W:World} {base:Nat} {sp:Nat->Bool} {held:Bool}
end
end Go.Proofs.YtjaeedbjknejdaaGreatDoor.Pa

namespace Go.Proofs.YtjaeedbjknejdaaGreatDoor.Nm
open Go.RowKit Go.Sort Go.Lib Go.Shelf Fx Lx Tr At Go.ChangeShapes Go.WideShapes Go.Deep
def OpArg (_:World)(v:Value):Prop:=∃ o,v=opV o
theorem cOp : Tryz.prog.cellsOf 28=5:=by kernel_rfl
theorem cIntN : Tryz.prog.cellsOf 3=1:=by kernel_rfl
theorem op_list {H:Type}{enc:TypeId × Value->H}{W:World}{base:Nat}{sp:Nat->Bool}{held:Bool}{cs':List Value}{y:DataW H × List MemPlace}{n:Nat}(h:DataW.trod enc Tryz.prog W base sp held n 28 cs'=some y):∃ a b c d e:Int,cs'=[.int .i64 a,.int .i64 b,.int .i64 c,.int .i64 d,.int .i64 e]:=by
  obtain⟨xs,n',_,rfl,hlen,hxl,hg⟩:=DataW.trod_struct Tryz.underlying28 h;rw[cOp] at hlen;have hxl5:xs.length=5:=hxl;clear hxl
  match cs',hlen with
  | [p0,p1,p2,p3,p4],_ =>
    obtain⟨y0,y1,y2,y3,y4,rfl⟩:∃ y0 y1 y2 y3 y4,xs=[y0,y1,y2,y3,y4]:=by
      match xs,hxl5 with
      | [y0,y1,y2,y3,y4],_=>exact⟨y0,y1,y2,y3,y4,rfl⟩
    have g0:DataW.trod enc Tryz.prog W base sp held n' 3 [p0]=some y0:=by simpa [cIntN] using hg 0 _ rfl
    have g1:DataW.trod enc Tryz.prog W base sp held n' 3 [p1]=some y1:=by simpa [cIntN] using hg 1 _ rfl
    have g2:DataW.trod enc Tryz.prog W base sp held n' 3 [p2]=some y2:=by simpa [cIntN] using hg 2 _ rfl
    have g3:DataW.trod enc Tryz.prog W base sp held n' 3 [p3]=some y3:=by simpa [cIntN] using hg 3 _ rfl
    have g4:DataW.trod enc Tryz.prog W base sp held n' 3 [p4]=some y4:=by simpa [cIntN] using hg 4 _ rfl
    obtain⟨a,e0,_,_⟩:=DataW.trod_int Tryz.underlying3 g0;obtain⟨b,e1,_,_⟩:=DataW.trod_int Tryz.underlying3 g1;obtain⟨c,e2,_,_⟩:=DataW.trod_int Tryz.underlying3 g2;obtain⟨d,e3,_,_⟩:=DataW.trod_int Tryz.underlying3 g3;obtain⟨e,e4,_,_⟩:=DataW.trod_int Tryz.underlying3 g4;simp only[List.cons.injEq,and_true] at e0 e1 e2 e3 e4;exact⟨a,b,c,d,e,by rw[e0,e1,e2,e3,e4]⟩
theorem op_arg {H:Type}{enc:TypeId × Value->H}{W:World}{r:Reach}{b base:Nat}{sp:Nat->Bool}{held:Bool}{v:Value}{d:DataW H}{p:List MemPlace}
    (hv:Value.okWide Tryz.prog W r b 28 v) (h:DataW.Trod enc Tryz.prog W base sp held 28 v d p):OpArg W v:=by
  obtain⟨cs,rfl,hsz⟩:=okWide_struct Tryz.underlying28 hv;obtain⟨fuel,hf⟩:=h;obtain⟨a,b,c,d,e,hc⟩:=op_list hf;have hcs:cs.toList=[.int .i64 a,.int .i64 b,.int .i64 c,.int .i64 d,.int .i64 e]:=by simpa [Value.cells] using hc
  refine⟨⟨a,b,c,d,e⟩,?_⟩;unfold opV
  congr 1
  exact Array.toList_inj.1 hcs
end Go.Proofs.YtjaeedbjknejdaaGreatDoor.Nm
