/- Packed texts: TreFormB, TreKinds, TreVisC, TreAll -/
import Derived.Test.YtjaeedbjknejdaaGreatDoorPu16
set_option linter.unusedVariables false
set_option linter.unusedSimpArgs false
set_option maxHeartbeats 16000000
set_option maxRecDepth 100000
namespace Go.Proofs.YtjaeedbjknejdaaGreatDoor.Tr
open Go.RowKit Go.Sort Go.Lib Go.Shelf Fx Lx
theorem form_else (k:Int)(nm:ByteArray)(r a b:Option Addr)(R A B rc ac bc:Nat)(w:World)(h1:k ≠ 1)(h2:k ≠ 2)(h3:k ≠ 3)(h4:k ≠ 4)(h5:k ≠ 5):
    Calls Tryz.prog 135 #[.agg #[.int .i64 k,.string nm,.slice r R rc,.slice a A ac,.slice b B bc]] w fun e w'=>e=.returned (.int .i64 1)/\Ext w w':=by
  obtain⟨f1,f1'⟩:=ne_facts h1;obtain⟨f2,f2'⟩:=ne_facts h2;obtain⟨f3,f3'⟩:=ne_facts h3;obtain⟨f4,f4'⟩:=ne_facts h4;obtain⟨f5,f5'⟩:=ne_facts h5;clear h1 h2 h3 h4 h5;go_enter Tryz.func135,Tryz.ntmps135;go_wp2;go_ret;exact⟨rfl,(Ext.refl _).alloc _⟩
theorem named_any (k:Int)(w:World):Calls Tryz.prog 136 #[.int .i64 k] w fun e w'=>e=.returned (.bool (decide (k=1\/k=4\/k=5)))/\w=w':=by
  by_cases h1:k=1
  · subst h1;go_enter Tryz.func136,Tryz.ntmps136;go_wp2;go_ret;exact⟨rfl,rfl⟩
  by_cases h4:k=4
  · subst h4;go_enter Tryz.func136,Tryz.ntmps136;go_wp2;go_ret;exact⟨rfl,rfl⟩
  by_cases h5:k=5
  · subst h5;go_enter Tryz.func136,Tryz.ntmps136;go_wp2;go_ret;exact⟨rfl,rfl⟩
  rw[decide_eq_false (by omega)];obtain⟨f1,f1'⟩:=ne_facts h1;obtain⟨f4,f4'⟩:=ne_facts h4;obtain⟨f5,f5'⟩:=ne_facts h5;clear h1 h4 h5;go_enter Tryz.func136,Tryz.ntmps136;go_wp2;go_ret;exact⟨rfl,rfl⟩
theorem litEq (n:ByteArray)(l:List UInt8):(n.toList == l)=decide (n.data.toList=l):=by
  rw[ByteArray.toList_eq,Bool.eq_iff_iff,beq_iff_eq,decide_eq_true_eq]
theorem form_default (nm:ByteArray)(r a b:Option Addr)(R A B rc ac bc:Nat)(w:World):
    Calls Tryz.prog 135 #[.agg #[.int .i64 3,.string nm,.slice r R rc,.slice a A ac,.slice b B bc]] w fun e w'=>e=.returned (.int .i64 (if(decide (R=0) && decide (B=0) && (decide (nm.data.toList=[110,111,100,101]) || decide (nm.data.toList=[101,100,103,101])))=true then 0 else 1))/\Ext w w':=by
  by_cases hR:R=0
  · by_cases hB:B=0
    · subst hR;subst hB;have n1:=litEq nm [110,111,100,101];have n2:=litEq nm [101,100,103,101];cases q1:decide (nm.data.toList=[110,111,100,101])
      · rw[q1] at n1;clear q1;cases q2:decide (nm.data.toList=[101,100,103,101])
        · rw[q2] at n2;clear q2;go_enter Tryz.func135,Tryz.ntmps135;go_wp2;go_ret;exact⟨rfl,(Ext.refl _).alloc _⟩
        rw[q2] at n2;clear q2;go_enter Tryz.func135,Tryz.ntmps135;go_wp2;go_ret;exact⟨rfl,(Ext.refl _).alloc _⟩
      rw[q1] at n1;clear q1 n2;go_enter Tryz.func135,Tryz.ntmps135;go_wp2;go_ret;exact⟨rfl,(Ext.refl _).alloc _⟩
    subst hR;have f1:((B:Int) == 0)=false:=by simpa using hB
    rw[decide_eq_false hB];clear hB;go_enter Tryz.func135,Tryz.ntmps135;go_wp2;go_ret;exact⟨rfl,(Ext.refl _).alloc _⟩
  have f1:((R:Int) == 0)=false:=by simpa using hR
  rw[decide_eq_false hR];clear hR;go_enter Tryz.func135,Tryz.ntmps135;go_wp2;go_ret;exact⟨rfl,(Ext.refl _).alloc _⟩
theorem form_set (nm:ByteArray)(r a b:Option Addr)(R B rc ac bc:Nat)(al:List Two)(w:World)(h:TwoIn w a al):
    Calls Tryz.prog 135 #[.agg #[.int .i64 4,.string nm,.slice r R rc,.slice a al.length ac,.slice b B bc]] w fun e w'=>e=.returned (.int .i64 (if(decide (R=0) && decide (B=0) && setB al)=true then 0 else 1))/\Ext w w':=by
  by_cases hR:R=0
  · by_cases hB:B=0
    · subst hR;subst hB;by_cases h1:al.length=1
      · obtain⟨⟨k,v⟩,rfl⟩:∃ q,al=[q]:=by
          match al,h1 with
          | [q],_=>exact⟨q,rfl⟩
        obtain⟨g,o,rfl,c0,c1⟩:=h 0 (by simp);simp only[Nat.zero_mul,Nat.add_zero,List.getElem_cons_zero] at c0 c1;have d0:∀ o',(w.alloc o').cell? ⟨g,o,none⟩=some (.string k):=fun o'=>((Ext.refl w).alloc o').cell c0
        have d1:∀ o',(w.alloc o').cell? ⟨g,o+1,none⟩=some (.string v):=fun o'=>((Ext.refl w).alloc o').cell c1
        clear h h1 c1;have n1:=@size0 k;rw[show setB [(k,v)]=decide (k.size=0) from rfl];cases q1:decide (k.size=0)
        · rw[q1] at n1;clear q1;simp only[List.length_cons,List.length_nil,Nat.zero_add];go_enter Tryz.func135,Tryz.ntmps135;go_wp2;go_ret;exact⟨rfl,(Ext.refl _).alloc _⟩
        rw[q1] at n1;clear q1;simp only[List.length_cons,List.length_nil,Nat.zero_add];go_enter Tryz.func135,Tryz.ntmps135;go_wp2;go_ret;exact⟨rfl,(Ext.refl _).alloc _⟩
      have hm:setB al=false:=by
        unfold setB
        match al,h1 with
        | [],_=>rfl
        | [q],h1=>exact absurd rfl h1
        | _::_::_,_=>rfl
      rw[hm]
      have f1:((al.length:Int) == 1)=false:=by
        rw[beq_eq_false_iff_ne];omega
      clear hm h1 h;generalize al.length=A at *;go_enter Tryz.func135,Tryz.ntmps135;go_wp2;go_ret;exact⟨rfl,(Ext.refl _).alloc _⟩
    subst hR;have f1:((B:Int) == 0)=false:=by simpa using hB
    rw[decide_eq_false hB];clear hB h;generalize al.length=A at *;go_enter Tryz.func135,Tryz.ntmps135;go_wp2;go_ret;exact⟨rfl,(Ext.refl _).alloc _⟩
  have f1:((R:Int) == 0)=false:=by simpa using hR
  rw[decide_eq_false hR];clear hR h;generalize al.length=A at *;go_enter Tryz.func135,Tryz.ntmps135;go_wp2;go_ret;exact⟨rfl,(Ext.refl _).alloc _⟩
theorem isE {α : Type}(L:List α):L.isEmpty=decide (L.length=0):=by cases L <;> rfl
theorem formB_mk (k:Int)(nm:ByteArray)(rs al:List Two)(body:List Stm):formB (.mk k nm rs al body) =
    if k=1 then decide (rs.length=0) && decide (body.length=0)
    else if k=2 then decide (nm.size=0) && decide (body.length=0) && decide (2<=rs.length)
    else if k=3 then decide (rs.length=0) && decide (body.length=0) && (decide (nm.data.toList=[110,111,100,101]) || decide (nm.data.toList=[101,100,103,101]))
    else if k=4 then decide (rs.length=0) && decide (body.length=0) && setB al
    else if k=5 then decide (rs.length=0) && decide (al.length=0)
    else false:=by
  rw[<-isE,<- isE,<- isE];rfl
theorem form_any (k:Int)(nm:ByteArray)(rs al:List Two)(body:List Stm)(r a b:Option Addr)(rc ac bc:Nat)(w:World)(h:TwoIn w a al):
    Calls Tryz.prog 135 #[.agg #[.int .i64 k,.string nm,.slice r rs.length rc,.slice a al.length ac,.slice b body.length bc]] w fun e w'=>e=.returned (.int .i64 (if formB (.mk k nm rs al body)=true then 0 else 1))/\Ext w w':=by
  rw[formB_mk];by_cases h1:k=1
  · rw[if_pos h1];subst h1;exact form_node nm r a b _ _ _ rc ac bc w
  rw[if_neg h1];by_cases h2:k=2
  · rw[if_pos h2];subst h2;exact form_edge nm r a b _ _ _ rc ac bc w
  rw[if_neg h2];by_cases h3:k=3
  · rw[if_pos h3];subst h3;exact form_default nm r a b _ _ _ rc ac bc w
  rw[if_neg h3];by_cases h4:k=4
  · rw[if_pos h4];subst h4;exact form_set nm r a b _ _ rc ac bc al w h
  rw[if_neg h4];by_cases h5:k=5
  · rw[if_pos h5];subst h5;exact form_cluster nm r a b _ _ _ rc ac bc w
  rw[if_neg h5];exact form_else k nm r a b _ _ _ rc ac bc w h1 h2 h3 h4 h5
end Go.Proofs.YtjaeedbjknejdaaGreatDoor.Tr

namespace Go.Proofs.YtjaeedbjknejdaaGreatDoor.Tr
open Go.Lib Fx Lx
theorem form_kinds (x:Stm)(h:formB x=true):(x.kind=1\/x.kind=2\/x.kind=3\/x.kind=4\/x.kind=5)/\(x.kind=3->kw x.name.data.toList=true)/\(x.kind=4->∃ q,x.attrs=[q]/\q.1.size=0):=by
  unfold formB at h;by_cases h1:x.kind=1
  · exact⟨.inl h1,fun h=>by omega,fun h=>by omega⟩
  rw[if_neg h1] at h;by_cases h2:x.kind=2
  · exact⟨.inr (.inl h2),fun h=>by omega,fun h=>by omega⟩
  rw[if_neg h2] at h;by_cases h3:x.kind=3
  · rw[if_pos h3] at h;refine⟨.inr (.inr (.inl h3)),fun _=>?_,fun h=>by omega⟩;simp only[Bool.and_eq_true,Bool.or_eq_true,decide_eq_true_eq] at h;rcases h.2 with e | e <;> (rw[e];decide)
  rw[if_neg h3] at h;by_cases h4:x.kind=4
  · rw[if_pos h4] at h;refine⟨.inr (.inr (.inr (.inl h4))),fun h=>by omega,fun _=>?_⟩;simp only[Bool.and_eq_true] at h;have h5:=h.2;unfold setB at h5;split at h5
    · rename_i q e;exact⟨q,e,by simpa using h5⟩
    exact absurd h5 (by decide)
  rw[if_neg h4] at h;by_cases h5:x.kind=5
  · exact⟨.inr (.inr (.inr (.inr h5))),fun h=>by omega,fun h=>by omega⟩
  rw[if_neg h5] at h;exact absurd h (by decide)
end Go.Proofs.YtjaeedbjknejdaaGreatDoor.Tr

namespace Go.Proofs.YtjaeedbjknejdaaGreatDoor.Tr
open Go.RowKit Go.Sort Go.Lib Go.Shelf Fx Lx
theorem closC_any (kind:Int)(nm:ByteArray)(r a b:Option Addr)(R A B rc ac bc:Nat)(lev:Int)(acc:Int)(c:Nat)(T:TypeId)(w:World)(h:w.heap[c]? = some (.cells #[.int .i64 acc] T (0,0))):
    Calls Tryz.prog 134 #[.agg #[.int .i64 kind,.string nm,.slice r R rc,.slice a A ac,.slice b B bc],.int .i64 lev,.pointer (some ⟨c,0,none⟩)] w fun e w'=>e=.returned (.bool true)/\w'.heap[c]? = some (.cells #[.int .i64 (wrap64 (acc+1))] T (0,0))/\But c w w':=by
  have hcw:c < w.heap.size:=(Array.getElem?_eq_some_iff.1 h).1;have h1:∀ o,(w.alloc o).heap[c]? = some (.cells #[.int .i64 acc] T (0,0)):=fun o=>(Lib.alloc_old w o c hcw).trans h
  have hc:∀ o,(w.alloc o).cell? ⟨c,0,none⟩=some (.int .i64 acc):=fun o=>by rw[Lib.cell_of_heap (h1 o)];rfl
  have hf:∀ o,(w.alloc o).frozen? ⟨c,0,none⟩=false:=fun o=>Lib.frozen_of_heap (h1 o) 0
  have H1:=Lib.hid h1;clear h1 h hcw;go_enter Tryz.func134,Tryz.ntmps134;go_wp2;go_ret;exact⟨rfl,setOne (H1.out _) 0 _,((But.refl c w).alloc _).setCell ⟨c,0,none⟩ rfl _⟩
theorem visitC_any : ∀ (M:Nat) (L:List Stm) (b:Option Addr) (cap lev:Nat) (acc:Int) (n c:Nat) (w:World),sizeL L<=M->M<=maxLen->lev+M<=9223372036854775806->StmsAt n w b L->n<=c->w.heap[c]? = some (.cells #[.int .i64 acc] 3 (0,0)) ->
    Calls Tryz.prog 69 #[.slice b L.length cap,.int .i64 lev,.func (.func 134) #[] #[.pointer (some ⟨c,0,none⟩)]] w fun e w'=>e=.returned (.bool (runA stepC acc (flatL lev L)).2)/\w'.heap[c]? = some (.cells #[.int .i64 (runA stepC acc (flatL lev L)).1] 3 (0,0))/\But c w w':=by
  intro M
  induction M using Nat.strongRecOn with
  | _ M ih =>
  intro L b cap lev acc n c w hM hmax hlev h hnc hc;obtain⟨V,hV⟩:∃ V,V=runA stepC acc (flatL lev L):=⟨_,rfl⟩;rw[<-hV];have HV:Hid (V=runA stepC acc (flatL lev (L.drop 0))):=Lib.hid hV;obtain⟨N,hN⟩:∃ N,N=L.length:=⟨_,rfl⟩;have hNM:N<=9223372036854775807:=by have:=sizeL_len L;unfold maxLen at hmax;omega
  have hl1:lev<=9223372036854775806:=by omega
  rw[<-hN];have HN:=Lib.hid hN;have HI:=Lib.hid h;have HM:=Lib.hid hM;have HIH:=Lib.hid ih;have HMX:=Lib.hid hmax;have HLV:=Lib.hid hlev;have HCW:Hid (c < w.heap.size):=Lib.hid (Array.getElem?_eq_some_iff.1 hc).1;have HNC:=Lib.hid hnc;have HC0:=Lib.hid hc;clear hV hN h hM ih hmax hlev hnc hc;go_enter Tryz.func69,Tryz.ntmps69;go_wp2
  go_loopw [12] (fun i' wr=>∃ (k:Nat) (ac:Int),k<=N/\i'=.int .i64 k/\But c w wr/\Hid (wr.heap[c]? = some (.cells #[.int .i64 ac] 3 (0,0)))/\Hid (V=runA stepC ac (flatL lev (L.drop k)))) (fun i' _=>N - (RowKit.intOf i').toNat)
  case atStart=>exact⟨0,acc,by omega,rfl,But.refl _ _,HC0,HV⟩
  obtain⟨k,ac,hk,rfl,hx,hcc,hb⟩:=hrel;clear HV HC0;by_cases hlt:k < N
  · have hkl:k < L.length:=by rw[<-HN.out];exact hlt
    have hin:=StmsAt.below (hx.below HNC.out (by have:=HCW.out;have:=HNC.out;omega)) L HI.out;obtain⟨g,o,rfl,hg,hst⟩:=StmsAt.at L hin k hkl;have hsz:sizeS L[k]<=M:=Nat.le_trans (sizeL_at L k hkl) HM.out;have hbb:=hb.out;rw[List.drop_eq_getElem_cons hkl,flatL_cons] at hbb;obtain⟨s,hs⟩:∃ s,s=L[k]:=⟨_,rfl⟩;rw[<-hs] at hst hsz hbb;clear hs hb hin;obtain⟨kind,nm,rs,al,body⟩:=s;have hbd:=sizeS_body (.mk kind nm rs al body);simp only[Stm.body,Stm.name,Stm.refs,Stm.attrs] at hbd;rw[flatS_mk,List.cons_append,runA,runA_app] at hbb;rw[StmAt] at hst;obtain⟨r,rc,a,atc,b',bc,c0,c1,c2,c3,c4,hr,ha,hbs,hl1',hl2,hl3,hl4,hl5⟩:=hst;have hwl:c < wr.heap.size:=Nat.lt_of_lt_of_le HCW.out hx.size;have hne:wr.heap.size ≠ c:=by omega
    have hxa:Ext wr (wr.alloc (.cells #[.int .i64 kind,.string nm,.slice r rs.length rc,.slice a al.length atc,.slice b' body.length bc] 67)):=(Ext.refl _).alloc _;have hcl:=stm_cells wr kind nm r a b' rs.length al.length body.length rc atc bc;have hcc2:=(hxa.block c hwl).trans hcc.out;have hclo:=closC_any kind nm r a b' rs.length al.length body.length rc atc bc lev ac c 3 (wr.alloc (.cells #[.int .i64 kind,.string nm,.slice r rs.length rc,.slice a al.length atc,.slice b' body.length bc] 67)) hcc2
    replace hclo:Calls Tryz.prog 134 #[.agg #[.int .i64 kind,.string nm,.slice r rs.length rc,.slice a al.length atc,.slice b' body.length bc],.int .i64 lev,.pointer (some ⟨c,0,none⟩)] (wr.alloc (.cells #[.int .i64 kind,.string nm,.slice r rs.length rc,.slice a al.length atc,.slice b' body.length bc] 67)) fun e w'=>e=.returned (.bool (stepC ac (.mk kind nm rs al body,lev)).2)/\w'.heap[c]? = some (.cells #[.int .i64 (stepC ac (.mk kind nm rs al body,lev)).1] 3 (0,0))/\But c (wr.alloc (.cells #[.int .i64 kind,.string nm,.slice r rs.length rc,.slice a al.length atc,.slice b' body.length bc] 67)) w':=hclo
    have hrec:∀ w1 acc1,But c wr w1->w1.heap[c]? = some (.cells #[.int .i64 acc1] 3 (0,0)) ->
        Calls Tryz.prog 69 #[.slice b' body.length bc,.int .i64 (if kind=5 then (lev:Int)+1 else lev),.func (.func 134) #[] #[.pointer (some ⟨c,0,none⟩)]] w1 fun e w'=>e=.returned (.bool (runA stepC acc1 (flatL (if kind=5 then lev+1 else lev) body)).2)/\w'.heap[c]? = some (.cells #[.int .i64 (runA stepC acc1 (flatL (if kind=5 then lev+1 else lev) body)).1] 3 (0,0))/\But c w1 w':=fun w1 acc1 x1 h1=>by
      have hcast:(if kind=5 then (lev:Int)+1 else lev)=((if kind=5 then lev+1 else lev:Nat):Int):=by split <;> simp
      rw[hcast];exact HIH.out (sizeL body) (by omega) body b' bc _ acc1 n c w1 (Nat.le_refl _) (by have:=HMX.out;omega) (by have:=HLV.out;split <;> omega) (StmsAt.below (x1.below HNC.out (by have:=HNC.out;omega)) body hbs) HNC.out h1
    have hx':But c w (wr.alloc (.cells #[.int .i64 kind,.string nm,.slice r rs.length rc,.slice a al.length atc,.slice b' body.length bc] 67)):=hx.alloc _;obtain⟨fl,hfl⟩:∃ fl,fl=flatL (if kind=5 then lev+1 else lev) body:=⟨_,rfl⟩;rw[<-hfl] at hrec hbb;obtain⟨p,q,hpq⟩:∃ p q,stepC ac (.mk kind nm rs al body,lev)=(p,q):=⟨_,_,rfl⟩;rw[hpq] at hclo hbb;obtain⟨u,v,huv⟩:∃ u v,runA stepC p fl=(u,v):=⟨_,_,rfl⟩;have hrec':=fun w1=>hrec w1 p
    rw[huv] at hrec' hbb;dsimp only at hclo hbb hrec';have HCLO:=Lib.hid hclo;have HREC:=Lib.hid hrec';have HCL:=Lib.hid hcl;clear hclo hrec hrec' hcl hr ha hbs hl1' hl2 hl3 hl4 hl5 hbd hsz hpq huv hfl hcc2 hcc hg hwl;have HXA:=Lib.hid hxa;have HNE:=Lib.hid hne;clear hxa hne;generalize rs.length=R at *;generalize al.length=A at *;generalize body.length=B at *;cases q
    · rw[if_neg (by decide)] at hbb;have hf:=Lib.hid hbb;clear hbb;go_wp2_with (go_at_call 134;refine HCLO.out.mono ?_;rintro e w1 ⟨rfl,h1,x1⟩;replace h1:=Lib.hid h1);go_returns;rw[hf.out];exact⟨rfl,h1.out,hx'.trans x1⟩
    rw[if_pos rfl] at hbb;by_cases h5:kind=5
    · subst h5;rw[if_pos rfl] at HREC;cases v
      · rw[if_neg (by decide)] at hbb;have hf:=Lib.hid hbb;clear hbb;go_wp2_with (first | (go_at_call 134;refine HCLO.out.mono ?_;rintro e w1 ⟨rfl,h1,x1⟩;replace h1:=Lib.hid h1;have k0:=x1.cell (p:=⟨wr.heap.size,0,none⟩) HNE.out (HCL.out _ (Ext.refl _)).1;have k4:=x1.cell (p:=⟨wr.heap.size,4,none⟩) HNE.out (HCL.out _ (Ext.refl _)).2.2.2.2) | (go_at_call 69;refine(HREC.out _ ((But.of HXA.out).trans x1) h1.out).mono ?_;rintro e w2 ⟨rfl,h2,x2⟩;replace h2:=Lib.hid h2));go_returns;rw[hf.out];exact⟨rfl,h2.out,(hx'.trans x1).trans x2⟩
      rw[if_pos rfl] at hbb;have hf:=Lib.hid hbb;clear hbb;go_wp2_with (first | (go_at_call 134;refine HCLO.out.mono ?_;rintro e w1 ⟨rfl,h1,x1⟩;replace h1:=Lib.hid h1;have k0:=x1.cell (p:=⟨wr.heap.size,0,none⟩) HNE.out (HCL.out _ (Ext.refl _)).1;have k4:=x1.cell (p:=⟨wr.heap.size,4,none⟩) HNE.out (HCL.out _ (Ext.refl _)).2.2.2.2) | (go_at_call 69;refine(HREC.out _ ((But.of HXA.out).trans x1) h1.out).mono ?_;rintro e w2 ⟨rfl,h2,x2⟩;replace h2:=Lib.hid h2))
      go_roundw
      case rel=>exact⟨k+1,u,by omega,by go_num,(hx'.trans x1).trans x2,h2,hf⟩
      case measure=>simp[RowKit.intOf];omega
    obtain⟨f5,f5'⟩:=ne_facts h5;rw[if_neg h5] at HREC;clear h5;cases v
    · rw[if_neg (by decide)] at hbb;have hf:=Lib.hid hbb;clear hbb;go_wp2_with (first | (go_at_call 134;refine HCLO.out.mono ?_;rintro e w1 ⟨rfl,h1,x1⟩;replace h1:=Lib.hid h1;have k0:=x1.cell (p:=⟨wr.heap.size,0,none⟩) HNE.out (HCL.out _ (Ext.refl _)).1;have k4:=x1.cell (p:=⟨wr.heap.size,4,none⟩) HNE.out (HCL.out _ (Ext.refl _)).2.2.2.2) | (go_at_call 69;refine(HREC.out _ ((But.of HXA.out).trans x1) h1.out).mono ?_;rintro e w2 ⟨rfl,h2,x2⟩;replace h2:=Lib.hid h2));go_returns;rw[hf.out];exact⟨rfl,h2.out,(hx'.trans x1).trans x2⟩
    rw[if_pos rfl] at hbb;have hf:=Lib.hid hbb;clear hbb;go_wp2_with (first | (go_at_call 134;refine HCLO.out.mono ?_;rintro e w1 ⟨rfl,h1,x1⟩;replace h1:=Lib.hid h1;have k0:=x1.cell (p:=⟨wr.heap.size,0,none⟩) HNE.out (HCL.out _ (Ext.refl _)).1;have k4:=x1.cell (p:=⟨wr.heap.size,4,none⟩) HNE.out (HCL.out _ (Ext.refl _)).2.2.2.2) | (go_at_call 69;refine(HREC.out _ ((But.of HXA.out).trans x1) h1.out).mono ?_;rintro e w2 ⟨rfl,h2,x2⟩;replace h2:=Lib.hid h2))
    go_roundw
    case rel=>exact⟨k+1,u,by omega,by go_num,(hx'.trans x1).trans x2,h2,hf⟩
    case measure=>simp[RowKit.intOf];omega
  have hf:Hid (V=(ac,true)):=Lib.hid (by rw[hb.out,List.drop_eq_nil_of_le (by rw[<-HN.out];omega),flatL_nil];rfl);clear hb;go_wp2;go_returns;rw[hf.out];exact⟨rfl,hcc.out,hx⟩
end Go.Proofs.YtjaeedbjknejdaaGreatDoor.Tr

namespace Go.Proofs.YtjaeedbjknejdaaGreatDoor.Tr
open Go.Lib Fx Lx
mutual
def AllS (p:Stm->Prop):Stm->Prop
  | .mk k n r a b=>p (.mk k n r a b)/\AllL p b
def AllL (p:Stm->Prop):List Stm->Prop
  | []=>True
  | x::r=>AllS p x/\AllL p r
end
mutual
theorem allS_flat (p:Stm->Prop)(lev:Nat):∀ x:Stm,(∀ q ∈ flatS lev x,p q.1)->AllS p x
  | .mk k n r a b,h=>by
    rw[flatS] at h;rw[AllS];exact⟨h _ List.mem_cons_self,allL_flat p _ b fun q hq=>h q (List.mem_cons_of_mem _ hq)⟩
theorem allL_flat (p:Stm->Prop)(lev:Nat):∀ L:List Stm,(∀ q ∈ flatL lev L,p q.1)->AllL p L
  | [],_=>by rw[AllL];trivial
  | x::r,h=>by
    rw[flatL] at h;rw[AllL];exact⟨allS_flat p lev x fun q hq=>h q (List.mem_append_left _ hq),allL_flat p lev r fun q hq=>h q (List.mem_append_right _ hq)⟩
end
end Go.Proofs.YtjaeedbjknejdaaGreatDoor.Tr
