/- Packed texts: NorVis, NorOk -/
import Derived.Test.YtjaeedbjknejdaaGreatDoorPd25
set_option linter.unusedVariables false
set_option linter.unusedSimpArgs false
set_option maxHeartbeats 16000000
set_option maxRecDepth 100000
namespace Go.Proofs.YtjaeedbjknejdaaGreatDoor.Nm
open Go.RowKit Go.Sort Go.Lib Go.Shelf Fx Lx Tr
mutual
def bgS : Stm->Prop
 | .mk k n r a b=>BigS (.mk k n r a b)/\bgL b
def bgL : List Stm->Prop
 | []=>True
 | x::r=>bgS x/\bgL r
end
mutual
theorem bgS_of (lev:Nat):∀ x:Stm,(∀ p ∈ flatS lev x,BigS p.1)->bgS x
 | .mk k n r a b,h=>by
  rw[flatS] at h;rw[bgS];exact⟨h _ List.mem_cons_self,bgL_of _ b fun p hp=>h p (List.mem_cons_of_mem _ hp)⟩
theorem bgL_of (lev:Nat):∀ L:List Stm,(∀ p ∈ flatL lev L,BigS p.1)->bgL L
 | [],_=>by rw[bgL];trivial
 | x::r,h=>by
  rw[flatL] at h;rw[bgL];exact⟨bgS_of lev x fun p hp=>h p (List.mem_append_left _ hp),bgL_of lev r fun p hp=>h p (List.mem_append_right _ hp)⟩
end
theorem bg_at : ∀ (L:List Stm) (i:Nat) (h:i < L.length),bgL L->bgS L[i]
 | [],i,h,_=>absurd h (by simp)
 | x::r,0,_,ho=>by rw[bgL] at ho;exact ho.1
 | x::r,i+1,h,ho=>by rw[bgL] at ho;exact bg_at r i (by simpa using h) ho.2
theorem cnt_len : ∀ L:List Stm,L.length<=cntL L
 | []=>by simp
 | x::r=>by have:=cnt_len r;rw[cntL_cons,List.length_cons,cntS_body];omega
theorem cnt_at : ∀ (L:List Stm) (k:Nat) (h:k < L.length),cntS L[k]<=cntL L
 | [],k,h=>absurd h (by simp)
 | x::r,0,_=>by rw[cntL_cons];simp
 | x::r,k+1,h=>by
  have:=cnt_at r k (by simpa using h);rw[cntL_cons];simp only[List.getElem_cons_succ];omega
theorem visitC_cnt : ∀ (M:Nat) (L:List Stm) (b:Option Addr) (cap lev:Nat) (acc:Int) (n c:Nat) (w:World),cntL L<=M->M<=1099511627776->lev+M<=9223372036854775806->StmsAt n w b L->n<=c->w.heap[c]? = some (.cells #[.int .i64 acc] 3 (0,0)) ->
  Calls Tryz.prog 69 #[.slice b L.length cap,.int .i64 lev,.func (.func 134) #[] #[.pointer (some ⟨c,0,none⟩)]] w fun e w'=>e=.returned (.bool (runA stepC acc (flatL lev L)).2)/\w'.heap[c]? = some (.cells #[.int .i64 (runA stepC acc (flatL lev L)).1] 3 (0,0))/\But c w w':=by
 intro M
 induction M using Nat.strongRecOn with
 | _ M ih =>
 intro L b cap lev acc n c w hM hmax hlev h hnc hc;obtain⟨V,hV⟩:∃ V,V=runA stepC acc (flatL lev L):=⟨_,rfl⟩;rw[<-hV];have HV:Hid (V=runA stepC acc (flatL lev (L.drop 0))):=hid hV;obtain⟨N,hN⟩:∃ N,N=L.length:=⟨_,rfl⟩;have hNM:N<=9223372036854775807:=by have:=cnt_len L;omega
 have hl1:lev<=9223372036854775806:=by omega
 rw[<-hN];have HN:=hid hN;have HI:=hid h;have HM:=hid hM;have HIH:=hid ih;have HMX:=hid hmax;have HLV:=hid hlev;have HCW:Hid (c < w.heap.size):=hid (Array.getElem?_eq_some_iff.1 hc).1;have HNC:=hid hnc;have HC0:=hid hc;clear hV hN h hM ih hmax hlev hnc hc;go_enter Tryz.func69,Tryz.ntmps69;go_wp2
 go_loopw [12] (fun i' wr=>∃ (k:Nat) (ac:Int),k<=N/\i'=.int .i64 k/\But c w wr/\Hid (wr.heap[c]? = some (.cells #[.int .i64 ac] 3 (0,0)))/\Hid (V=runA stepC ac (flatL lev (L.drop k)))) (fun i' _=>N - (RowKit.intOf i').toNat)
 case atStart=>exact⟨0,acc,by omega,rfl,But.refl _ _,HC0,HV⟩
 obtain⟨k,ac,hk,rfl,hx,hcc,hb⟩:=hrel;clear HV HC0;by_cases hlt:k < N
 ·have hkl:k < L.length:=by rw[<-HN.out];exact hlt
  have hin:=StmsAt.below (hx.below HNC.out (by have:=HCW.out;have:=HNC.out;omega)) L HI.out;obtain⟨g,o,rfl,hg,hst⟩:=StmsAt.at L hin k hkl;have hsz:cntS L[k]<=M:=Nat.le_trans (cnt_at L k hkl) HM.out;have hbb:=hb.out;rw[List.drop_eq_getElem_cons hkl,flatL_cons] at hbb;obtain⟨s,hs⟩:∃ s,s=L[k]:=⟨_,rfl⟩;rw[<-hs] at hst hsz hbb;clear hs hb hin;obtain⟨kind,nm,rs,al,body⟩:=s;have hbd:=cntS_body (.mk kind nm rs al body);simp only[Stm.body] at hbd;rw[flatS_mk,List.cons_append,runA,runA_app] at hbb;rw[StmAt] at hst;obtain⟨r,rc,a,atc,b',bc,c0,c1,c2,c3,c4,hr,ha,hbs,hl1',hl2,hl3,hl4,hl5⟩:=hst;have hwl:c < wr.heap.size:=Nat.lt_of_lt_of_le HCW.out hx.size;have hne:wr.heap.size ≠ c:=by omega
  have hxa:Ext wr (wr.alloc (.cells #[.int .i64 kind,.string nm,.slice r rs.length rc,.slice a al.length atc,.slice b' body.length bc] 67)):=(Ext.refl _).alloc _;have hcl:=stm_cells wr kind nm r a b' rs.length al.length body.length rc atc bc;have hcc2:=(hxa.block c hwl).trans hcc.out;have hclo:=Tr.closC_any kind nm r a b' rs.length al.length body.length rc atc bc lev ac c 3 (wr.alloc (.cells #[.int .i64 kind,.string nm,.slice r rs.length rc,.slice a al.length atc,.slice b' body.length bc] 67)) hcc2
  replace hclo:Calls Tryz.prog 134 #[.agg #[.int .i64 kind,.string nm,.slice r rs.length rc,.slice a al.length atc,.slice b' body.length bc],.int .i64 lev,.pointer (some ⟨c,0,none⟩)] (wr.alloc (.cells #[.int .i64 kind,.string nm,.slice r rs.length rc,.slice a al.length atc,.slice b' body.length bc] 67)) fun e w'=>e=.returned (.bool (stepC ac (.mk kind nm rs al body,lev)).2)/\w'.heap[c]? = some (.cells #[.int .i64 (stepC ac (.mk kind nm rs al body,lev)).1] 3 (0,0))/\But c (wr.alloc (.cells #[.int .i64 kind,.string nm,.slice r rs.length rc,.slice a al.length atc,.slice b' body.length bc] 67)) w':=hclo
  have hrec:∀ w1 acc1,But c wr w1->w1.heap[c]? = some (.cells #[.int .i64 acc1] 3 (0,0)) ->
    Calls Tryz.prog 69 #[.slice b' body.length bc,.int .i64 (if kind=5 then (lev:Int)+1 else lev),.func (.func 134) #[] #[.pointer (some ⟨c,0,none⟩)]] w1 fun e w'=>e=.returned (.bool (runA stepC acc1 (flatL (if kind=5 then lev+1 else lev) body)).2)/\w'.heap[c]? = some (.cells #[.int .i64 (runA stepC acc1 (flatL (if kind=5 then lev+1 else lev) body)).1] 3 (0,0))/\But c w1 w':=fun w1 acc1 x1 h1=>by
   have hcast:(if kind=5 then (lev:Int)+1 else lev)=((if kind=5 then lev+1 else lev:Nat):Int):=by split <;> simp
   rw[hcast];exact HIH.out (cntL body) (by omega) body b' bc _ acc1 n c w1 (Nat.le_refl _) (by have:=HMX.out;omega) (by have:=HLV.out;split <;> omega) (StmsAt.below (x1.below HNC.out (by have:=HNC.out;omega)) body hbs) HNC.out h1
  have hx':But c w (wr.alloc (.cells #[.int .i64 kind,.string nm,.slice r rs.length rc,.slice a al.length atc,.slice b' body.length bc] 67)):=hx.alloc _;obtain⟨fl,hfl⟩:∃ fl,fl=flatL (if kind=5 then lev+1 else lev) body:=⟨_,rfl⟩;rw[<-hfl] at hrec hbb;obtain⟨p,q,hpq⟩:∃ p q,stepC ac (.mk kind nm rs al body,lev)=(p,q):=⟨_,_,rfl⟩;rw[hpq] at hclo hbb;obtain⟨u,v,huv⟩:∃ u v,runA stepC p fl=(u,v):=⟨_,_,rfl⟩;have hrec':=fun w1=>hrec w1 p
  rw[huv] at hrec' hbb;dsimp only at hclo hbb hrec';have HCLO:=hid hclo;have HREC:=hid hrec';have HCL:=hid hcl;clear hclo hrec hrec' hcl hr ha hbs hl1' hl2 hl3 hl4 hl5 hbd hsz hpq huv hfl hcc2 hcc hg hwl;have HXA:=hid hxa;have HNE:=hid hne;clear hxa hne;generalize rs.length=R at *;generalize al.length=A at *;generalize body.length=B at *;cases q
  ·rw[if_neg (by decide)] at hbb;have hf:=hid hbb;clear hbb;go_wp2_with (go_at_call 134;refine HCLO.out.mono ?_;rintro e w1 ⟨rfl,h1,x1⟩;replace h1:=hid h1);go_returns;rw[hf.out];exact⟨rfl,h1.out,hx'.trans x1⟩
  rw[if_pos rfl] at hbb;by_cases h5:kind=5
  ·subst h5;rw[if_pos rfl] at HREC;cases v
   ·rw[if_neg (by decide)] at hbb;have hf:=hid hbb;clear hbb;go_wp2_with (first | (go_at_call 134;refine HCLO.out.mono ?_;rintro e w1 ⟨rfl,h1,x1⟩;replace h1:=hid h1;have k0:=x1.cell (p:=⟨wr.heap.size,0,none⟩) HNE.out (HCL.out _ (Ext.refl _)).1;have k4:=x1.cell (p:=⟨wr.heap.size,4,none⟩) HNE.out (HCL.out _ (Ext.refl _)).2.2.2.2) | (go_at_call 69;refine(HREC.out _ ((But.of HXA.out).trans x1) h1.out).mono ?_;rintro e w2 ⟨rfl,h2,x2⟩;replace h2:=hid h2));go_returns;rw[hf.out];exact⟨rfl,h2.out,(hx'.trans x1).trans x2⟩
   rw[if_pos rfl] at hbb;have hf:=hid hbb;clear hbb;go_wp2_with (first | (go_at_call 134;refine HCLO.out.mono ?_;rintro e w1 ⟨rfl,h1,x1⟩;replace h1:=hid h1;have k0:=x1.cell (p:=⟨wr.heap.size,0,none⟩) HNE.out (HCL.out _ (Ext.refl _)).1;have k4:=x1.cell (p:=⟨wr.heap.size,4,none⟩) HNE.out (HCL.out _ (Ext.refl _)).2.2.2.2) | (go_at_call 69;refine(HREC.out _ ((But.of HXA.out).trans x1) h1.out).mono ?_;rintro e w2 ⟨rfl,h2,x2⟩;replace h2:=hid h2))
   go_roundw
   case rel=>exact⟨k+1,u,by omega,by go_num,(hx'.trans x1).trans x2,h2,hf⟩
   case measure=>simp[RowKit.intOf];omega
  obtain⟨f5,f5'⟩:=ne_facts h5;rw[if_neg h5] at HREC;clear h5;cases v
  ·rw[if_neg (by decide)] at hbb;have hf:=hid hbb;clear hbb;go_wp2_with (first | (go_at_call 134;refine HCLO.out.mono ?_;rintro e w1 ⟨rfl,h1,x1⟩;replace h1:=hid h1;have k0:=x1.cell (p:=⟨wr.heap.size,0,none⟩) HNE.out (HCL.out _ (Ext.refl _)).1;have k4:=x1.cell (p:=⟨wr.heap.size,4,none⟩) HNE.out (HCL.out _ (Ext.refl _)).2.2.2.2) | (go_at_call 69;refine(HREC.out _ ((But.of HXA.out).trans x1) h1.out).mono ?_;rintro e w2 ⟨rfl,h2,x2⟩;replace h2:=hid h2));go_returns;rw[hf.out];exact⟨rfl,h2.out,(hx'.trans x1).trans x2⟩
  rw[if_pos rfl] at hbb;have hf:=hid hbb;clear hbb;go_wp2_with (first | (go_at_call 134;refine HCLO.out.mono ?_;rintro e w1 ⟨rfl,h1,x1⟩;replace h1:=hid h1;have k0:=x1.cell (p:=⟨wr.heap.size,0,none⟩) HNE.out (HCL.out _ (Ext.refl _)).1;have k4:=x1.cell (p:=⟨wr.heap.size,4,none⟩) HNE.out (HCL.out _ (Ext.refl _)).2.2.2.2) | (go_at_call 69;refine(HREC.out _ ((But.of HXA.out).trans x1) h1.out).mono ?_;rintro e w2 ⟨rfl,h2,x2⟩;replace h2:=hid h2))
  go_roundw
  case rel=>exact⟨k+1,u,by omega,by go_num,(hx'.trans x1).trans x2,h2,hf⟩
  case measure=>simp[RowKit.intOf];omega
 have hf:Hid (V=(ac,true)):=hid (by rw[hb.out,List.drop_eq_nil_of_le (by rw[<-HN.out];omega),flatL_nil];rfl);clear hb;go_wp2;go_returns;rw[hf.out];exact⟨rfl,hcc.out,hx⟩
theorem visitV_cnt : ∀ (M:Nat) (L:List Stm) (b:Option Addr) (cap lev:Nat) (acc:Int) (n c:Nat) (w:World),cntL L<=M->M<=1099511627776->lev+M<=9223372036854775806->bgL L->StmsAt n w b L->n<=c->w.heap[c]? = some (.cells #[.int .i64 acc] 34 (0,0)) ->
  Calls Tryz.prog 69 #[.slice b L.length cap,.int .i64 lev,.func (.func 70) #[] #[.pointer (some ⟨c,0,none⟩)]] w fun e w'=>e=.returned (.bool (runA stepV acc (flatL lev L)).2)/\w'.heap[c]? = some (.cells #[.int .i64 (runA stepV acc (flatL lev L)).1] 34 (0,0))/\But c w w':=by
 intro M
 induction M using Nat.strongRecOn with
 | _ M ih =>
 intro L b cap lev acc n c w hM hmax hlev hbig h hnc hc;obtain⟨V,hV⟩:∃ V,V=runA stepV acc (flatL lev L):=⟨_,rfl⟩;rw[<-hV];have HV:Hid (V=runA stepV acc (flatL lev (L.drop 0))):=hid hV;obtain⟨N,hN⟩:∃ N,N=L.length:=⟨_,rfl⟩;have hNM:N<=9223372036854775807:=by have:=cnt_len L;omega
 have hl1:lev<=9223372036854775806:=by omega
 rw[<-hN];have HN:=hid hN;have HI:=hid h;have HM:=hid hM;have HIH:=hid ih;have HMX:=hid hmax;have HLV:=hid hlev;have HBG:=hid hbig;have HCW:Hid (c < w.heap.size):=hid (Array.getElem?_eq_some_iff.1 hc).1;have HNC:=hid hnc;have HC0:=hid hc;clear hV hN h hM ih hmax hlev hnc hc hbig;go_enter Tryz.func69,Tryz.ntmps69;go_wp2
 go_loopw [12] (fun i' wr=>∃ (k:Nat) (ac:Int),k<=N/\i'=.int .i64 k/\But c w wr/\Hid (wr.heap[c]? = some (.cells #[.int .i64 ac] 34 (0,0)))/\Hid (V=runA stepV ac (flatL lev (L.drop k)))) (fun i' _=>N - (RowKit.intOf i').toNat)
 case atStart=>exact⟨0,acc,by omega,rfl,But.refl _ _,HC0,HV⟩
 obtain⟨k,ac,hk,rfl,hx,hcc,hb⟩:=hrel;clear HV HC0;by_cases hlt:k < N
 ·have hkl:k < L.length:=by rw[<-HN.out];exact hlt
  have hin:=StmsAt.below (hx.below HNC.out (by have:=HCW.out;have:=HNC.out;omega)) L HI.out;obtain⟨g,o,rfl,hg,hst⟩:=StmsAt.at L hin k hkl;have hsz:cntS L[k]<=M:=Nat.le_trans (cnt_at L k hkl) HM.out;have hbk:=bg_at L k hkl HBG.out;have hbb:=hb.out;rw[List.drop_eq_getElem_cons hkl,flatL_cons] at hbb;obtain⟨s,hs⟩:∃ s,s=L[k]:=⟨_,rfl⟩;rw[<-hs] at hst hsz hbb hbk;clear hs hb hin;obtain⟨kind,nm,rs,al,body⟩:=s;have hbd:=cntS_body (.mk kind nm rs al body);simp only[Stm.body] at hbd;rw[bgS] at hbk;obtain⟨⟨hb1,hb2,hb3⟩,hb4⟩:=hbk;simp only[Stm.name,Stm.refs,Stm.attrs] at hb1 hb2 hb3;rw[flatS_mk,List.cons_append,runA,runA_app] at hbb;rw[StmAt] at hst;obtain⟨r,rc,a,atc,b',bc,c0,c1,c2,c3,c4,hr,ha,hbs,hl1',hl2,hl3,hl4,hl5⟩:=hst;have hwl:c < wr.heap.size:=Nat.lt_of_lt_of_le HCW.out hx.size
  have hne:wr.heap.size ≠ c:=by omega
  have hxa:Ext wr (wr.alloc (.cells #[.int .i64 kind,.string nm,.slice r rs.length rc,.slice a al.length atc,.slice b' body.length bc] 67)):=(Ext.refl _).alloc _;have hcl:=stm_cells wr kind nm r a b' rs.length al.length body.length rc atc bc;have hcc2:=(hxa.block c hwl).trans hcc.out;have hs1:∀ q ∈ al,q.1.size<=9223372036854775807/\q.2.size<=9223372036854775807:=hb2;have ht1:∀ q ∈ rs,q.1.size<=9223372036854775807/\q.2.size<=9223372036854775807:=hb3;have hclo:=closV_any kind nm rs al body r a b' rc atc bc lev ac c 34 (wr.alloc (.cells #[.int .i64 kind,.string nm,.slice r rs.length rc,.slice a al.length atc,.slice b' body.length bc] 67)) hcc2 ⟨hr.in.ext hxa,ha.in.ext hxa,hl2,by omega,hb1,hs1,ht1⟩;clear hs1 ht1 hb1 hb2 hb3
  have hrec:∀ w1 acc1,But c wr w1->w1.heap[c]? = some (.cells #[.int .i64 acc1] 34 (0,0)) ->
    Calls Tryz.prog 69 #[.slice b' body.length bc,.int .i64 (if kind=5 then (lev:Int)+1 else lev),.func (.func 70) #[] #[.pointer (some ⟨c,0,none⟩)]] w1 fun e w'=>e=.returned (.bool (runA stepV acc1 (flatL (if kind=5 then lev+1 else lev) body)).2)/\w'.heap[c]? = some (.cells #[.int .i64 (runA stepV acc1 (flatL (if kind=5 then lev+1 else lev) body)).1] 34 (0,0))/\But c w1 w':=fun w1 acc1 x1 h1=>by
   have hcast:(if kind=5 then (lev:Int)+1 else lev)=((if kind=5 then lev+1 else lev:Nat):Int):=by split <;> simp
   rw[hcast];exact HIH.out (cntL body) (by omega) body b' bc _ acc1 n c w1 (Nat.le_refl _) (by have:=HMX.out;omega) (by have:=HLV.out;split <;> omega) hb4 (StmsAt.below (x1.below HNC.out (by have:=HNC.out;omega)) body hbs) HNC.out h1
  have hx':But c w (wr.alloc (.cells #[.int .i64 kind,.string nm,.slice r rs.length rc,.slice a al.length atc,.slice b' body.length bc] 67)):=hx.alloc _;obtain⟨fl,hfl⟩:∃ fl,fl=flatL (if kind=5 then lev+1 else lev) body:=⟨_,rfl⟩;rw[<-hfl] at hrec hbb;obtain⟨p,q,hpq⟩:∃ p q,stepV ac (.mk kind nm rs al body,lev)=(p,q):=⟨_,_,rfl⟩;rw[hpq] at hclo hbb;obtain⟨u,v,huv⟩:∃ u v,runA stepV p fl=(u,v):=⟨_,_,rfl⟩;have hrec':=fun w1=>hrec w1 p
  rw[huv] at hrec' hbb;dsimp only at hclo hbb hrec';have HCLO:=hid hclo;have HREC:=hid hrec';have HCL:=hid hcl;clear hclo hrec hrec' hcl hr ha hbs hl1' hl2 hl3 hl4 hl5 hbd hsz hpq huv hfl hcc2 hcc hg hwl;have HXA:=hid hxa;have HNE:=hid hne;clear hxa hne;generalize rs.length=R at *;generalize al.length=A at *;generalize body.length=B at *;cases q
  ·rw[if_neg (by decide)] at hbb;have hf:=hid hbb;clear hbb;go_wp2_with (go_at_call 70;refine HCLO.out.mono ?_;rintro e w1 ⟨rfl,h1,x1⟩;replace h1:=hid h1);go_returns;rw[hf.out];exact⟨rfl,h1.out,hx'.trans x1⟩
  rw[if_pos rfl] at hbb;by_cases h5:kind=5
  ·subst h5;rw[if_pos rfl] at HREC;cases v
   ·rw[if_neg (by decide)] at hbb;have hf:=hid hbb;clear hbb;go_wp2_with (first | (go_at_call 70;refine HCLO.out.mono ?_;rintro e w1 ⟨rfl,h1,x1⟩;replace h1:=hid h1;have k0:=x1.cell (p:=⟨wr.heap.size,0,none⟩) HNE.out (HCL.out _ (Ext.refl _)).1;have k4:=x1.cell (p:=⟨wr.heap.size,4,none⟩) HNE.out (HCL.out _ (Ext.refl _)).2.2.2.2) | (go_at_call 69;refine(HREC.out _ ((But.of HXA.out).trans x1) h1.out).mono ?_;rintro e w2 ⟨rfl,h2,x2⟩;replace h2:=hid h2));go_returns;rw[hf.out];exact⟨rfl,h2.out,(hx'.trans x1).trans x2⟩
   rw[if_pos rfl] at hbb;have hf:=hid hbb;clear hbb;go_wp2_with (first | (go_at_call 70;refine HCLO.out.mono ?_;rintro e w1 ⟨rfl,h1,x1⟩;replace h1:=hid h1;have k0:=x1.cell (p:=⟨wr.heap.size,0,none⟩) HNE.out (HCL.out _ (Ext.refl _)).1;have k4:=x1.cell (p:=⟨wr.heap.size,4,none⟩) HNE.out (HCL.out _ (Ext.refl _)).2.2.2.2) | (go_at_call 69;refine(HREC.out _ ((But.of HXA.out).trans x1) h1.out).mono ?_;rintro e w2 ⟨rfl,h2,x2⟩;replace h2:=hid h2))
   go_roundw
   case rel=>exact⟨k+1,u,by omega,by go_num,(hx'.trans x1).trans x2,h2,hf⟩
   case measure=>simp[RowKit.intOf];omega
  obtain⟨f5,f5'⟩:=ne_facts h5;rw[if_neg h5] at HREC;clear h5;cases v
  ·rw[if_neg (by decide)] at hbb;have hf:=hid hbb;clear hbb;go_wp2_with (first | (go_at_call 70;refine HCLO.out.mono ?_;rintro e w1 ⟨rfl,h1,x1⟩;replace h1:=hid h1;have k0:=x1.cell (p:=⟨wr.heap.size,0,none⟩) HNE.out (HCL.out _ (Ext.refl _)).1;have k4:=x1.cell (p:=⟨wr.heap.size,4,none⟩) HNE.out (HCL.out _ (Ext.refl _)).2.2.2.2) | (go_at_call 69;refine(HREC.out _ ((But.of HXA.out).trans x1) h1.out).mono ?_;rintro e w2 ⟨rfl,h2,x2⟩;replace h2:=hid h2));go_returns;rw[hf.out];exact⟨rfl,h2.out,(hx'.trans x1).trans x2⟩
  rw[if_pos rfl] at hbb;have hf:=hid hbb;clear hbb;go_wp2_with (first | (go_at_call 70;refine HCLO.out.mono ?_;rintro e w1 ⟨rfl,h1,x1⟩;replace h1:=hid h1;have k0:=x1.cell (p:=⟨wr.heap.size,0,none⟩) HNE.out (HCL.out _ (Ext.refl _)).1;have k4:=x1.cell (p:=⟨wr.heap.size,4,none⟩) HNE.out (HCL.out _ (Ext.refl _)).2.2.2.2) | (go_at_call 69;refine(HREC.out _ ((But.of HXA.out).trans x1) h1.out).mono ?_;rintro e w2 ⟨rfl,h2,x2⟩;replace h2:=hid h2))
  go_roundw
  case rel=>exact⟨k+1,u,by omega,by go_num,(hx'.trans x1).trans x2,h2,hf⟩
  case measure=>simp[RowKit.intOf];omega
 have hf:Hid (V=(ac,true)):=hid (by rw[hb.out,List.drop_eq_nil_of_le (by rw[<-HN.out];omega),flatL_nil];rfl);clear hb;go_wp2;go_returns;rw[hf.out];exact⟨rfl,hcc.out,hx⟩
theorem count_cnt (nm:ByteArray)(dir:Bool)(b:Option Addr)(L:List Stm)(cap n:Nat)(w:World)(hn:n<=w.heap.size)(h:StmsAt n w b L)(hs:cntL L<=1099511627776):
  Calls Tryz.prog 68 #[.agg #[.string nm,.bool dir,.slice b L.length cap]] w fun e w'=>e=.returned (.int .i64 (flatL 0 L).length)/\Ext w w':=by
 have hx:Ext w ((w.alloc (.cells #[.string nm,.bool dir,.slice b L.length cap] 33)).alloc (.cells #[.int .i64 0] 3)):=((Ext.refl w).alloc _).alloc _;have hv:=visitC_cnt 1099511627776 L b cap 0 0 n (w.heap.size+1) ((w.alloc (.cells #[.string nm,.bool dir,.slice b L.length cap] 33)).alloc (.cells #[.int .i64 0] 3)) hs (by omega) (by omega) (StmsAt.below (hx.mono hn) L h) (by omega) (two_new w _ _);have hfl:(flatL 0 L).length<=1099511627776:=by rw[cntL_flat];exact hs
 rw[runC_len (flatL 0 L) 0 (by omega) (by omega),Int.zero_add] at hv;generalize (flatL 0 L).length=F at *;generalize L.length=N at *;have HV:=hid hv;have HX:=hid hx;clear hv h hfl hs hx;go_enter Tryz.func68,Tryz.ntmps68;go_wp2_with (go_at_call 69;refine HV.out.mono ?_;rintro e w1 ⟨rfl,h1,x1⟩;have q0:w1.cell? ⟨w.heap.size+1,0,none⟩=some (.int .i64 F):=(by rw[Lib.cell_of_heap h1];rfl);clear h1);go_ret;exact⟨rfl,But.fresh HX.out x1 (by omega)⟩
theorem valid_cnt (nm:ByteArray)(dir:Bool)(b:Option Addr)(L:List Stm)(cap n:Nat)(w:World)(hn:n<=w.heap.size)(h:StmsAt n w b L)(hs:cntL L<=1099511627776)(hbig:BigL L)(hnm:nm.size<=9223372036854775807):
  Calls Tryz.prog 30 #[.agg #[.string nm,.bool dir,.slice b L.length cap]] w fun e w'=>e=.returned (.int .i64 (validE nm L))/\Ext w w':=by
 have hx0:Ext w (w.alloc (.cells #[.string nm,.bool dir,.slice b L.length cap] 33)):=(Ext.refl w).alloc _;have hnx:=fun w'=>isName_any nm hnm w'
 have hct:=fun w' (x:Ext w w')=>count_cnt nm dir b L cap n w' (Nat.le_trans hn x.size) (StmsAt.below (x.mono hn) L h) hs
 have hvv:=fun w' (x:Ext w w')=>visitV_cnt 1099511627776 L b cap 0 0 n w'.heap.size (w'.alloc (.cells #[.int .i64 0] 34)) hs (by omega) (by omega) (bgL_of 0 L hbig) (StmsAt.below ((x.alloc _).mono hn) L h) (Nat.le_trans hn x.size) (heap_alloc_new _ _)
 rw[runV_first] at hvv
 have hcl:∀ w1,Ext (w.alloc (.cells #[.string nm,.bool dir,.slice b L.length cap] 33)) w1->w1.cell? ⟨w.heap.size,0,none⟩=some (.string nm)/\w1.cell? ⟨w.heap.size,1,none⟩=some (.bool dir)/\w1.cell? ⟨w.heap.size,2,none⟩=some (.slice b L.length cap):=fun w1 x=>by
  have hb:=heap_alloc_new w (.cells #[.string nm,.bool dir,.slice b L.length cap] 33);refine⟨x.cell ?_,x.cell ?_,x.cell ?_⟩ <;> rw[Lib.cell_of_heap hb] <;> rfl
 obtain⟨V,hV⟩:∃ V,V=validE nm L:=⟨_,rfl⟩;rw[<-hV];unfold validE at hV;generalize nameB nm.data.toList=p at *;generalize (flatL 0 L).length=F at *;generalize firstE (flatL 0 L)=E at *;generalize (runA stepV 0 (flatL 0 L)).2=B at *;generalize L.length=N at *;have HN:=hid hnx;have HC:=hid hct;have HVV:=hid hvv;have HX:=hid hx0;have HCL:=hid hcl;clear hnx hct hvv h hs hx0 hnm hcl hbig;cases p
 ·have hf:Hid (V=5):=hid (by rw[hV,if_pos rfl]);clear hV;go_enter Tryz.func30,Tryz.ntmps30;go_wp2_with (go_at_call 58;refine(HN.out _).mono ?_;rintro e w3 ⟨rfl,rfl⟩);go_ret;exact⟨ret_int (by rw[hf.out]),HX.out⟩
 rw[if_neg (by decide)] at hV;by_cases hF:512 < F
 ·have hf:Hid (V=2):=hid (by rw[hV,if_pos hF]);have g1:decide ((512:Int) < F)=true:=decide_eq_true (by omega);clear hV;go_enter Tryz.func30,Tryz.ntmps30;go_wp2_with (first | (go_at_call 58;refine(HN.out _).mono ?_;rintro e w3 ⟨rfl,rfl⟩) | (go_at_call 68;refine(HC.out _ HX.out).mono ?_;rintro e w1 ⟨rfl,x1⟩));go_ret;exact⟨ret_int (by rw[hf.out]),HX.out.trans x1⟩
 have hf:Hid (V=E):=hid (by rw[hV,if_neg hF]);have g1:decide ((512:Int) < F)=false:=decide_eq_false (by omega);clear hV;go_enter Tryz.func30,Tryz.ntmps30;go_wp2_with (first | (go_at_call 58;refine(HN.out _).mono ?_;rintro e w3 ⟨rfl,rfl⟩) | (go_at_call 68;refine(HC.out _ HX.out).mono ?_;rintro e w1 ⟨rfl,x1⟩;obtain⟨k0,k1,k2⟩:=HCL.out _ (x1.alloc (.cells #[.int .i64 0] 34))) | (go_at_call 69;refine(HVV.out _ (HX.out.trans x1)).mono ?_;rintro e w2 ⟨rfl,h2,x2⟩;have q0:w2.cell? ⟨w1.heap.size,0,none⟩=some (.int .i64 E):=(by rw[Lib.cell_of_heap h2];rfl);clear h2));go_ret;exact⟨ret_int (by rw[hf.out]),(HX.out.trans x1).trans (But.fresh ((Ext.refl _).alloc _) x2 (Nat.le_refl _))⟩
end Go.Proofs.YtjaeedbjknejdaaGreatDoor.Nm

namespace Go.Proofs.YtjaeedbjknejdaaGreatDoor.Nm
open Go.Lib Fx Lx Tr At
theorem name16 {n:ByteArray}(h:nameB n.data.toList=true):n.size<=16:=by
 unfold nameB at h;simp only[Bool.and_eq_true,decide_eq_true_eq] at h;rw[size_len];exact h.1.1.2
theorem attrsGo_sm (kind:Int):∀ (L D:List Two),attrsGo kind L D=0->∀ q ∈ L,(kind ≠ 4->nameB q.1.data.toList=true)/\q.2.size<=32
 | [],_,_,q,hq=>by cases hq
 | x::r,D,h,q,hq=>by
  rw[attrsGo] at h;split at h
  ·exact absurd h (by decide)
  ·rename_i h1;split at h
   ·exact absurd h (by decide)
   split at h
   ·exact absurd h (by decide)
   rename_i h3;split at h
   ·exact absurd h (by decide)
   rcases List.mem_cons.1 hq with rfl | hq
   ·refine⟨fun hk=>?_,by omega⟩;cases hn:nameB q.1.data.toList
    ·exact absurd ⟨hk,hn⟩ h1
    rfl
   exact attrsGo_sm kind r _ h q hq
theorem okW_of (x:Stm)(lev:Nat)(h:stmE (x,lev)=0)(hr:x.refs.length<=1048576)(ha:x.attrs.length<=20):okW x:=by
 unfold stmE at h;dsimp only at h;split at h
 ·exact absurd h (by decide)
 rename_i hf;have hf:formB x=true:=by cases hb:formB x;exact absurd hb hf;rfl
 split at h
 ·exact absurd h (by decide)
 split at h
 ·exact absurd h (by decide)
 rename_i hn;split at h
 ·exact absurd h (by decide)
 rename_i hrb;have hrb:x.refs.all refB=true:=by cases hb:x.refs.all refB;exact absurd hb hrb;rfl
 obtain⟨hk,hk3,hk4⟩:=form_kinds x hf
 have hat:∀ q ∈ x.attrs,(x.kind ≠ 4->nameB q.1.data.toList=true)/\q.2.size<=32:=by
  unfold attrsE at h;split at h
  ·exact absurd h (by decide)
  exact attrsGo_sm _ _ _ h
 refine⟨fun r hr=>?_,hr,ha,fun q hq=>?_,?_,hf⟩
 ·have h1:=List.all_eq_true.1 hrb r hr;unfold refB at h1;rw[Bool.and_eq_true,Bool.or_eq_true,decide_eq_true_eq] at h1;have e1:=name16 h1.1
  have e2:r.2.size<=16:=by
   rcases h1.2 with e | e
   ·omega
   exact name16 e
  omega
 ·obtain⟨g1,g2⟩:=hat q hq;by_cases h5:x.kind=4
  ·obtain⟨v,hv,hs⟩:=hk4 h5;rw[hv,List.mem_singleton] at hq;subst hq;omega
  have:=name16 (g1 h5);omega
 have key:(x.kind=1\/x.kind=4\/x.kind=5)->x.name.size<=16:=fun hx=>by
  refine name16 ?_;cases hb:nameB x.name.data.toList
  ·exact absurd ⟨hx,hb⟩ hn
  rfl
 rcases hk with e | e | e | e | e
 ·have:=key (.inl e);omega
 ·unfold formB at hf;rw[if_neg (by omega),if_pos e] at hf;simp only[Bool.and_eq_true,decide_eq_true_eq] at hf;omega
 ·unfold formB at hf;rw[if_neg (by omega),if_neg (by omega),if_pos e] at hf;simp only[Bool.and_eq_true,Bool.or_eq_true,decide_eq_true_eq] at hf;rw[size_len];rcases hf.2 with e | e <;> (rw[e];decide)
 ·have:=key (.inr (.inl e));omega
 have:=key (.inr (.inr e));omega
theorem firstE_all : ∀ (L:List (Stm × Nat)),firstE L=0->∀ p ∈ L,stmE p=0
 | [],_,p,hp=>by cases hp
 | x::r,h,p,hp=>by
  rw[firstE] at h;by_cases h0:stmE x=0
  ·rw[if_neg (by omega)] at h;rcases List.mem_cons.1 hp with rfl | hp
   ·exact h0
   exact firstE_all r h p hp
  ·rw[if_pos h0] at h;exact absurd h h0
theorem ok_valid {nm:ByteArray}{L:List Stm}(h:validE nm L=0)(hf:∀ p ∈ flatL 0 L,p.1.refs.length<=1048576/\p.1.attrs.length<=20):nm.size<=16/\cntL L<=512/\okWL L:=by
 unfold validE at h;split at h
 ·exact absurd h (by decide)
 rename_i h1;split at h
 ·exact absurd h (by decide)
 rename_i h2;refine⟨name16 (by cases hb:nameB nm.data.toList;exact absurd hb h1;rfl),by rw[<-cntL_flat 0 L];omega,okWL_flat 0 L fun q hq=>?_⟩;obtain⟨hr,ha⟩:=hf q hq;exact okW_of q.1 q.2 (firstE_all _ h q hq) hr ha
end Go.Proofs.YtjaeedbjknejdaaGreatDoor.Nm
