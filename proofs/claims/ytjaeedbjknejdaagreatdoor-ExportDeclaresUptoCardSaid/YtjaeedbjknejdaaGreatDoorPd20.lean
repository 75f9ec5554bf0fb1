/- Packed texts: TreVisC -/
import Derived.Test.YtjaeedbjknejdaaGreatDoorPd16
set_option linter.unusedVariables false
set_option linter.unusedSimpArgs false
set_option maxHeartbeats 16000000
set_option maxRecDepth 100000
namespace Go.Proofs.YtjaeedbjknejdaaGreatDoor.Tr
open Go.RowKit Go.Sort Go.Lib Go.Shelf Fx Lx
theorem closC_any (kind:Int)(nm:ByteArray)(r a b:Option Addr)(R A B rc ac bc:Nat)(lev:Int)(acc:Int)(c:Nat)(T:TypeId)(w:World)(h:w.heap[c]? = some (.cells #[.int .i64 acc] T (0,0))):
  Calls Tryz.prog 134 #[.agg #[.int .i64 kind,.string nm,.slice r R rc,.slice a A ac,.slice b B bc],.int .i64 lev,.pointer (some ⟨c,0,none⟩)] w fun e w'=>e=.returned (.bool true)/\w'.heap[c]? = some (.cells #[.int .i64 (wrap64 (acc+1))] T (0,0))/\But c w w':=by
 have hcw:c < w.heap.size:=(Array.getElem?_eq_some_iff.1 h).1;have h1:∀ o,(w.alloc o).heap[c]? = some (.cells #[.int .i64 acc] T (0,0)):=fun o=>(Lib.alloc_old w o c hcw).trans h
 have hc:∀ o,(w.alloc o).cell? ⟨c,0,none⟩=some (.int .i64 acc):=fun o=>by rw[Lib.cell_of_heap (h1 o)];rfl
 have hf:∀ o,(w.alloc o).frozen? ⟨c,0,none⟩=false:=fun o=>Lib.frozen_of_heap (h1 o) 0
 have H1:=hid h1;clear h1 h hcw;go_enter Tryz.func134,Tryz.ntmps134;go_wp2;go_ret;exact⟨rfl,setOne (H1.out _) 0 _,((But.refl c w).alloc _).setCell ⟨c,0,none⟩ rfl _⟩
theorem visitC_any : ∀ (M:Nat) (L:List Stm) (b:Option Addr) (cap lev:Nat) (acc:Int) (n c:Nat) (w:World),sizeL L<=M->M<=maxLen->lev+M<=9223372036854775806->StmsAt n w b L->n<=c->w.heap[c]? = some (.cells #[.int .i64 acc] 3 (0,0)) ->
  Calls Tryz.prog 69 #[.slice b L.length cap,.int .i64 lev,.func (.func 134) #[] #[.pointer (some ⟨c,0,none⟩)]] w fun e w'=>e=.returned (.bool (runA stepC acc (flatL lev L)).2)/\w'.heap[c]? = some (.cells #[.int .i64 (runA stepC acc (flatL lev L)).1] 3 (0,0))/\But c w w':=by
 intro M
 induction M using Nat.strongRecOn with
 | _ M ih =>
 intro L b cap lev acc n c w hM hmax hlev h hnc hc;obtain⟨V,hV⟩:∃ V,V=runA stepC acc (flatL lev L):=⟨_,rfl⟩;rw[<-hV];have HV:Hid (V=runA stepC acc (flatL lev (L.drop 0))):=hid hV;obtain⟨N,hN⟩:∃ N,N=L.length:=⟨_,rfl⟩;have hNM:N<=9223372036854775807:=by have:=sizeL_len L;unfold maxLen at hmax;omega
 have hl1:lev<=9223372036854775806:=by omega
 rw[<-hN];have HN:=hid hN;have HI:=hid h;have HM:=hid hM;have HIH:=hid ih;have HMX:=hid hmax;have HLV:=hid hlev;have HCW:Hid (c < w.heap.size):=hid (Array.getElem?_eq_some_iff.1 hc).1;have HNC:=hid hnc;have HC0:=hid hc;clear hV hN h hM ih hmax hlev hnc hc;go_enter Tryz.func69,Tryz.ntmps69;go_wp2
 go_loopw [12] (fun i' wr=>∃ (k:Nat) (ac:Int),k<=N/\i'=.int .i64 k/\But c w wr/\Hid (wr.heap[c]? = some (.cells #[.int .i64 ac] 3 (0,0)))/\Hid (V=runA stepC ac (flatL lev (L.drop k)))) (fun i' _=>N - (RowKit.intOf i').toNat)
 case atStart=>exact⟨0,acc,by omega,rfl,But.refl _ _,HC0,HV⟩
 obtain⟨k,ac,hk,rfl,hx,hcc,hb⟩:=hrel;clear HV HC0;by_cases hlt:k < N
 ·have hkl:k < L.length:=by rw[<-HN.out];exact hlt
  have hin:=StmsAt.below (hx.below HNC.out (by have:=HCW.out;have:=HNC.out;omega)) L HI.out;obtain⟨g,o,rfl,hg,hst⟩:=StmsAt.at L hin k hkl;have hsz:sizeS L[k]<=M:=Nat.le_trans (sizeL_at L k hkl) HM.out;have hbb:=hb.out;rw[List.drop_eq_getElem_cons hkl,flatL_cons] at hbb;obtain⟨s,hs⟩:∃ s,s=L[k]:=⟨_,rfl⟩;rw[<-hs] at hst hsz hbb;clear hs hb hin;obtain⟨kind,nm,rs,al,body⟩:=s;have hbd:=sizeS_body (.mk kind nm rs al body);simp only[Stm.body,Stm.name,Stm.refs,Stm.attrs] at hbd;rw[flatS_mk,List.cons_append,runA,runA_app] at hbb;rw[StmAt] at hst;obtain⟨r,rc,a,atc,b',bc,c0,c1,c2,c3,c4,hr,ha,hbs,hl1',hl2,hl3,hl4,hl5⟩:=hst;have hwl:c < wr.heap.size:=Nat.lt_of_lt_of_le HCW.out hx.size;have hne:wr.heap.size ≠ c:=by omega
  have hxa:Ext wr (wr.alloc (.cells #[.int .i64 kind,.string nm,.slice r rs.length rc,.slice a al.length atc,.slice b' body.length bc] 67)):=(Ext.refl _).alloc _;have hcl:=stm_cells wr kind nm r a b' rs.length al.length body.length rc atc bc;have hcc2:=(hxa.block c hwl).trans hcc.out;have hclo:=closC_any kind nm r a b' rs.length al.length body.length rc atc bc lev ac c 3 (wr.alloc (.cells #[.int .i64 kind,.string nm,.slice r rs.length rc,.slice a al.length atc,.slice b' body.length bc] 67)) hcc2
  replace hclo:Calls Tryz.prog 134 #[.agg #[.int .i64 kind,.string nm,.slice r rs.length rc,.slice a al.length atc,.slice b' body.length bc],.int .i64 lev,.pointer (some ⟨c,0,none⟩)] (wr.alloc (.cells #[.int .i64 kind,.string nm,.slice r rs.length rc,.slice a al.length atc,.slice b' body.length bc] 67)) fun e w'=>e=.returned (.bool (stepC ac (.mk kind nm rs al body,lev)).2)/\w'.heap[c]? = some (.cells #[.int .i64 (stepC ac (.mk kind nm rs al body,lev)).1] 3 (0,0))/\But c (wr.alloc (.cells #[.int .i64 kind,.string nm,.slice r rs.length rc,.slice a al.length atc,.slice b' body.length bc] 67)) w':=hclo
  have hrec:∀ w1 acc1,But c wr w1->w1.heap[c]? = some (.cells #[.int .i64 acc1] 3 (0,0)) ->
    Calls Tryz.prog 69 #[.slice b' body.length bc,.int .i64 (if kind=5 then (lev:Int)+1 else lev),.func (.func 134) #[] #[.pointer (some ⟨c,0,none⟩)]] w1 fun e w'=>e=.returned (.bool (runA stepC acc1 (flatL (if kind=5 then lev+1 else lev) body)).2)/\w'.heap[c]? = some (.cells #[.int .i64 (runA stepC acc1 (flatL (if kind=5 then lev+1 else lev) body)).1] 3 (0,0))/\But c w1 w':=fun w1 acc1 x1 h1=>by
   have hcast:(if kind=5 then (lev:Int)+1 else lev)=((if kind=5 then lev+1 else lev:Nat):Int):=by split <;> simp
   rw[hcast];exact HIH.out (sizeL body) (by omega) body b' bc _ acc1 n c w1 (Nat.le_refl _) (by have:=HMX.out;omega) (by have:=HLV.out;split <;> omega) (StmsAt.below (x1.below HNC.out (by have:=HNC.out;omega)) body hbs) HNC.out h1
  have hx':But c w (wr.alloc (.cells #[.int .i64 kind,.string nm,.slice r rs.length rc,.slice a al.length atc,.slice b' body.length bc] 67)):=hx.alloc _;obtain⟨fl,hfl⟩:∃ fl,fl=flatL (if kind=5 then lev+1 else lev) body:=⟨_,rfl⟩;rw[<-hfl] at hrec hbb;obtain⟨p,q,hpq⟩:∃ p q,stepC ac (.mk kind nm rs al body,lev)=(p,q):=⟨_,_,rfl⟩;rw[hpq] at hclo hbb;obtain⟨u,v,huv⟩:∃ u v,runA stepC p fl=(u,v):=⟨_,_,rfl⟩;have hrec':=fun w1=>hrec w1 p
  rw[huv] at hrec' hbb;dsimp only at hclo hbb hrec';have HCLO:=hid hclo;have HREC:=hid hrec';have HCL:=hid hcl;clear hclo hrec hrec' hcl hr ha hbs hl1' hl2 hl3 hl4 hl5 hbd hsz hpq huv hfl hcc2 hcc hg hwl;have HXA:=hid hxa;have HNE:=hid hne;clear hxa hne;generalize rs.length=R at *;generalize al.length=A at *;generalize body.length=B at *;cases q
  ·rw[if_neg (by decide)] at hbb;have hf:=hid hbb;clear hbb;go_wp2_with (go_at_call 134;refine HCLO.out.mono ?_;rintro e w1 ⟨rfl,h1,x1⟩;replace h1:=hid h1);go_returns;rw[hf.out];exact⟨rfl,h1.out,hx'.trans x1⟩
  rw[if_pos rfl] at hbb;by_cases h5:kind=5
  ·subst h5;rw[if_pos rfl] at HREC;cases v
   ·rw[if_neg (by decide)] at hbb;have hf:=hid hbb;clear hbb;go_wp2_with (first | (go_at_call 134;refine HCLO.out.mono ?_;rintro e w1 ⟨rfl,h1,x1⟩;replace h1:=hid h1;have k0:=x1.cell (p:=⟨wr.heap.size,0,none⟩) HNE.out (HCL.out _ (Ext.refl _)).1;have k4:=x1.cell (p:=⟨wr.heap.size,4,none⟩) HNE.out (HCL.out _ (Ext.refl _)).2.2.2.2) | (go_at_call 69;refine(HREC.out _ ((But.of HXA.out).trans x1) h1.out).mono ?_;rintro e w2 ⟨rfl,h2,x2⟩;replace h2:=hid h2));go_returns;rw[hf.out];exact⟨rfl,h2.out,(hx'.trans x1).trans x2⟩
   rw[if_pos rfl] at hbb;have hf:=hid hbb;clear hbb;go_wp2_with (first | (go_at_call 134;refine HCLO.out.mono ?_;rintro e w1 ⟨rfl,h1,x1⟩;replace h1:=hid h1;have k0:=x1.cell (p:=⟨wr.heap.size,0,none⟩) HNE.out (HCL.out _ (Ext.refl _)).1;have k4:=x1.cell (p:=⟨wr.heap.size,4,none⟩) HNE.out (HCL.out _ (Ext.refl _)).2.2.2.2) | (go_at_call 69;refine(HREC.out _ ((But.of HXA.out).trans x1) h1.out).mono ?_;rintro e w2 ⟨rfl,h2,x2⟩;replace h2:=hid h2))
   go_roundw
   case rel=>exact⟨k+1,u,by omega,by go_num,(hx'.trans x1).trans x2,h2,hf⟩
   case measure=>simp[RowKit.intOf];omega
  obtain⟨f5,f5'⟩:=ne_facts h5;rw[if_neg h5] at HREC;clear h5;cases v
  ·rw[if_neg (by decide)] at hbb;have hf:=hid hbb;clear hbb;go_wp2_with (first | (go_at_call 134;refine HCLO.out.mono ?_;rintro e w1 ⟨rfl,h1,x1⟩;replace h1:=hid h1;have k0:=x1.cell (p:=⟨wr.heap.size,0,none⟩) HNE.out (HCL.out _ (Ext.refl _)).1;have k4:=x1.cell (p:=⟨wr.heap.size,4,none⟩) HNE.out (HCL.out _ (Ext.refl _)).2.2.2.2) | (go_at_call 69;refine(HREC.out _ ((But.of HXA.out).trans x1) h1.out).mono ?_;rintro e w2 ⟨rfl,h2,x2⟩;replace h2:=hid h2));go_returns;rw[hf.out];exact⟨rfl,h2.out,(hx'.trans x1).trans x2⟩
  rw[if_pos rfl] at hbb;have hf:=hid hbb;clear hbb;go_wp2_with (first | (go_at_call 134;refine HCLO.out.mono ?_;rintro e w1 ⟨rfl,h1,x1⟩;replace h1:=hid h1;have k0:=x1.cell (p:=⟨wr.heap.size,0,none⟩) HNE.out (HCL.out _ (Ext.refl _)).1;have k4:=x1.cell (p:=⟨wr.heap.size,4,none⟩) HNE.out (HCL.out _ (Ext.refl _)).2.2.2.2) | (go_at_call 69;refine(HREC.out _ ((But.of HXA.out).trans x1) h1.out).mono ?_;rintro e w2 ⟨rfl,h2,x2⟩;replace h2:=hid h2))
  go_roundw
  case rel=>exact⟨k+1,u,by omega,by go_num,(hx'.trans x1).trans x2,h2,hf⟩
  case measure=>simp[RowKit.intOf];omega
 have hf:Hid (V=(ac,true)):=hid (by rw[hb.out,List.drop_eq_nil_of_le (by rw[<-HN.out];omega),flatL_nil];rfl);clear hb;go_wp2;go_returns;rw[hf.out];exact⟨rfl,hcc.out,hx⟩
end Go.Proofs.YtjaeedbjknejdaaGreatDoor.Tr
