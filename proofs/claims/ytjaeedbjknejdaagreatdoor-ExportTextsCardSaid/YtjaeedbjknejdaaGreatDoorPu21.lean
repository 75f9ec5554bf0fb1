/- Packed texts: TreVisV, TreValid -/
import Derived.Test.YtjaeedbjknejdaaGreatDoorPu20
set_option linter.unusedVariables false
set_option linter.unusedSimpArgs false
set_option maxHeartbeats 16000000
set_option maxRecDepth 100000
namespace Go.Proofs.YtjaeedbjknejdaaGreatDoor.Tr
open Go.RowKit Go.Sort Go.Lib Go.Shelf Fx Lx
theorem ChkIn.ext {kind:Int}{nm:ByteArray}{rs al:List Two}{body:List Stm}{r a b:Option Addr}{rc ac bc:Nat}{w w':World}(h:ChkIn kind nm rs al body r a b rc ac bc w)(x:Ext w w'):ChkIn kind nm rs al body r a b rc ac bc w' :=
  ⟨h.hr.ext x,h.ha.ext x,h.hac,h.hrl,h.hn,h.hs,h.ht⟩
theorem closV_any (kind:Int)(nm:ByteArray)(rs al:List Two)(body:List Stm)(r a b:Option Addr)(rc ac bc lev:Nat)(acc:Int)(c:Nat)(T:TypeId)(w:World)(h:w.heap[c]? = some (.cells #[.int .i64 acc] T (0,0)))(hk:ChkIn kind nm rs al body r a b rc ac bc w):
    Calls Tryz.prog 70 #[.agg #[.int .i64 kind,.string nm,.slice r rs.length rc,.slice a al.length ac,.slice b body.length bc],.int .i64 lev,.pointer (some ⟨c,0,none⟩)] w fun e w'=>e=.returned (.bool (stepV acc (.mk kind nm rs al body,lev)).2)/\w'.heap[c]? = some (.cells #[.int .i64 (stepV acc (.mk kind nm rs al body,lev)).1] T (0,0))/\But c w w':=by
  have hcw:c < w.heap.size:=(Array.getElem?_eq_some_iff.1 h).1;have hx0:∀ o,Ext w (w.alloc o):=fun o=>(Ext.refl w).alloc o
  have h1:∀ o w1,Ext (w.alloc o) w1->w1.heap[c]? = some (.cells #[.int .i64 acc] T (0,0)):=fun o w1 x=>(x.block c (by simp;omega)).trans ((Lib.alloc_old w o c hcw).trans h)
  have hch:=fun o=>check_any kind nm rs al body r a b rc ac bc lev _ (hk.ext (hx0 o))
  unfold stepV;dsimp only;generalize stmE (.mk kind nm rs al body,lev)=E at *;generalize rs.length=R at *;generalize al.length=A at *;generalize body.length=B at *;have HCH:=Lib.hid hch;have H1:=Lib.hid h1;clear hk hch h1 h hcw;go_enter Tryz.func70,Tryz.ntmps70;go_wp2_with (go_at_call 71;refine(HCH.out _).mono ?_;rintro e w1 ⟨rfl,x1⟩;have q0:w1.cell? ⟨c,0,none⟩=some (.int .i64 acc):=(by rw[Lib.cell_of_heap (H1.out _ _ x1)];rfl);have q1:w1.frozen? ⟨c,0,none⟩=false:=Lib.frozen_of_heap (H1.out _ _ x1) 0;have q2:∀ v,(w1.setCell ⟨c,0,none⟩ v).cell? ⟨c,0,none⟩=some v:=fun v=>by rw[Lib.cell_of_heap (setOne (H1.out _ _ x1) 0 v)];rfl);go_ret;exact⟨ret_bool (by rw[Bool.eq_iff_iff,beq_iff_eq,decide_eq_true_eq]),setOne (H1.out _ _ x1) 0 _,(((But.refl c w).alloc _).ext x1).setCell ⟨c,0,none⟩ rfl _⟩
theorem visitV_any : ∀ (M:Nat) (L:List Stm) (b:Option Addr) (cap lev:Nat) (acc:Int) (n c:Nat) (w:World),sizeL L<=M->M<=maxLen->lev+M<=9223372036854775806->StmsAt n w b L->n<=c->w.heap[c]? = some (.cells #[.int .i64 acc] 34 (0,0)) ->
    Calls Tryz.prog 69 #[.slice b L.length cap,.int .i64 lev,.func (.func 70) #[] #[.pointer (some ⟨c,0,none⟩)]] w fun e w'=>e=.returned (.bool (runA stepV acc (flatL lev L)).2)/\w'.heap[c]? = some (.cells #[.int .i64 (runA stepV acc (flatL lev L)).1] 34 (0,0))/\But c w w':=by
  intro M
  induction M using Nat.strongRecOn with
  | _ M ih =>
  intro L b cap lev acc n c w hM hmax hlev h hnc hc;obtain⟨V,hV⟩:∃ V,V=runA stepV acc (flatL lev L):=⟨_,rfl⟩;rw[<-hV];have HV:Hid (V=runA stepV acc (flatL lev (L.drop 0))):=Lib.hid hV;obtain⟨N,hN⟩:∃ N,N=L.length:=⟨_,rfl⟩;have hNM:N<=9223372036854775807:=by have:=sizeL_len L;unfold maxLen at hmax;omega
  have hl1:lev<=9223372036854775806:=by omega
  rw[<-hN];have HN:=Lib.hid hN;have HI:=Lib.hid h;have HM:=Lib.hid hM;have HIH:=Lib.hid ih;have HMX:=Lib.hid hmax;have HLV:=Lib.hid hlev;have HCW:Hid (c < w.heap.size):=Lib.hid (Array.getElem?_eq_some_iff.1 hc).1;have HNC:=Lib.hid hnc;have HC0:=Lib.hid hc;clear hV hN h hM ih hmax hlev hnc hc;go_enter Tryz.func69,Tryz.ntmps69;go_wp2
  go_loopw [12] (fun i' wr=>∃ (k:Nat) (ac:Int),k<=N/\i'=.int .i64 k/\But c w wr/\Hid (wr.heap[c]? = some (.cells #[.int .i64 ac] 34 (0,0)))/\Hid (V=runA stepV ac (flatL lev (L.drop k)))) (fun i' _=>N - (RowKit.intOf i').toNat)
  case atStart=>exact⟨0,acc,by omega,rfl,But.refl _ _,HC0,HV⟩
  obtain⟨k,ac,hk,rfl,hx,hcc,hb⟩:=hrel;clear HV HC0;by_cases hlt:k < N
  · have hkl:k < L.length:=by rw[<-HN.out];exact hlt
    have hin:=StmsAt.below (hx.below HNC.out (by have:=HCW.out;have:=HNC.out;omega)) L HI.out;obtain⟨g,o,rfl,hg,hst⟩:=StmsAt.at L hin k hkl;have hsz:sizeS L[k]<=M:=Nat.le_trans (sizeL_at L k hkl) HM.out;have hbb:=hb.out;rw[List.drop_eq_getElem_cons hkl,flatL_cons] at hbb;obtain⟨s,hs⟩:∃ s,s=L[k]:=⟨_,rfl⟩;rw[<-hs] at hst hsz hbb;clear hs hb hin;obtain⟨kind,nm,rs,al,body⟩:=s;have hbd:=sizeS_body (.mk kind nm rs al body);simp only[Stm.body,Stm.name,Stm.refs,Stm.attrs] at hbd;rw[flatS_mk,List.cons_append,runA,runA_app] at hbb;rw[StmAt] at hst;obtain⟨r,rc,a,atc,b',bc,c0,c1,c2,c3,c4,hr,ha,hbs,hl1',hl2,hl3,hl4,hl5⟩:=hst;have hwl:c < wr.heap.size:=Nat.lt_of_lt_of_le HCW.out hx.size;have hne:wr.heap.size ≠ c:=by omega
    have hxa:Ext wr (wr.alloc (.cells #[.int .i64 kind,.string nm,.slice r rs.length rc,.slice a al.length atc,.slice b' body.length bc] 67)):=(Ext.refl _).alloc _;have hcl:=stm_cells wr kind nm r a b' rs.length al.length body.length rc atc bc;have hcc2:=(hxa.block c hwl).trans hcc.out;have hs1:∀ q ∈ al,q.1.size<=9223372036854775807/\q.2.size<=9223372036854775807:=fun q hq=>by have:=sizeTwo_at al q hq;have:=HMX.out;unfold maxLen at this;omega
    have ht1:∀ q ∈ rs,q.1.size<=9223372036854775807/\q.2.size<=9223372036854775807:=fun q hq=>by have:=sizeTwo_at rs q hq;have:=HMX.out;unfold maxLen at this;omega
    have hclo:=closV_any kind nm rs al body r a b' rc atc bc lev ac c 34 (wr.alloc (.cells #[.int .i64 kind,.string nm,.slice r rs.length rc,.slice a al.length atc,.slice b' body.length bc] 67)) hcc2 ⟨hr.in.ext hxa,ha.in.ext hxa,hl2,by omega,by have:=HMX.out;unfold maxLen at this;omega,hs1,ht1⟩;clear hs1 ht1
    have hrec:∀ w1 acc1,But c wr w1->w1.heap[c]? = some (.cells #[.int .i64 acc1] 34 (0,0)) ->
        Calls Tryz.prog 69 #[.slice b' body.length bc,.int .i64 (if kind=5 then (lev:Int)+1 else lev),.func (.func 70) #[] #[.pointer (some ⟨c,0,none⟩)]] w1 fun e w'=>e=.returned (.bool (runA stepV acc1 (flatL (if kind=5 then lev+1 else lev) body)).2)/\w'.heap[c]? = some (.cells #[.int .i64 (runA stepV acc1 (flatL (if kind=5 then lev+1 else lev) body)).1] 34 (0,0))/\But c w1 w':=fun w1 acc1 x1 h1=>by
      have hcast:(if kind=5 then (lev:Int)+1 else lev)=((if kind=5 then lev+1 else lev:Nat):Int):=by split <;> simp
      rw[hcast];exact HIH.out (sizeL body) (by omega) body b' bc _ acc1 n c w1 (Nat.le_refl _) (by have:=HMX.out;omega) (by have:=HLV.out;split <;> omega) (StmsAt.below (x1.below HNC.out (by have:=HNC.out;omega)) body hbs) HNC.out h1
    have hx':But c w (wr.alloc (.cells #[.int .i64 kind,.string nm,.slice r rs.length rc,.slice a al.length atc,.slice b' body.length bc] 67)):=hx.alloc _;obtain⟨fl,hfl⟩:∃ fl,fl=flatL (if kind=5 then lev+1 else lev) body:=⟨_,rfl⟩;rw[<-hfl] at hrec hbb;obtain⟨p,q,hpq⟩:∃ p q,stepV ac (.mk kind nm rs al body,lev)=(p,q):=⟨_,_,rfl⟩;rw[hpq] at hclo hbb;obtain⟨u,v,huv⟩:∃ u v,runA stepV p fl=(u,v):=⟨_,_,rfl⟩;have hrec':=fun w1=>hrec w1 p
    rw[huv] at hrec' hbb;dsimp only at hclo hbb hrec';have HCLO:=Lib.hid hclo;have HREC:=Lib.hid hrec';have HCL:=Lib.hid hcl;clear hclo hrec hrec' hcl hr ha hbs hl1' hl2 hl3 hl4 hl5 hbd hsz hpq huv hfl hcc2 hcc hg hwl;have HXA:=Lib.hid hxa;have HNE:=Lib.hid hne;clear hxa hne;generalize rs.length=R at *;generalize al.length=A at *;generalize body.length=B at *;cases q
    · rw[if_neg (by decide)] at hbb;have hf:=Lib.hid hbb;clear hbb;go_wp2_with (go_at_call 70;refine HCLO.out.mono ?_;rintro e w1 ⟨rfl,h1,x1⟩;replace h1:=Lib.hid h1);go_returns;rw[hf.out];exact⟨rfl,h1.out,hx'.trans x1⟩
    rw[if_pos rfl] at hbb;by_cases h5:kind=5
    · subst h5;rw[if_pos rfl] at HREC;cases v
      · rw[if_neg (by decide)] at hbb;have hf:=Lib.hid hbb;clear hbb;go_wp2_with (first | (go_at_call 70;refine HCLO.out.mono ?_;rintro e w1 ⟨rfl,h1,x1⟩;replace h1:=Lib.hid h1;have k0:=x1.cell (p:=⟨wr.heap.size,0,none⟩) HNE.out (HCL.out _ (Ext.refl _)).1;have k4:=x1.cell (p:=⟨wr.heap.size,4,none⟩) HNE.out (HCL.out _ (Ext.refl _)).2.2.2.2) | (go_at_call 69;refine(HREC.out _ ((But.of HXA.out).trans x1) h1.out).mono ?_;rintro e w2 ⟨rfl,h2,x2⟩;replace h2:=Lib.hid h2));go_returns;rw[hf.out];exact⟨rfl,h2.out,(hx'.trans x1).trans x2⟩
      rw[if_pos rfl] at hbb;have hf:=Lib.hid hbb;clear hbb;go_wp2_with (first | (go_at_call 70;refine HCLO.out.mono ?_;rintro e w1 ⟨rfl,h1,x1⟩;replace h1:=Lib.hid h1;have k0:=x1.cell (p:=⟨wr.heap.size,0,none⟩) HNE.out (HCL.out _ (Ext.refl _)).1;have k4:=x1.cell (p:=⟨wr.heap.size,4,none⟩) HNE.out (HCL.out _ (Ext.refl _)).2.2.2.2) | (go_at_call 69;refine(HREC.out _ ((But.of HXA.out).trans x1) h1.out).mono ?_;rintro e w2 ⟨rfl,h2,x2⟩;replace h2:=Lib.hid h2))
      go_roundw
      case rel=>exact⟨k+1,u,by omega,by go_num,(hx'.trans x1).trans x2,h2,hf⟩
      case measure=>simp[RowKit.intOf];omega
    obtain⟨f5,f5'⟩:=ne_facts h5;rw[if_neg h5] at HREC;clear h5;cases v
    · rw[if_neg (by decide)] at hbb;have hf:=Lib.hid hbb;clear hbb;go_wp2_with (first | (go_at_call 70;refine HCLO.out.mono ?_;rintro e w1 ⟨rfl,h1,x1⟩;replace h1:=Lib.hid h1;have k0:=x1.cell (p:=⟨wr.heap.size,0,none⟩) HNE.out (HCL.out _ (Ext.refl _)).1;have k4:=x1.cell (p:=⟨wr.heap.size,4,none⟩) HNE.out (HCL.out _ (Ext.refl _)).2.2.2.2) | (go_at_call 69;refine(HREC.out _ ((But.of HXA.out).trans x1) h1.out).mono ?_;rintro e w2 ⟨rfl,h2,x2⟩;replace h2:=Lib.hid h2));go_returns;rw[hf.out];exact⟨rfl,h2.out,(hx'.trans x1).trans x2⟩
    rw[if_pos rfl] at hbb;have hf:=Lib.hid hbb;clear hbb;go_wp2_with (first | (go_at_call 70;refine HCLO.out.mono ?_;rintro e w1 ⟨rfl,h1,x1⟩;replace h1:=Lib.hid h1;have k0:=x1.cell (p:=⟨wr.heap.size,0,none⟩) HNE.out (HCL.out _ (Ext.refl _)).1;have k4:=x1.cell (p:=⟨wr.heap.size,4,none⟩) HNE.out (HCL.out _ (Ext.refl _)).2.2.2.2) | (go_at_call 69;refine(HREC.out _ ((But.of HXA.out).trans x1) h1.out).mono ?_;rintro e w2 ⟨rfl,h2,x2⟩;replace h2:=Lib.hid h2))
    go_roundw
    case rel=>exact⟨k+1,u,by omega,by go_num,(hx'.trans x1).trans x2,h2,hf⟩
    case measure=>simp[RowKit.intOf];omega
  have hf:Hid (V=(ac,true)):=Lib.hid (by rw[hb.out,List.drop_eq_nil_of_le (by rw[<-HN.out];omega),flatL_nil];rfl);clear hb;go_wp2;go_returns;rw[hf.out];exact⟨rfl,hcc.out,hx⟩
end Go.Proofs.YtjaeedbjknejdaaGreatDoor.Tr

namespace Go.Proofs.YtjaeedbjknejdaaGreatDoor.Tr
open Go.RowKit Go.Sort Go.Lib Go.Shelf Fx Lx
theorem two_new (w:World)(o o':Obj):((w.alloc o).alloc o').heap[w.heap.size+1]? = some o':=by
  have h:=heap_alloc_new (w.alloc o) o';rw[show(w.alloc o).heap.size=w.heap.size+1 by simp] at h;exact h
theorem count_any (nm:ByteArray)(dir:Bool)(b:Option Addr)(L:List Stm)(cap n:Nat)(w:World)(hn:n<=w.heap.size)(h:StmsAt n w b L)(hs:sizeL L<=1048576):
    Calls Tryz.prog 68 #[.agg #[.string nm,.bool dir,.slice b L.length cap]] w fun e w'=>e=.returned (.int .i64 (flatL 0 L).length)/\Ext w w':=by
  have hx:Ext w ((w.alloc (.cells #[.string nm,.bool dir,.slice b L.length cap] 33)).alloc (.cells #[.int .i64 0] 3)):=((Ext.refl w).alloc _).alloc _;have hv:=visitC_any 1048576 L b cap 0 0 n (w.heap.size+1) ((w.alloc (.cells #[.string nm,.bool dir,.slice b L.length cap] 33)).alloc (.cells #[.int .i64 0] 3)) hs (by unfold maxLen;omega) (by omega) (StmsAt.below (hx.mono hn) L h) (by omega) (two_new w _ _);have hfl:=flatL_len 0 L;rw[runC_len (flatL 0 L) 0 (by omega) (by omega),Int.zero_add] at hv;generalize (flatL 0 L).length=F at *;generalize L.length=N at *;have HV:=Lib.hid hv;have HX:=Lib.hid hx;clear hv h hfl hs hx;go_enter Tryz.func68,Tryz.ntmps68;go_wp2_with (go_at_call 69;refine HV.out.mono ?_;rintro e w1 ⟨rfl,h1,x1⟩;have q0:w1.cell? ⟨w.heap.size+1,0,none⟩=some (.int .i64 F):=(by rw[Lib.cell_of_heap h1];rfl);clear h1);go_ret
  exact⟨rfl,But.fresh HX.out x1 (by omega)⟩
theorem valid_any (nm:ByteArray)(dir:Bool)(b:Option Addr)(L:List Stm)(cap n:Nat)(w:World)(hn:n<=w.heap.size)(h:StmsAt n w b L)(hs:sizeL L<=1048576)(hnm:nm.size<=9223372036854775807):
    Calls Tryz.prog 30 #[.agg #[.string nm,.bool dir,.slice b L.length cap]] w fun e w'=>e=.returned (.int .i64 (validE nm L))/\Ext w w':=by
  have hx0:Ext w (w.alloc (.cells #[.string nm,.bool dir,.slice b L.length cap] 33)):=(Ext.refl w).alloc _;have hnx:=fun w'=>isName_any nm hnm w'
  have hct:=fun w' (x:Ext w w')=>count_any nm dir b L cap n w' (Nat.le_trans hn x.size) (StmsAt.below (x.mono hn) L h) hs
  have hvv:=fun w' (x:Ext w w')=>visitV_any 1048576 L b cap 0 0 n w'.heap.size (w'.alloc (.cells #[.int .i64 0] 34)) hs (by unfold maxLen;omega) (by omega) (StmsAt.below ((x.alloc _).mono hn) L h) (Nat.le_trans hn x.size) (heap_alloc_new _ _)
  rw[runV_first] at hvv
  have hcl:∀ w1,Ext (w.alloc (.cells #[.string nm,.bool dir,.slice b L.length cap] 33)) w1->w1.cell? ⟨w.heap.size,0,none⟩=some (.string nm)/\w1.cell? ⟨w.heap.size,1,none⟩=some (.bool dir)/\w1.cell? ⟨w.heap.size,2,none⟩=some (.slice b L.length cap):=fun w1 x=>by
    have hb:=heap_alloc_new w (.cells #[.string nm,.bool dir,.slice b L.length cap] 33);refine⟨x.cell ?_,x.cell ?_,x.cell ?_⟩ <;> rw[Lib.cell_of_heap hb] <;> rfl
  obtain⟨V,hV⟩:∃ V,V=validE nm L:=⟨_,rfl⟩;rw[<-hV];unfold validE at hV;generalize nameB nm.data.toList=p at *;generalize (flatL 0 L).length=F at *;generalize firstE (flatL 0 L)=E at *;generalize (runA stepV 0 (flatL 0 L)).2=B at *;generalize L.length=N at *;have HN:=Lib.hid hnx;have HC:=Lib.hid hct;have HVV:=Lib.hid hvv;have HX:=Lib.hid hx0;have HCL:=Lib.hid hcl;clear hnx hct hvv h hs hx0 hnm hcl;cases p
  · have hf:Hid (V=5):=Lib.hid (by rw[hV,if_pos rfl]);clear hV;go_enter Tryz.func30,Tryz.ntmps30;go_wp2_with (go_at_call 58;refine(HN.out _).mono ?_;rintro e w3 ⟨rfl,rfl⟩);go_ret;exact⟨ret_int (by rw[hf.out]),HX.out⟩
  rw[if_neg (by decide)] at hV;by_cases hF:512 < F
  · have hf:Hid (V=2):=Lib.hid (by rw[hV,if_pos hF]);have g1:decide ((512:Int) < F)=true:=decide_eq_true (by omega);clear hV;go_enter Tryz.func30,Tryz.ntmps30;go_wp2_with (first | (go_at_call 58;refine(HN.out _).mono ?_;rintro e w3 ⟨rfl,rfl⟩) | (go_at_call 68;refine(HC.out _ HX.out).mono ?_;rintro e w1 ⟨rfl,x1⟩));go_ret;exact⟨ret_int (by rw[hf.out]),HX.out.trans x1⟩
  have hf:Hid (V=E):=Lib.hid (by rw[hV,if_neg hF]);have g1:decide ((512:Int) < F)=false:=decide_eq_false (by omega);clear hV;go_enter Tryz.func30,Tryz.ntmps30;go_wp2_with (first | (go_at_call 58;refine(HN.out _).mono ?_;rintro e w3 ⟨rfl,rfl⟩) | (go_at_call 68;refine(HC.out _ HX.out).mono ?_;rintro e w1 ⟨rfl,x1⟩;obtain⟨k0,k1,k2⟩:=HCL.out _ (x1.alloc (.cells #[.int .i64 0] 34))) | (go_at_call 69;refine(HVV.out _ (HX.out.trans x1)).mono ?_;rintro e w2 ⟨rfl,h2,x2⟩;have q0:w2.cell? ⟨w1.heap.size,0,none⟩=some (.int .i64 E):=(by rw[Lib.cell_of_heap h2];rfl);clear h2));go_ret;exact⟨ret_int (by rw[hf.out]),(HX.out.trans x1).trans (But.fresh ((Ext.refl _).alloc _) x2 (Nat.le_refl _))⟩
end Go.Proofs.YtjaeedbjknejdaaGreatDoor.Tr
