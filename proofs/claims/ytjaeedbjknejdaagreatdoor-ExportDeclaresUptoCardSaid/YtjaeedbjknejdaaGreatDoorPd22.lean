/- Packed texts: TreAttrs, TreCheck, TreVisV, TreValid -/
import Derived.Test.YtjaeedbjknejdaaGreatDoorPd19
import Derived.Test.YtjaeedbjknejdaaGreatDoorPd20
set_option linter.unusedVariables false
set_option linter.unusedSimpArgs false
set_option maxHeartbeats 16000000
set_option maxRecDepth 100000
namespace Go.Proofs.YtjaeedbjknejdaaGreatDoor.Tr
open Go.RowKit Go.Sort Go.Lib Go.Shelf Fx Lx
theorem atr_cells (w:World)(k v:ByteArray):∀ w1,Ext (w.alloc (.cells #[.string k,.string v] 69)) w1 ->
  w1.cell? ⟨w.heap.size,0,none⟩=some (.string k)/\w1.cell? ⟨w.heap.size,1,none⟩=some (.string v):=fun w1 x=>by
 have hb:=heap_alloc_new w (.cells #[.string k,.string v] 69);refine⟨x.cell ?_,x.cell ?_⟩ <;> rw[Lib.cell_of_heap hb] <;> rfl
theorem attrsGo_cons (kind:Int)(q:Two)(r done:List Two):attrsGo kind (q::r) done =
  if kind ≠ 4/\nameB q.1.data.toList=false then 5 else if hasA done q.1=true then 6 else if 32 < q.2.size then 2 else if q.2.data.toList.all okT=false then 7 else attrsGo kind r (done++[q]):=by
 rw[attrsGo];rfl
theorem attrs_name (kind:Int)(nm:ByteArray)(r a b:Option Addr)(R B rc ac bc:Nat)(al:List Two)(w:World)(hkd:kind ≠ 4)(h:TwoIn w a al)(hcap:al.length<=ac)(hs:∀ q ∈ al,q.1.size<=9223372036854775807/\q.2.size<=9223372036854775807)(h16:al.length<=16):
  Calls Tryz.prog 137 #[.agg #[.int .i64 kind,.string nm,.slice r R rc,.slice a al.length ac,.slice b B bc]] w fun e w'=>e=.returned (.int .i64 (attrsGo kind al []))/\Ext w w':=by
 obtain⟨V,hV⟩:∃ V,V=attrsGo kind al []:=⟨_,rfl⟩;rw[<-hV];have HV:Hid (V=attrsGo kind (al.drop 0) (al.take 0)):=hid hV;obtain⟨f4,f4'⟩:=ne_facts hkd;have HKD:=hid hkd;obtain⟨N,hN⟩:∃ N,N=al.length:=⟨_,rfl⟩;have hx0:Ext w (w.alloc (.cells #[.int .i64 kind,.string nm,.slice r R rc,.slice a al.length ac,.slice b B bc] 67)):=(Ext.refl _).alloc _;have hcl:=stm_cells w kind nm r a b R al.length B rc ac bc;rw[<-hN] at h16 hcap hcl hx0 ⊢;have HCL:=hid hcl;have HN:=hid hN;have HI:=hid h;have HS:=hid hs;clear hV hN h hs hcl hkd;go_enter Tryz.func137,Tryz.ntmps137;go_wp2
 go_loopw [13] (fun i' wr=>∃ k:Nat,k<=N/\i'=.int .i64 k/\Ext (w.alloc (.cells #[.int .i64 kind,.string nm,.slice r R rc,.slice a N ac,.slice b B bc] 67)) wr/\Hid (V=attrsGo kind (al.drop k) (al.take k))) (fun i' _=>N - (RowKit.intOf i').toNat)
 case atStart=>exact⟨0,by omega,rfl,Ext.refl _,HV⟩
 obtain⟨k,hk,rfl,hx,ha⟩:=hrel;clear HV;by_cases hlt:k < N
 ·have hkl:k < al.length:=by rw[<-HN.out];exact hlt
  have hin:=HI.out.ext (hx0.trans hx);obtain⟨g,o,rfl,c0,c1⟩:=hin k hkl;obtain⟨n,d,hq⟩:∃ n d,al[k]=(n,d):=⟨_,_,rfl⟩;rw[hq] at c0 c1;have hst:=ha.out;rw[List.drop_eq_getElem_cons hkl,attrsGo_cons,hq] at hst;have htk:al.take k++[(n,d)]=al.take (k+1):=by rw[List.take_succ_eq_append_getElem hkl,hq]
  rw[htk] at hst;dsimp only at hst;have hds:n.size<=9223372036854775807/\d.size<=9223372036854775807:=by have h:=HS.out _ (List.getElem_mem hkl);rw[hq] at h;exact h
  have hxb:Ext wr (wr.alloc (.cells #[.string n,.string d] 69)):=(Ext.refl _).alloc _;have hlk:(al.take k).length=k:=by rw[List.length_take];omega
  have s0:=(HCL.out wr hx).1;have s3:=(HCL.out wr hx).2.2.2.1;have t0:=(HCL.out _ (hx.trans hxb)).1;have t3:=(HCL.out _ (hx.trans hxb)).2.2.2.1;have hnm:=fun w=>isName_any n hds.1 w
  have hge:Calls Tryz.prog 191 #[.slice (some ⟨g,o,none⟩) k ac,.func (.func 192) #[] #[.pointer (some ⟨wr.heap.size,0,none⟩)]] (wr.alloc (.cells #[.string n,.string d] 69)) fun e w'=>e=.returned (.bool (hasA (al.take k) n))/\Ext (wr.alloc (.cells #[.string n,.string d] 69)) w':=by
   have hi2:TwoIn (wr.alloc (.cells #[.string n,.string d] 69)) (some ⟨g,o,none⟩) (al.take k):=fun j hj=>by
    have hj2:j < al.length:=by rw[hlk] at hj;omega
    obtain⟨g',o',e1,d0,d1⟩:=(hin.ext hxb) j hj2;rw[List.getElem_take];exact⟨g',o',e1,d0,d1⟩
   have h:=hasA_any (some ⟨g,o,none⟩) (al.take k) ac n ⟨wr.heap.size,0,none⟩ _ hi2 (atr_cells wr n d _ (Ext.refl _)).1 (by rw[hlk];omega);rw[hlk] at h;exact h
  have hat:=atr_cells wr n d;have hdz:=hds.2;generalize nameB n.data.toList=p at hst hnm;generalize hasA (al.take k) n=t at hst hge;obtain⟨q,hq'⟩:∃ q,q=d.data.toList.all okT:=⟨_,rfl⟩;rw[<-hq'] at hst;have HQ:Hid (q=(d.data.toList.drop 0).all okT):=hid (by rw[List.drop_zero];exact hq');have HGE:=hid hge;have HNM:=hid hnm;have HAT:=hid hat;clear hge htk hq ha hds hlk hin hat hnm hq';cases p
  ·rw[if_pos ⟨HKD.out,rfl⟩] at hst;have hf:=hid hst;clear hst;go_wp2_with (first | (go_at_call 58;refine(HNM.out _).mono ?_;rintro e w3 ⟨rfl,rfl⟩) | (go_at_call 191;refine HGE.out.mono ?_;rintro e w3 ⟨rfl,x3⟩;have e0:=(HAT.out _ x3).1;have e1:=(HAT.out _ x3).2;have u0:=(HCL.out _ ((hx.trans hxb).trans x3)).1;have u3:=(HCL.out _ ((hx.trans hxb).trans x3)).2.2.2.1));go_returns;exact⟨by rw[hf.out];rfl,(hx0.trans hx).trans hxb⟩
  rw[if_neg (fun h=>absurd h.2 (by decide))] at hst;cases t
  ·rw[if_neg (by decide)] at hst;by_cases h32:32 < d.size
   ·rw[if_pos h32] at hst;have hf:=hid hst;have g1:decide ((32:Int) < d.size)=true:=decide_eq_true (by omega);clear hst;go_wp2_with (first | (go_at_call 58;refine(HNM.out _).mono ?_;rintro e w3 ⟨rfl,rfl⟩) | (go_at_call 191;refine HGE.out.mono ?_;rintro e w3 ⟨rfl,x3⟩;have e0:=(HAT.out _ x3).1;have e1:=(HAT.out _ x3).2;have u0:=(HCL.out _ ((hx.trans hxb).trans x3)).1;have u3:=(HCL.out _ ((hx.trans hxb).trans x3)).2.2.2.1));go_returns;exact⟨by rw[hf.out];rfl,((hx0.trans hx).trans hxb).trans x3⟩
   rw[if_neg h32] at hst;have g1:decide ((32:Int) < d.size)=false:=decide_eq_false (by omega);have HST:=hid hst;clear hst;go_wp2_with (first | (go_at_call 58;refine(HNM.out _).mono ?_;rintro e w3 ⟨rfl,rfl⟩) | (go_at_call 191;refine HGE.out.mono ?_;rintro e w3 ⟨rfl,x3⟩;have e0:=(HAT.out _ x3).1;have e1:=(HAT.out _ x3).2;have u0:=(HCL.out _ ((hx.trans hxb).trans x3)).1;have u3:=(HCL.out _ ((hx.trans hxb).trans x3)).2.2.2.1))
   go_loop [43] (fun j'=>∃ j:Nat,j<=d.size/\j'=.int .i64 j/\Hid (q=(d.data.toList.drop j).all okT)) (fun j'=>d.size - (RowKit.intOf j').toNat)
   case atStart=>exact⟨0,by omega,rfl,HQ⟩
   obtain⟨j,hj,rfl,hb⟩:=hrel;clear HQ;by_cases hjd:j < d.size
   ·have hb':=hb.out
    have hd:d.data.toList.drop j=d[j]::d.data.toList.drop (j+1):=by
     rw[List.drop_eq_getElem_cons (by rw[<-size_len];exact hjd)];rfl
    rw[hd,List.all_cons] at hb';clear hb hd;by_cases k1:32<=d[j].toNat
    ·by_cases k2:d[j].toNat<=126
     ·have hf:Hid (q=(d.data.toList.drop (j+1)).all okT):=hid (by
       rw[hb'];unfold okT;rw[decide_eq_true k1,decide_eq_true k2];rfl)
      have g2:decide ((126:Int) < d[j].toNat)=false:=decide_eq_false (by omega);have g3:decide ((d[j].toNat:Int) < 32)=false:=decide_eq_false (by omega);clear hb';go_wp2
      go_round
      case rel=>exact⟨j+1,by omega,by go_num,hf⟩
      case measure=>simp[RowKit.intOf];omega
     have hf:Hid (q=false):=hid (by
      rw[hb'];unfold okT;rw[decide_eq_false k2];simp)
     have g2:decide ((126:Int) < d[j].toNat)=true:=decide_eq_true (by omega);have g3:decide ((d[j].toNat:Int) < 32)=false:=decide_eq_false (by omega);clear hb';go_wp2;go_returns;exact⟨ret_int (by rw[HST.out,hf.out];rfl),((hx0.trans hx).trans hxb).trans x3⟩
    have hf:Hid (q=false):=hid (by
     rw[hb'];unfold okT;rw[decide_eq_false k1];simp)
    have g3:decide ((d[j].toNat:Int) < 32)=true:=decide_eq_true (by omega);clear hb';go_wp2;go_returns;exact⟨ret_int (by rw[HST.out,hf.out];rfl),((hx0.trans hx).trans hxb).trans x3⟩
   have hf:Hid (V=attrsGo kind (al.drop (k+1)) (al.take (k+1))):=hid (by
    rw[HST.out,hb.out,List.drop_eq_nil_of_le (by rw[<-size_len];omega)];rfl)
   clear hb;go_wp2
   go_roundw
   case rel=>exact⟨k+1,by omega,by go_num,(hx.trans hxb).trans x3,hf⟩
   case measure=>simp[RowKit.intOf];omega
  rw[if_pos rfl] at hst;have hf:=hid hst;clear hst;go_wp2_with (first | (go_at_call 58;refine(HNM.out _).mono ?_;rintro e w3 ⟨rfl,rfl⟩) | (go_at_call 191;refine HGE.out.mono ?_;rintro e w3 ⟨rfl,x3⟩;have e0:=(HAT.out _ x3).1;have e1:=(HAT.out _ x3).2;have u0:=(HCL.out _ ((hx.trans hxb).trans x3)).1;have u3:=(HCL.out _ ((hx.trans hxb).trans x3)).2.2.2.1));go_returns;exact⟨by rw[hf.out];rfl,((hx0.trans hx).trans hxb).trans x3⟩
 have hf:Hid (V=0):=hid (by rw[ha.out,List.drop_eq_nil_of_le (by rw[<-HN.out];omega)];rfl);clear ha;go_wp2;go_returns;exact⟨by rw[hf.out];rfl,hx0.trans hx⟩
theorem attrs_four (kind:Int)(nm:ByteArray)(r a b:Option Addr)(R B rc ac bc:Nat)(al:List Two)(w:World)(hkd:kind=4)(h:TwoIn w a al)(hcap:al.length<=ac)(hs:∀ q ∈ al,q.1.size<=9223372036854775807/\q.2.size<=9223372036854775807)(h16:al.length<=16):
  Calls Tryz.prog 137 #[.agg #[.int .i64 kind,.string nm,.slice r R rc,.slice a al.length ac,.slice b B bc]] w fun e w'=>e=.returned (.int .i64 (attrsGo kind al []))/\Ext w w':=by
 obtain⟨V,hV⟩:∃ V,V=attrsGo kind al []:=⟨_,rfl⟩;rw[<-hV];have HV:Hid (V=attrsGo kind (al.drop 0) (al.take 0)):=hid hV;obtain⟨f4,f4'⟩:=eq_facts hkd;have HKD:=hid hkd;obtain⟨N,hN⟩:∃ N,N=al.length:=⟨_,rfl⟩;have hx0:Ext w (w.alloc (.cells #[.int .i64 kind,.string nm,.slice r R rc,.slice a al.length ac,.slice b B bc] 67)):=(Ext.refl _).alloc _;have hcl:=stm_cells w kind nm r a b R al.length B rc ac bc;rw[<-hN] at h16 hcap hcl hx0 ⊢;have HCL:=hid hcl;have HN:=hid hN;have HI:=hid h;have HS:=hid hs;clear hV hN h hs hcl hkd;go_enter Tryz.func137,Tryz.ntmps137;go_wp2
 go_loopw [13] (fun i' wr=>∃ k:Nat,k<=N/\i'=.int .i64 k/\Ext (w.alloc (.cells #[.int .i64 kind,.string nm,.slice r R rc,.slice a N ac,.slice b B bc] 67)) wr/\Hid (V=attrsGo kind (al.drop k) (al.take k))) (fun i' _=>N - (RowKit.intOf i').toNat)
 case atStart=>exact⟨0,by omega,rfl,Ext.refl _,HV⟩
 obtain⟨k,hk,rfl,hx,ha⟩:=hrel;clear HV;by_cases hlt:k < N
 ·have hkl:k < al.length:=by rw[<-HN.out];exact hlt
  have hin:=HI.out.ext (hx0.trans hx);obtain⟨g,o,rfl,c0,c1⟩:=hin k hkl;obtain⟨n,d,hq⟩:∃ n d,al[k]=(n,d):=⟨_,_,rfl⟩;rw[hq] at c0 c1;have hst:=ha.out;rw[List.drop_eq_getElem_cons hkl,attrsGo_cons,hq] at hst;have htk:al.take k++[(n,d)]=al.take (k+1):=by rw[List.take_succ_eq_append_getElem hkl,hq]
  rw[htk] at hst;dsimp only at hst;have hds:n.size<=9223372036854775807/\d.size<=9223372036854775807:=by have h:=HS.out _ (List.getElem_mem hkl);rw[hq] at h;exact h
  have hxb:Ext wr (wr.alloc (.cells #[.string n,.string d] 69)):=(Ext.refl _).alloc _;have hlk:(al.take k).length=k:=by rw[List.length_take];omega
  have s0:=(HCL.out wr hx).1;have s3:=(HCL.out wr hx).2.2.2.1;have t0:=(HCL.out _ (hx.trans hxb)).1;have t3:=(HCL.out _ (hx.trans hxb)).2.2.2.1;have hnm:=fun w=>isName_any n hds.1 w
  have hge:Calls Tryz.prog 191 #[.slice (some ⟨g,o,none⟩) k ac,.func (.func 192) #[] #[.pointer (some ⟨wr.heap.size,0,none⟩)]] (wr.alloc (.cells #[.string n,.string d] 69)) fun e w'=>e=.returned (.bool (hasA (al.take k) n))/\Ext (wr.alloc (.cells #[.string n,.string d] 69)) w':=by
   have hi2:TwoIn (wr.alloc (.cells #[.string n,.string d] 69)) (some ⟨g,o,none⟩) (al.take k):=fun j hj=>by
    have hj2:j < al.length:=by rw[hlk] at hj;omega
    obtain⟨g',o',e1,d0,d1⟩:=(hin.ext hxb) j hj2;rw[List.getElem_take];exact⟨g',o',e1,d0,d1⟩
   have h:=hasA_any (some ⟨g,o,none⟩) (al.take k) ac n ⟨wr.heap.size,0,none⟩ _ hi2 (atr_cells wr n d _ (Ext.refl _)).1 (by rw[hlk];omega);rw[hlk] at h;exact h
  have hat:=atr_cells wr n d;have hdz:=hds.2;generalize nameB n.data.toList=p at hst hnm;generalize hasA (al.take k) n=t at hst hge;obtain⟨q,hq'⟩:∃ q,q=d.data.toList.all okT:=⟨_,rfl⟩;rw[<-hq'] at hst;have HQ:Hid (q=(d.data.toList.drop 0).all okT):=hid (by rw[List.drop_zero];exact hq');have HGE:=hid hge;have HNM:=hid hnm;have HAT:=hid hat;clear hge htk hq ha hds hlk hin hat hnm hq';rw[if_neg (fun h=>absurd HKD.out h.1)] at hst;clear HNM;cases t
  ·rw[if_neg (by decide)] at hst;by_cases h32:32 < d.size
   ·rw[if_pos h32] at hst;have hf:=hid hst;have g1:decide ((32:Int) < d.size)=true:=decide_eq_true (by omega);clear hst;go_wp2_with (first | (go_at_call 58;refine(HNM.out _).mono ?_;rintro e w3 ⟨rfl,rfl⟩) | (go_at_call 191;refine HGE.out.mono ?_;rintro e w3 ⟨rfl,x3⟩;have e0:=(HAT.out _ x3).1;have e1:=(HAT.out _ x3).2;have u0:=(HCL.out _ ((hx.trans hxb).trans x3)).1;have u3:=(HCL.out _ ((hx.trans hxb).trans x3)).2.2.2.1));go_returns;exact⟨by rw[hf.out];rfl,((hx0.trans hx).trans hxb).trans x3⟩
   rw[if_neg h32] at hst;have g1:decide ((32:Int) < d.size)=false:=decide_eq_false (by omega);have HST:=hid hst;clear hst;go_wp2_with (first | (go_at_call 58;refine(HNM.out _).mono ?_;rintro e w3 ⟨rfl,rfl⟩) | (go_at_call 191;refine HGE.out.mono ?_;rintro e w3 ⟨rfl,x3⟩;have e0:=(HAT.out _ x3).1;have e1:=(HAT.out _ x3).2;have u0:=(HCL.out _ ((hx.trans hxb).trans x3)).1;have u3:=(HCL.out _ ((hx.trans hxb).trans x3)).2.2.2.1))
   go_loop [43] (fun j'=>∃ j:Nat,j<=d.size/\j'=.int .i64 j/\Hid (q=(d.data.toList.drop j).all okT)) (fun j'=>d.size - (RowKit.intOf j').toNat)
   case atStart=>exact⟨0,by omega,rfl,HQ⟩
   obtain⟨j,hj,rfl,hb⟩:=hrel;clear HQ;by_cases hjd:j < d.size
   ·have hb':=hb.out
    have hd:d.data.toList.drop j=d[j]::d.data.toList.drop (j+1):=by
     rw[List.drop_eq_getElem_cons (by rw[<-size_len];exact hjd)];rfl
    rw[hd,List.all_cons] at hb';clear hb hd;by_cases k1:32<=d[j].toNat
    ·by_cases k2:d[j].toNat<=126
     ·have hf:Hid (q=(d.data.toList.drop (j+1)).all okT):=hid (by
       rw[hb'];unfold okT;rw[decide_eq_true k1,decide_eq_true k2];rfl)
      have g2:decide ((126:Int) < d[j].toNat)=false:=decide_eq_false (by omega);have g3:decide ((d[j].toNat:Int) < 32)=false:=decide_eq_false (by omega);clear hb';go_wp2
      go_round
      case rel=>exact⟨j+1,by omega,by go_num,hf⟩
      case measure=>simp[RowKit.intOf];omega
     have hf:Hid (q=false):=hid (by
      rw[hb'];unfold okT;rw[decide_eq_false k2];simp)
     have g2:decide ((126:Int) < d[j].toNat)=true:=decide_eq_true (by omega);have g3:decide ((d[j].toNat:Int) < 32)=false:=decide_eq_false (by omega);clear hb';go_wp2;go_returns;exact⟨ret_int (by rw[HST.out,hf.out];rfl),((hx0.trans hx).trans hxb).trans x3⟩
    have hf:Hid (q=false):=hid (by
     rw[hb'];unfold okT;rw[decide_eq_false k1];simp)
    have g3:decide ((d[j].toNat:Int) < 32)=true:=decide_eq_true (by omega);clear hb';go_wp2;go_returns;exact⟨ret_int (by rw[HST.out,hf.out];rfl),((hx0.trans hx).trans hxb).trans x3⟩
   have hf:Hid (V=attrsGo kind (al.drop (k+1)) (al.take (k+1))):=hid (by
    rw[HST.out,hb.out,List.drop_eq_nil_of_le (by rw[<-size_len];omega)];rfl)
   clear hb;go_wp2
   go_roundw
   case rel=>exact⟨k+1,by omega,by go_num,(hx.trans hxb).trans x3,hf⟩
   case measure=>simp[RowKit.intOf];omega
  rw[if_pos rfl] at hst;have hf:=hid hst;clear hst;go_wp2_with (first | (go_at_call 58;refine(HNM.out _).mono ?_;rintro e w3 ⟨rfl,rfl⟩) | (go_at_call 191;refine HGE.out.mono ?_;rintro e w3 ⟨rfl,x3⟩;have e0:=(HAT.out _ x3).1;have e1:=(HAT.out _ x3).2;have u0:=(HCL.out _ ((hx.trans hxb).trans x3)).1;have u3:=(HCL.out _ ((hx.trans hxb).trans x3)).2.2.2.1));go_returns;exact⟨by rw[hf.out];rfl,((hx0.trans hx).trans hxb).trans x3⟩
 have hf:Hid (V=0):=hid (by rw[ha.out,List.drop_eq_nil_of_le (by rw[<-HN.out];omega)];rfl);clear ha;go_wp2;go_returns;exact⟨by rw[hf.out];rfl,hx0.trans hx⟩
theorem attrs_any (kind:Int)(nm:ByteArray)(rs al:List Two)(body:List Stm)(r a b:Option Addr)(rc ac bc:Nat)(w:World)(h:TwoIn w a al)(hcap:al.length<=ac)(hs:∀ q ∈ al,q.1.size<=9223372036854775807/\q.2.size<=9223372036854775807):
  Calls Tryz.prog 137 #[.agg #[.int .i64 kind,.string nm,.slice r rs.length rc,.slice a al.length ac,.slice b body.length bc]] w fun e w'=>e=.returned (.int .i64 (attrsE (.mk kind nm rs al body)))/\Ext w w':=by
 rw[show attrsE (.mk kind nm rs al body)=if 16 < al.length then 2 else attrsGo kind al [] from rfl];by_cases h16:16 < al.length
 ·rw[if_pos h16];have g1:decide ((16:Int) < al.length)=true:=decide_eq_true (by omega);clear h hs hcap h16;generalize al.length=N at *;generalize rs.length=R at *;generalize body.length=B at *;go_enter Tryz.func137,Tryz.ntmps137;go_wp2;go_ret;exact⟨rfl,(Ext.refl _).alloc _⟩
 rw[if_neg h16];by_cases h4:kind=4
 ·exact attrs_four kind nm r a b _ _ rc ac bc al w h4 h hcap hs (by omega)
 exact attrs_name kind nm r a b _ _ rc ac bc al w h4 h hcap hs (by omega)
end Go.Proofs.YtjaeedbjknejdaaGreatDoor.Tr

namespace Go.Proofs.YtjaeedbjknejdaaGreatDoor.Tr
open Go.RowKit Go.Sort Go.Lib Go.Shelf Fx Lx
def headE (p:Stm × Nat):Int :=
 if formB p.1=false then 1
 else if p.1.kind=5/\6<=p.2 then 2
 else if(p.1.kind=1\/p.1.kind=4\/p.1.kind=5)/\nameB p.1.name.data.toList=false then 5
 else 0
theorem stmE_eq (p:Stm × Nat):stmE p=if headE p ≠ 0 then headE p else if p.1.refs.all refB=false then 5 else attrsE p.1:=by
 unfold stmE headE;by_cases h1:formB p.1=false
 ·rw[if_pos h1,if_pos h1,if_pos (by decide)]
 rw[if_neg h1,if_neg h1];by_cases h2:p.1.kind=5/\6<=p.2
 ·rw[if_pos h2,if_pos h2,if_pos (by decide)]
 rw[if_neg h2,if_neg h2];by_cases h3:(p.1.kind=1\/p.1.kind=4\/p.1.kind=5)/\nameB p.1.name.data.toList=false
 ·rw[if_pos h3,if_pos h3,if_pos (by decide)]
 rw[if_neg h3,if_neg h3,if_neg (show ¬ ((0:Int) ≠ 0) by decide)]
theorem headE_mk (k:Int)(nm:ByteArray)(rs al:List Two)(body:List Stm)(lev:Nat):headE (.mk k nm rs al body,lev) =
  if formB (.mk k nm rs al body)=false then 1
  else if k=5/\6<=lev then 2
  else if(k=1\/k=4\/k=5)/\nameB nm.data.toList=false then 5
  else 0:=rfl
structure ChkIn (kind:Int)(nm:ByteArray)(rs al:List Two)(body:List Stm)(r a b:Option Addr)(rc ac bc:Nat)(w:World):Prop where
 hr:TwoIn w r rs
 ha:TwoIn w a al
 hac:al.length<=ac
 hrl:rs.length<=maxLen
 hn:nm.size<=9223372036854775807
 hs:∀ q ∈ al,q.1.size<=9223372036854775807/\q.2.size<=9223372036854775807
 ht:∀ q ∈ rs,q.1.size<=9223372036854775807/\q.2.size<=9223372036854775807
theorem check_any (kind:Int)(nm:ByteArray)(rs al:List Two)(body:List Stm)(r a b:Option Addr)(rc ac bc lev:Nat)(w:World)(h:ChkIn kind nm rs al body r a b rc ac bc w):
  Calls Tryz.prog 71 #[.agg #[.int .i64 kind,.string nm,.slice r rs.length rc,.slice a al.length ac,.slice b body.length bc],.int .i64 lev] w fun e w'=>e=.returned (.int .i64 (stmE (.mk kind nm rs al body,lev)))/\Ext w w':=by
 rw[stmE_eq];obtain⟨hr,ha,hac,hrl,hn,hs,ht⟩:=h;have hfm:=fun w' (x:Ext w w')=>form_any kind nm rs al body r a b rc ac bc w' (ha.ext x)
 have hat:=fun w' (x:Ext w w')=>attrs_any kind nm rs al body r a b rc ac bc w' (ha.ext x) hac hs
 obtain⟨X,hX⟩:∃ X,X=headE (.mk kind nm rs al body,lev):=⟨_,rfl⟩;rw[<-hX];rw[headE_mk] at hX;rw[show(Stm.mk kind nm rs al body,lev).1.refs=rs from rfl];dsimp only;have hnd:=named_any kind;have hnm:=fun w=>isName_any nm hn w
 have hx0:Ext w (w.alloc (.cells #[.int .i64 kind,.string nm,.slice r rs.length rc,.slice a al.length ac,.slice b body.length bc] 67)):=(Ext.refl _).alloc _;have hcl:=stm_cells w kind nm r a b rs.length al.length body.length rc ac bc;generalize formB (.mk kind nm rs al body)=fb at hfm hX;generalize attrsE (.mk kind nm rs al body)=ae at hat ⊢;generalize body.length=B at *;generalize al.length=A at *;generalize nameB nm.data.toList=nb at hnm hX;have HFM:=hid hfm;have HAT:=hid hat;have HND:=hid hnd;have HNM:=hid hnm;have HCL:=hid hcl;have HR:=hid hr;have HT:=hid ht;obtain⟨N,hN⟩:∃ N,N=rs.length:=⟨_,rfl⟩;rw[<-hN] at HFM HAT HCL hx0 hrl ⊢;have HN:=hid hN;have hrl9:N<=9223372036854775807:=by unfold maxLen at hrl;omega
 clear hfm hat hnd hnm hcl hr ht hs ha hn hac hN hrl;cases fb
 ·rw[if_pos rfl] at hX;subst hX;rw[if_pos (by decide)];go_enter Tryz.func71,Tryz.ntmps71;go_wp2_with (go_at_call 135;refine(HFM.out _ hx0).mono ?_;rintro e w1 ⟨rfl,x1⟩);go_ret;exact⟨rfl,hx0.trans x1⟩
 rw[if_neg (by decide)] at hX;by_cases h2:kind=5/\6<=lev
 ·rw[if_pos h2] at hX;subst hX;rw[if_pos (by decide)];obtain⟨rfl,h6⟩:=h2;have g1:decide ((6:Int)<=lev)=true:=decide_eq_true (by omega);go_enter Tryz.func71,Tryz.ntmps71;go_wp2_with (go_at_call 135;refine(HFM.out _ hx0).mono ?_;rintro e w1 ⟨rfl,x1⟩;have k0:=(HCL.out _ x1).1);go_ret;exact⟨rfl,hx0.trans x1⟩
 rw[if_neg h2] at hX;obtain⟨F,hF⟩:∃ F,F=rs.all refB:=⟨_,rfl⟩;rw[<-hF];have HF:Hid (F=(rs.drop 0).all refB):=hid hF;clear hF
 have arms:((kind == 5)=true/\decide ((6:Int)<=lev)=false/\decide (kind=1\/kind=4\/kind=5)=true)\/((kind == 5)=false/\decide ((6:Int)<=lev)=decide ((6:Int)<=lev)/\decide (kind=1\/kind=4\/kind=5)=decide (kind=1\/kind=4\/kind=5)):=by
  by_cases h5:kind=5
  ·exact .inl ⟨by rw[h5];rfl,decide_eq_false (fun h=>h2 ⟨h5,by omega⟩),decide_eq_true (.inr (.inr h5))⟩
  exact .inr ⟨(ne_facts h5).1,rfl,rfl⟩
 have hX':X=if decide (kind=1\/kind=4\/kind=5)=true/\nb=false then 5 else 0:=by
  rw[hX];simp only[decide_eq_true_eq]
 clear hX h2;generalize decide (kind=1\/kind=4\/kind=5)=tn at arms HND hX'
 have three:((kind == 5)=true/\decide ((6:Int)<=lev)=false/\tn=true)\/((kind == 5)=false/\tn=true)\/((kind == 5)=false/\tn=false):=by
  rcases arms with h | ⟨h,_⟩
  ·exact .inl h
  cases tn
  ·exact .inr (.inr ⟨h,rfl⟩)
  exact .inr (.inl ⟨h,rfl⟩)
 clear arms;have HX:=hid hX';clear hX';by_cases hq:tn=true/\nb=false
 ·have hX0:X=5:=by rw[HX.out,if_pos hq]
  subst hX0;obtain⟨rfl,rfl⟩:=hq;rw[if_pos (by decide)];rcases three with⟨f5,g6,-⟩ | ⟨f5,-⟩ | ⟨-,h⟩
  case inr.inr=>exact absurd h (by decide)
  all_goals
   go_enter Tryz.func71,Tryz.ntmps71;go_wp2_with (first | (go_at_call 135;refine(HFM.out _ hx0).mono ?_;rintro e w1 ⟨rfl,x1⟩;obtain⟨k0,k1,k2,k3,k4⟩:=HCL.out _ x1) | (go_at_call 136;refine(HND.out _).mono ?_;rintro e w3 ⟨rfl,rfl⟩) | (go_at_call 58;refine(HNM.out _).mono ?_;rintro e w3 ⟨rfl,rfl⟩));go_ret;exact⟨rfl,hx0.trans x1⟩
 have hX0:X=0:=by rw[HX.out,if_neg hq]
 subst hX0;rw[if_neg (by decide)];clear HX
 have four:((kind == 5)=true/\decide ((6:Int)<=lev)=false/\tn=true/\nb=true)\/((kind == 5)=false/\tn=true/\nb=true)\/((kind == 5)=false/\tn=false/\nb=nb):=by
  cases tn
  ·rcases three with⟨_,_,h⟩ | ⟨_,h⟩ | ⟨h,_⟩
   ·exact absurd h (by decide)
   ·exact absurd h (by decide)
   exact .inr (.inr ⟨h,rfl,rfl⟩)
  cases nb
  ·exact absurd ⟨rfl,rfl⟩ hq
  rcases three with⟨h,g,_⟩ | ⟨h,_⟩ | ⟨_,h⟩
  ·exact .inl ⟨h,g,rfl,rfl⟩
  ·exact .inr (.inl ⟨h,rfl,rfl⟩)
  exact absurd h (by decide)
 clear three hq;obtain⟨V,hV⟩:∃ V,V=if F=false then 5 else ae:=⟨_,rfl⟩;rw[<-hV];have HVV:=hid hV;clear hV;rcases four with⟨f5,g6,rfl,rfl⟩ | ⟨f5,rfl,rfl⟩ | ⟨f5,rfl,-⟩
 all_goals
  go_enter Tryz.func71,Tryz.ntmps71;go_wp2_with (first | (go_at_call 135;refine(HFM.out _ hx0).mono ?_;rintro e w1 ⟨rfl,x1⟩;obtain⟨k0,k1,k2,k3,k4⟩:=HCL.out _ x1) | (go_at_call 136;refine(HND.out _).mono ?_;rintro e w3 ⟨rfl,rfl⟩) | (go_at_call 58;refine(HNM.out _).mono ?_;rintro e w3 ⟨rfl,rfl⟩))
  go_loopw [32] (fun i' wr=>∃ k:Nat,k<=N/\i'=.int .i64 k/\Ext (w.alloc (.cells #[.int .i64 kind,.string nm,.slice r N rc,.slice a A ac,.slice b B bc] 67)) wr/\Hid (F=(rs.drop k).all refB)) (fun i' _=>N - (RowKit.intOf i').toNat)
  case atStart=>exact⟨0,by omega,rfl,x1,HF⟩
  obtain⟨k,hk,rfl,hx,hb⟩:=hrel;clear HF x1;by_cases hlt:k < N
  ·have hkl:k < rs.length:=by rw[<-HN.out];exact hlt
   obtain⟨g,o,rfl,c0,c1⟩:=(HR.out.ext (hx0.trans hx)) k hkl;obtain⟨n,d,hq⟩:∃ n d,rs[k]=(n,d):=⟨_,_,rfl⟩;rw[hq] at c0 c1;have hst:=hb.out;rw[List.drop_eq_getElem_cons hkl,List.all_cons,hq] at hst;have hds:=HT.out _ (List.getElem_mem hkl);rw[hq] at hds;have hx1:=hx.alloc (.cells #[.string n,.string d] 90);have hz:=@size0 d;unfold refB at hst;dsimp only at hst;generalize decide (d.size=0)=z at hst hz;have HDS:=hid hds;clear hq hb hds hkl;cases hp:nameB n.data.toList
   ·have hf:Hid (F=false):=hid (by rw[hst,hp];rfl);clear hst hz;go_wp2_with (go_at_call 58;refine(isName_any _ (by first | exact HDS.out.1 | exact HDS.out.2) _).mono ?_;rintro e w3 ⟨rfl,rfl⟩);go_returns;exact⟨ret_int (by rw[HVV.out,hf.out];rfl),hx0.trans hx1⟩
   cases z
   ·cases hq2:nameB d.data.toList
    ·have hf:Hid (F=false):=hid (by rw[hst,hp,hq2];rfl);clear hst;go_wp2_with (go_at_call 58;refine(isName_any _ (by first | exact HDS.out.1 | exact HDS.out.2) _).mono ?_;rintro e w3 ⟨rfl,rfl⟩);go_returns;exact⟨ret_int (by rw[HVV.out,hf.out];rfl),hx0.trans hx1⟩
    have hf:Hid (F=(rs.drop (k+1)).all refB):=hid (by rw[hst,hp,hq2];rfl);clear hst;go_wp2_with (go_at_call 58;refine(isName_any _ (by first | exact HDS.out.1 | exact HDS.out.2) _).mono ?_;rintro e w3 ⟨rfl,rfl⟩)
    go_roundw
    case rel=>exact⟨k+1,by omega,by go_num,hx1,hf⟩
    case measure=>simp[RowKit.intOf];omega
   have hf:Hid (F=(rs.drop (k+1)).all refB):=hid (by rw[hst,hp];rfl);clear hst;go_wp2_with (go_at_call 58;refine(isName_any _ (by first | exact HDS.out.1 | exact HDS.out.2) _).mono ?_;rintro e w3 ⟨rfl,rfl⟩)
   go_roundw
   case rel=>exact⟨k+1,by omega,by go_num,hx1,hf⟩
   case measure=>simp[RowKit.intOf];omega
  have hf:Hid (F=true):=hid (by rw[hb.out,List.drop_eq_nil_of_le (by rw[<-HN.out];omega)];rfl);clear hb;obtain⟨k0,k1,k2,k3,k4⟩:=HCL.out _ hx;go_wp2_with (go_at_call 137;refine(HAT.out _ (hx0.trans hx)).mono ?_;rintro e w3 ⟨rfl,x3⟩);go_returns;exact⟨ret_int (by rw[HVV.out,hf.out];rfl),(hx0.trans hx).trans x3⟩
end Go.Proofs.YtjaeedbjknejdaaGreatDoor.Tr

namespace Go.Proofs.YtjaeedbjknejdaaGreatDoor.Tr
open Go.RowKit Go.Sort Go.Lib Go.Shelf Fx Lx
theorem ChkIn.ext {kind:Int}{nm:ByteArray}{rs al:List Two}{body:List Stm}{r a b:Option Addr}{rc ac bc:Nat}{w w':World}(h:ChkIn kind nm rs al body r a b rc ac bc w)(x:Ext w w'):ChkIn kind nm rs al body r a b rc ac bc w' :=
 ⟨h.hr.ext x,h.ha.ext x,h.hac,h.hrl,h.hn,h.hs,h.ht⟩
theorem closV_any (kind:Int)(nm:ByteArray)(rs al:List Two)(body:List Stm)(r a b:Option Addr)(rc ac bc lev:Nat)(acc:Int)(c:Nat)(T:TypeId)(w:World)(h:w.heap[c]? = some (.cells #[.int .i64 acc] T (0,0)))(hk:ChkIn kind nm rs al body r a b rc ac bc w):
  Calls Tryz.prog 70 #[.agg #[.int .i64 kind,.string nm,.slice r rs.length rc,.slice a al.length ac,.slice b body.length bc],.int .i64 lev,.pointer (some ⟨c,0,none⟩)] w fun e w'=>e=.returned (.bool (stepV acc (.mk kind nm rs al body,lev)).2)/\w'.heap[c]? = some (.cells #[.int .i64 (stepV acc (.mk kind nm rs al body,lev)).1] T (0,0))/\But c w w':=by
 have hcw:c < w.heap.size:=(Array.getElem?_eq_some_iff.1 h).1;have hx0:∀ o,Ext w (w.alloc o):=fun o=>(Ext.refl w).alloc o
 have h1:∀ o w1,Ext (w.alloc o) w1->w1.heap[c]? = some (.cells #[.int .i64 acc] T (0,0)):=fun o w1 x=>(x.block c (by simp;omega)).trans ((Lib.alloc_old w o c hcw).trans h)
 have hch:=fun o=>check_any kind nm rs al body r a b rc ac bc lev _ (hk.ext (hx0 o))
 unfold stepV;dsimp only;generalize stmE (.mk kind nm rs al body,lev)=E at *;generalize rs.length=R at *;generalize al.length=A at *;generalize body.length=B at *;have HCH:=hid hch;have H1:=hid h1;clear hk hch h1 h hcw;go_enter Tryz.func70,Tryz.ntmps70;go_wp2_with (go_at_call 71;refine(HCH.out _).mono ?_;rintro e w1 ⟨rfl,x1⟩;have q0:w1.cell? ⟨c,0,none⟩=some (.int .i64 acc):=(by rw[Lib.cell_of_heap (H1.out _ _ x1)];rfl);have q1:w1.frozen? ⟨c,0,none⟩=false:=Lib.frozen_of_heap (H1.out _ _ x1) 0;have q2:∀ v,(w1.setCell ⟨c,0,none⟩ v).cell? ⟨c,0,none⟩=some v:=fun v=>by rw[Lib.cell_of_heap (setOne (H1.out _ _ x1) 0 v)];rfl);go_ret;exact⟨ret_bool (by rw[Bool.eq_iff_iff,beq_iff_eq,decide_eq_true_eq]),setOne (H1.out _ _ x1) 0 _,(((But.refl c w).alloc _).ext x1).setCell ⟨c,0,none⟩ rfl _⟩
theorem visitV_any : ∀ (M:Nat) (L:List Stm) (b:Option Addr) (cap lev:Nat) (acc:Int) (n c:Nat) (w:World),sizeL L<=M->M<=maxLen->lev+M<=9223372036854775806->StmsAt n w b L->n<=c->w.heap[c]? = some (.cells #[.int .i64 acc] 34 (0,0)) ->
  Calls Tryz.prog 69 #[.slice b L.length cap,.int .i64 lev,.func (.func 70) #[] #[.pointer (some ⟨c,0,none⟩)]] w fun e w'=>e=.returned (.bool (runA stepV acc (flatL lev L)).2)/\w'.heap[c]? = some (.cells #[.int .i64 (runA stepV acc (flatL lev L)).1] 34 (0,0))/\But c w w':=by
 intro M
 induction M using Nat.strongRecOn with
 | _ M ih =>
 intro L b cap lev acc n c w hM hmax hlev h hnc hc;obtain⟨V,hV⟩:∃ V,V=runA stepV acc (flatL lev L):=⟨_,rfl⟩;rw[<-hV];have HV:Hid (V=runA stepV acc (flatL lev (L.drop 0))):=hid hV;obtain⟨N,hN⟩:∃ N,N=L.length:=⟨_,rfl⟩;have hNM:N<=9223372036854775807:=by have:=sizeL_len L;unfold maxLen at hmax;omega
 have hl1:lev<=9223372036854775806:=by omega
 rw[<-hN];have HN:=hid hN;have HI:=hid h;have HM:=hid hM;have HIH:=hid ih;have HMX:=hid hmax;have HLV:=hid hlev;have HCW:Hid (c < w.heap.size):=hid (Array.getElem?_eq_some_iff.1 hc).1;have HNC:=hid hnc;have HC0:=hid hc;clear hV hN h hM ih hmax hlev hnc hc;go_enter Tryz.func69,Tryz.ntmps69;go_wp2
 go_loopw [12] (fun i' wr=>∃ (k:Nat) (ac:Int),k<=N/\i'=.int .i64 k/\But c w wr/\Hid (wr.heap[c]? = some (.cells #[.int .i64 ac] 34 (0,0)))/\Hid (V=runA stepV ac (flatL lev (L.drop k)))) (fun i' _=>N - (RowKit.intOf i').toNat)
 case atStart=>exact⟨0,acc,by omega,rfl,But.refl _ _,HC0,HV⟩
 obtain⟨k,ac,hk,rfl,hx,hcc,hb⟩:=hrel;clear HV HC0;by_cases hlt:k < N
 ·have hkl:k < L.length:=by rw[<-HN.out];exact hlt
  have hin:=StmsAt.below (hx.below HNC.out (by have:=HCW.out;have:=HNC.out;omega)) L HI.out;obtain⟨g,o,rfl,hg,hst⟩:=StmsAt.at L hin k hkl;have hsz:sizeS L[k]<=M:=Nat.le_trans (sizeL_at L k hkl) HM.out;have hbb:=hb.out;rw[List.drop_eq_getElem_cons hkl,flatL_cons] at hbb;obtain⟨s,hs⟩:∃ s,s=L[k]:=⟨_,rfl⟩;rw[<-hs] at hst hsz hbb;clear hs hb hin;obtain⟨kind,nm,rs,al,body⟩:=s;have hbd:=sizeS_body (.mk kind nm rs al body);simp only[Stm.body,Stm.name,Stm.refs,Stm.attrs] at hbd;rw[flatS_mk,List.cons_append,runA,runA_app] at hbb;rw[StmAt] at hst;obtain⟨r,rc,a,atc,b',bc,c0,c1,c2,c3,c4,hr,ha,hbs,hl1',hl2,hl3,hl4,hl5⟩:=hst;have hwl:c < wr.heap.size:=Nat.lt_of_lt_of_le HCW.out hx.size;have hne:wr.heap.size ≠ c:=by omega
  have hxa:Ext wr (wr.alloc (.cells #[.int .i64 kind,.string nm,.slice r rs.length rc,.slice a al.length atc,.slice b' body.length bc] 67)):=(Ext.refl _).alloc _;have hcl:=stm_cells wr kind nm r a b' rs.length al.length body.length rc atc bc;have hcc2:=(hxa.block c hwl).trans hcc.out;have hs1:∀ q ∈ al,q.1.size<=9223372036854775807/\q.2.size<=9223372036854775807:=fun q hq=>by have:=sizeTwo_at al q hq;have:=HMX.out;unfold maxLen at this;omega
  have ht1:∀ q ∈ rs,q.1.size<=9223372036854775807/\q.2.size<=9223372036854775807:=fun q hq=>by have:=sizeTwo_at rs q hq;have:=HMX.out;unfold maxLen at this;omega
  have hclo:=closV_any kind nm rs al body r a b' rc atc bc lev ac c 34 (wr.alloc (.cells #[.int .i64 kind,.string nm,.slice r rs.length rc,.slice a al.length atc,.slice b' body.length bc] 67)) hcc2 ⟨hr.in.ext hxa,ha.in.ext hxa,hl2,by omega,by have:=HMX.out;unfold maxLen at this;omega,hs1,ht1⟩;clear hs1 ht1
  have hrec:∀ w1 acc1,But c wr w1->w1.heap[c]? = some (.cells #[.int .i64 acc1] 34 (0,0)) ->
    Calls Tryz.prog 69 #[.slice b' body.length bc,.int .i64 (if kind=5 then (lev:Int)+1 else lev),.func (.func 70) #[] #[.pointer (some ⟨c,0,none⟩)]] w1 fun e w'=>e=.returned (.bool (runA stepV acc1 (flatL (if kind=5 then lev+1 else lev) body)).2)/\w'.heap[c]? = some (.cells #[.int .i64 (runA stepV acc1 (flatL (if kind=5 then lev+1 else lev) body)).1] 34 (0,0))/\But c w1 w':=fun w1 acc1 x1 h1=>by
   have hcast:(if kind=5 then (lev:Int)+1 else lev)=((if kind=5 then lev+1 else lev:Nat):Int):=by split <;> simp
   rw[hcast];exact HIH.out (sizeL body) (by omega) body b' bc _ acc1 n c w1 (Nat.le_refl _) (by have:=HMX.out;omega) (by have:=HLV.out;split <;> omega) (StmsAt.below (x1.below HNC.out (by have:=HNC.out;omega)) body hbs) HNC.out h1
  have hx':But c w (wr.alloc (.cells #[.int .i64 kind,.string nm,.slice r rs.length rc,.slice a al.length atc,.slice b' body.length bc] 67)):=hx.alloc _;obtain⟨fl,hfl⟩:∃ fl,fl=flatL (if kind=5 then lev+1 else lev) body:=⟨_,rfl⟩;rw[<-hfl] at hrec hbb;obtain⟨p,q,hpq⟩:∃ p q,stepV ac (.mk kind nm rs al body,lev)=(p,q):=⟨_,_,rfl⟩;rw[hpq] at hclo hbb;obtain⟨u,v,huv⟩:∃ u v,runA stepV p fl=(u,v):=⟨_,_,rfl⟩;have hrec':=fun w1=>hrec w1 p
  rw[huv] at hrec' hbb;dsimp only at hclo hbb hrec';have HCLO:=hid hclo;have HREC:=hid hrec';have HCL:=hid hcl;clear hclo hrec hrec' hcl hr ha hbs hl1' hl2 hl3 hl4 hl5 hbd hsz hpq huv hfl hcc2 hcc hg hwl;have HXA:=hid hxa;have HNE:=hid hne;clear hxa hne;generalize rs.length=R at *;generalize al.length=A at *;generalize body.length=B at *;cases q
  ·rw[if_neg (by decide)] at hbb;have hf:=hid hbb;clear hbb;go_wp2_with (go_at_call 70;refine HCLO.out.mono ?_;rintro e w1 ⟨rfl,h1,x1⟩;replace h1:=hid h1);go_returns;rw[hf.out];exact⟨rfl,h1.out,hx'.trans x1⟩
  rw[if_pos rfl] at hbb;by_cases h5:kind=5
  ·subst h5;rw[if_pos rfl] at HREC;cases v
   ·rw[if_neg (by decide)] at hbb;have hf:=hid hbb;clear hbb;go_wp2_with (first | (go_at_call 70;refine HCLO.out.mono ?_;rintro e w1 ⟨rfl,h1,x1⟩;replace h1:=hid h1;have k0:=x1.cell (p:=⟨wr.heap.size,0,none⟩) HNE.out (HCL.out _ (Ext.refl _)).1;have k4:=x1.cell (p:=⟨wr.heap.size,4,none⟩) HNE.out (HCL.out _ (Ext.refl _)).2.2.2.2) | (go_at_call 69;refine(HREC.out _ ((But.of HXA.out).trans x1) h1.out).mono ?_;rintro e w2 ⟨rfl,h2,x2⟩;replace h2:=hid h2));go_returns;rw[hf.out];exact⟨rfl,h2.out,(hx'.trans x1).trans x2⟩
   rw[if_pos rfl] at hbb;have hf:=hid hbb;clear hbb;go_wp2_with (first | (go_at_call 70;refine HCLO.out.mono ?_;rintro e w1 ⟨rfl,h1,x1⟩;replace h1:=hid h1;have k0:=x1.cell (p:=⟨wr.heap.size,0,none⟩) HNE.out (HCL.out _ (Ext.refl _)).1;have k4:=x1.cell (p:=⟨wr.heap.size,4,none⟩) HNE.out (HCL.out _ (Ext.refl _)).2.2.2.2) | (go_at_call 69;refine(HREC.out _ ((But.of HXA.out).trans x1) h1.out).mono ?_;rintro e w2 ⟨rfl,h2,x2⟩;replace h2:=hid h2))
   go_roundw
   case rel=>exact⟨k+1,u,by omega,by go_num,(hx'.trans x1).trans x2,h2,hf⟩
   case measure=>simp[RowKit.intOf];omega
  obtain⟨f5,f5'⟩:=ne_facts h5;rw[if_neg h5] at HREC;clear h5;cases v
  ·rw[if_neg (by decide)] at hbb;have hf:=hid hbb;clear hbb;go_wp2_with (first | (go_at_call 70;refine HCLO.out.mono ?_;rintro e w1 ⟨rfl,h1,x1⟩;replace h1:=hid h1;have k0:=x1.cell (p:=⟨wr.heap.size,0,none⟩) HNE.out (HCL.out _ (Ext.refl _)).1;have k4:=x1.cell (p:=⟨wr.heap.size,4,none⟩) HNE.out (HCL.out _ (Ext.refl _)).2.2.2.2) | (go_at_call 69;refine(HREC.out _ ((But.of HXA.out).trans x1) h1.out).mono ?_;rintro e w2 ⟨rfl,h2,x2⟩;replace h2:=hid h2));go_returns;rw[hf.out];exact⟨rfl,h2.out,(hx'.trans x1).trans x2⟩
  rw[if_pos rfl] at hbb;have hf:=hid hbb;clear hbb;go_wp2_with (first | (go_at_call 70;refine HCLO.out.mono ?_;rintro e w1 ⟨rfl,h1,x1⟩;replace h1:=hid h1;have k0:=x1.cell (p:=⟨wr.heap.size,0,none⟩) HNE.out (HCL.out _ (Ext.refl _)).1;have k4:=x1.cell (p:=⟨wr.heap.size,4,none⟩) HNE.out (HCL.out _ (Ext.refl _)).2.2.2.2) | (go_at_call 69;refine(HREC.out _ ((But.of HXA.out).trans x1) h1.out).mono ?_;rintro e w2 ⟨rfl,h2,x2⟩;replace h2:=hid h2))
  go_roundw
  case rel=>exact⟨k+1,u,by omega,by go_num,(hx'.trans x1).trans x2,h2,hf⟩
  case measure=>simp[RowKit.intOf];omega
 have hf:Hid (V=(ac,true)):=hid (by rw[hb.out,List.drop_eq_nil_of_le (by rw[<-HN.out];omega),flatL_nil];rfl);clear hb;go_wp2;go_returns;rw[hf.out];exact⟨rfl,hcc.out,hx⟩
end Go.Proofs.YtjaeedbjknejdaaGreatDoor.Tr

namespace Go.Proofs.YtjaeedbjknejdaaGreatDoor.Tr
open Go.RowKit Go.Sort Go.Lib Go.Shelf Fx Lx
theorem two_new (w:World)(o o':Obj):((w.alloc o).alloc o').heap[w.heap.size+1]? = some o':=by
 have h:=heap_alloc_new (w.alloc o) o';rw[show(w.alloc o).heap.size=w.heap.size+1 by simp] at h;exact h
theorem count_any (nm:ByteArray)(dir:Bool)(b:Option Addr)(L:List Stm)(cap n:Nat)(w:World)(hn:n<=w.heap.size)(h:StmsAt n w b L)(hs:sizeL L<=1048576):
  Calls Tryz.prog 68 #[.agg #[.string nm,.bool dir,.slice b L.length cap]] w fun e w'=>e=.returned (.int .i64 (flatL 0 L).length)/\Ext w w':=by
 have hx:Ext w ((w.alloc (.cells #[.string nm,.bool dir,.slice b L.length cap] 33)).alloc (.cells #[.int .i64 0] 3)):=((Ext.refl w).alloc _).alloc _;have hv:=visitC_any 1048576 L b cap 0 0 n (w.heap.size+1) ((w.alloc (.cells #[.string nm,.bool dir,.slice b L.length cap] 33)).alloc (.cells #[.int .i64 0] 3)) hs (by unfold maxLen;omega) (by omega) (StmsAt.below (hx.mono hn) L h) (by omega) (two_new w _ _);have hfl:=flatL_len 0 L;rw[runC_len (flatL 0 L) 0 (by omega) (by omega),Int.zero_add] at hv;generalize (flatL 0 L).length=F at *;generalize L.length=N at *;have HV:=hid hv;have HX:=hid hx;clear hv h hfl hs hx;go_enter Tryz.func68,Tryz.ntmps68;go_wp2_with (go_at_call 69;refine HV.out.mono ?_;rintro e w1 ⟨rfl,h1,x1⟩;have q0:w1.cell? ⟨w.heap.size+1,0,none⟩=some (.int .i64 F):=(by rw[Lib.cell_of_heap h1];rfl);clear h1);go_ret
 exact⟨rfl,But.fresh HX.out x1 (by omega)⟩
theorem valid_any (nm:ByteArray)(dir:Bool)(b:Option Addr)(L:List Stm)(cap n:Nat)(w:World)(hn:n<=w.heap.size)(h:StmsAt n w b L)(hs:sizeL L<=1048576)(hnm:nm.size<=9223372036854775807):
  Calls Tryz.prog 30 #[.agg #[.string nm,.bool dir,.slice b L.length cap]] w fun e w'=>e=.returned (.int .i64 (validE nm L))/\Ext w w':=by
 have hx0:Ext w (w.alloc (.cells #[.string nm,.bool dir,.slice b L.length cap] 33)):=(Ext.refl w).alloc _;have hnx:=fun w'=>isName_any nm hnm w'
 have hct:=fun w' (x:Ext w w')=>count_any nm dir b L cap n w' (Nat.le_trans hn x.size) (StmsAt.below (x.mono hn) L h) hs
 have hvv:=fun w' (x:Ext w w')=>visitV_any 1048576 L b cap 0 0 n w'.heap.size (w'.alloc (.cells #[.int .i64 0] 34)) hs (by unfold maxLen;omega) (by omega) (StmsAt.below ((x.alloc _).mono hn) L h) (Nat.le_trans hn x.size) (heap_alloc_new _ _)
 rw[runV_first] at hvv
 have hcl:∀ w1,Ext (w.alloc (.cells #[.string nm,.bool dir,.slice b L.length cap] 33)) w1->w1.cell? ⟨w.heap.size,0,none⟩=some (.string nm)/\w1.cell? ⟨w.heap.size,1,none⟩=some (.bool dir)/\w1.cell? ⟨w.heap.size,2,none⟩=some (.slice b L.length cap):=fun w1 x=>by
  have hb:=heap_alloc_new w (.cells #[.string nm,.bool dir,.slice b L.length cap] 33);refine⟨x.cell ?_,x.cell ?_,x.cell ?_⟩ <;> rw[Lib.cell_of_heap hb] <;> rfl
 obtain⟨V,hV⟩:∃ V,V=validE nm L:=⟨_,rfl⟩;rw[<-hV];unfold validE at hV;generalize nameB nm.data.toList=p at *;generalize (flatL 0 L).length=F at *;generalize firstE (flatL 0 L)=E at *;generalize (runA stepV 0 (flatL 0 L)).2=B at *;generalize L.length=N at *;have HN:=hid hnx;have HC:=hid hct;have HVV:=hid hvv;have HX:=hid hx0;have HCL:=hid hcl;clear hnx hct hvv h hs hx0 hnm hcl;cases p
 ·have hf:Hid (V=5):=hid (by rw[hV,if_pos rfl]);clear hV;go_enter Tryz.func30,Tryz.ntmps30;go_wp2_with (go_at_call 58;refine(HN.out _).mono ?_;rintro e w3 ⟨rfl,rfl⟩);go_ret;exact⟨ret_int (by rw[hf.out]),HX.out⟩
 rw[if_neg (by decide)] at hV;by_cases hF:512 < F
 ·have hf:Hid (V=2):=hid (by rw[hV,if_pos hF]);have g1:decide ((512:Int) < F)=true:=decide_eq_true (by omega);clear hV;go_enter Tryz.func30,Tryz.ntmps30;go_wp2_with (first | (go_at_call 58;refine(HN.out _).mono ?_;rintro e w3 ⟨rfl,rfl⟩) | (go_at_call 68;refine(HC.out _ HX.out).mono ?_;rintro e w1 ⟨rfl,x1⟩));go_ret;exact⟨ret_int (by rw[hf.out]),HX.out.trans x1⟩
 have hf:Hid (V=E):=hid (by rw[hV,if_neg hF]);have g1:decide ((512:Int) < F)=false:=decide_eq_false (by omega);clear hV;go_enter Tryz.func30,Tryz.ntmps30;go_wp2_with (first | (go_at_call 58;refine(HN.out _).mono ?_;rintro e w3 ⟨rfl,rfl⟩) | (go_at_call 68;refine(HC.out _ HX.out).mono ?_;rintro e w1 ⟨rfl,x1⟩;obtain⟨k0,k1,k2⟩:=HCL.out _ (x1.alloc (.cells #[.int .i64 0] 34))) | (go_at_call 69;refine(HVV.out _ (HX.out.trans x1)).mono ?_;rintro e w2 ⟨rfl,h2,x2⟩;have q0:w2.cell? ⟨w1.heap.size,0,none⟩=some (.int .i64 E):=(by rw[Lib.cell_of_heap h2];rfl);clear h2));go_ret;exact⟨ret_int (by rw[hf.out]),(HX.out.trans x1).trans (But.fresh ((Ext.refl _).alloc _) x2 (Nat.le_refl _))⟩
end Go.Proofs.YtjaeedbjknejdaaGreatDoor.Tr
