/- Packed texts: NorFinW, NorIdxR -/
import Derived.Test.YtjaeedbjknejdaaGreatDoorPd40
set_option linter.unusedVariables false
set_option linter.unusedSimpArgs false
set_option maxHeartbeats 16000000
set_option maxRecDepth 100000
namespace Go.Proofs.YtjaeedbjknejdaaGreatDoor.Nm
open Go.RowKit Go.Sort Go.Lib Go.Shelf Fx Lx Tr At
def DocR (r:Except Int Gr)(e:Ending)(w:World):Prop :=
 match r with
 | .error er=>e=.returned (.tuple #[gr0V,.int .i64 er])/\er ≠ 0
 | .ok g=>∃ v,e=.returned (.tuple #[v,.int .i64 0])/\GrIn w v g/\GrCp w v g/\GrSm g
def finT (nm:ByteArray)(dir:Bool)(S:St):Except Int Gr :=
 match finEs (finNs S.N S.A) S.K with
 | none=>.error 5
 | some E=>if grE ⟨nm,dir,finNs S.N S.A,E,S.C⟩ ≠ 0 then .error (grE ⟨nm,dir,finNs S.N S.A,E,S.C⟩) else .ok ⟨nm,dir,finNs S.N S.A,E,S.C⟩
theorem row_nd6 {w:World}{B g n c:Nat}{L:List (ByteArray × Int)}(h:w.ownsRow B 59 6 (.slice (some ⟨g,0,none⟩) n c) n (ndsC L))(k:Nat)(hk:k < L.length):
  w.cell? ⟨g,k * 6,none⟩=some (.string L[k].1)/\w.cell? ⟨g,k * 6+1,none⟩=some (.string ⟨#[]⟩)/\w.cell? ⟨g,k * 6+2,none⟩=some (.int .i64 0)/\w.cell? ⟨g,k * 6+3,none⟩=some (.int .i64 0)/\w.cell? ⟨g,k * 6+4,none⟩=some (.int .i64 L[k].2)/\w.cell? ⟨g,k * 6+5,none⟩=some (.slice none 0 0):=by
 have hc:=fun(j:Nat) (hj:j < 6) (u:Value) (hu:(ndC L[k])[j]? = some u)=>h.cells (g:=g) rfl (k * 6+j) u (by unfold ndsC;rw[fm_get (s:=6) (f:=ndC) (fun _=>rfl) L k hk j hj];exact hu)
 simp only[add0] at hc;exact⟨hc 0 (by omega) _ rfl,hc 1 (by omega) _ rfl,hc 2 (by omega) _ rfl,hc 3 (by omega) _ rfl,hc 4 (by omega) _ rfl,hc 5 (by omega) _ rfl⟩
theorem row_at1 {w:World}{B g n c:Nat}{xs:List Value}{T:TypeId}(h:w.ownsRow B T 1 (.slice (some ⟨g,0,none⟩) n c) n xs)(k:Nat)(u:Value)(hu:xs[k]? = some u):w.cell? ⟨g,k,none⟩=some u:=by
 have:=h.cells (g:=g) rfl k u hu;rw[add0] at this;exact this
theorem finNs_take : ∀ (N:List (ByteArray × Int)) (A:List (List Two)) (k:Nat) (h:k < N.length) (h2:k < A.length),(finNs N A).take (k+1)=(finNs N A).take k++[finN N[k] A[k]]
 | [],_,_,h,_=>absurd h (by simp)
 | _::_,[],_,_,h2=>absurd h2 (by simp)
 | q::r,l::s,0,_,_=>by unfold finNs;simp
 | q::r,l::s,k+1,h,h2=>by
  unfold finNs;rw[List.take_succ_cons,List.take_succ_cons,finNs_take r s k (by simpa using h) (by simpa using h2)]
  rfl
theorem row_en5 {w:World}{B g n c:Nat}{L:List (Lk × Value)}(h:w.ownsRow B 164 5 (.slice (some ⟨g,0,none⟩) n c) n (ensC L))(k:Nat)(hk:k < L.length):
  w.cell? ⟨g,k * 5,none⟩=some (.int .i64 L[k].1.a)/\w.cell? ⟨g,k * 5+1,none⟩=some (.int .i64 L[k].1.b)/\w.cell? ⟨g,k * 5+2,none⟩=some (.string L[k].1.ap)/\w.cell? ⟨g,k * 5+3,none⟩=some (.string L[k].1.bp)/\w.cell? ⟨g,k * 5+4,none⟩=some L[k].2:=by
 have hc:=fun(j:Nat) (hj:j < 5) (u:Value) (hu:(enC L[k])[j]? = some u)=>h.cells (g:=g) rfl (k * 5+j) u (by unfold ensC;rw[fm_get (s:=5) (f:=enC) (fun _=>rfl) L k hk j hj];exact hu)
 simp only[add0] at hc;exact⟨hc 0 (by omega) _ rfl,hc 1 (by omega) _ rfl,hc 2 (by omega) _ rfl,hc 3 (by omega) _ rfl,hc 4 (by omega) _ rfl⟩
theorem row_nv5 {w:World}{B g n c:Nat}{L:List (Nd × Value)}(h:w.ownsRow B 59 6 (.slice (some ⟨g,0,none⟩) n c) n (nvsC L))(k:Nat)(hk:k < L.length):w.cell? ⟨g,k * 6+5,none⟩=some L[k].2:=by
 have hc:=h.cells (g:=g) rfl (k * 6+5) L[k].2 (by unfold nvsC;rw[fm_get nvC_len L k hk 5 (by omega)];rfl);rw[add0] at hc;exact hc
theorem atr_fin {w:World}{v:Value}{L:List Two}(h:AtL w v L):∃ p c,v=.slice p L.length c/\AtrIn w p L:=by
 obtain⟨p,c,h1,h2,-⟩:=h;exact⟨p,c,h1,h2⟩
theorem ptl_slice {w:World}{v:Value}{L:List Prt}(h:PtL w v L):∃ p c,v=.slice p L.length c/\PtL w (.slice p L.length c) L:=by
 have h':=h;obtain⟨p,c,h1,-⟩:=h;exact⟨p,c,h1,h1 ▸ h'⟩
theorem finish_any {w0 ws:World}{bb B:Nat}{nm:ByteArray}{dir:Bool}{nv av cv lv:Value}{aw:List Value}{ks:List (Lk × Value)}{S:St}(hd:Doc w0 bb B nm dir ws nv av cv lv aw ks S 0)(hs:Sml 600000000 1000 S)(hnm:nm.size<=64):
    Calls Tryz.prog 43 #[.pointer (some ⟨bb,0,none⟩)] ws fun e w'=>DocR (finT nm dir S) e w'/\Ext ws w':=by
  obtain⟨na,nc,rfl,-,-⟩:=row_val hd.N;obtain⟨aa,ac,rfl,-,-⟩:=row_val hd.A;obtain⟨ca,cc,rfl,-,-⟩:=row_val hd.C;obtain⟨la,lc,rfl,-,-⟩:=row_val hd.K;obtain⟨d0,d1,d2,d4,d5,d6,d7⟩:=hd.cells;obtain⟨i0,hi0,hz0,hz1,hz2⟩:=info_parts info_node;have hal:=hs.a;have hnl:=hs.n;obtain⟨R,hR⟩:∃ R,R=finT nm dir S:=⟨_,rfl⟩;rw[<-hR];obtain⟨SN,hSN⟩:∃ n,n=S.N.length:=⟨_,rfl⟩;obtain⟨CN,hCN⟩:∃ n,n=S.C.length:=⟨_,rfl⟩;obtain⟨KN,hKN⟩:∃ n,n=S.K.length:=⟨_,rfl⟩;rw[hal] at d5;rw[<-hSN] at d2 d5 hnl;rw[<-hCN] at d4;rw[<-hKN] at d6;have HNM:=hid hnm;have HD:=hid hd;have HS:=hid hs;have HR:=hid hR;have HSN:=hid hSN;have HCN:=hid hCN;have HKN:=hid hKN
  have d0':=fun ob=>((Ext.refl ws).alloc ob).cell d0;have d1':=fun ob=>((Ext.refl ws).alloc ob).cell d1;have d4':=fun ob=>((Ext.refl ws).alloc ob).cell d4
  have d0'':=fun ob ob2=>(((Ext.refl ws).alloc ob).alloc ob2).cell d0;have d1'':=fun ob ob2=>(((Ext.refl ws).alloc ob).alloc ob2).cell d1;have d4'':=fun ob ob2=>(((Ext.refl ws).alloc ob).alloc ob2).cell d4
  clear hd hs hR hSN hCN hKN hal hnm;go_enter Tryz.func43,Tryz.ntmps43;go_wp2_with fail
  go_cut [4] from 10 to 26 (fun s4 wx=>∃ gb,s4=.pointer (some ⟨gb,0,none⟩)/\Hid (FnD ws ws.heap.size gb nm dir (.slice ca CN cc) [] (.slice none 0 0) [] (.slice none 0 0) wx))
  case first =>
    go_region
    all_goals go_wp2
    all_goals go_meet
    exact⟨_,rfl,hid ⟨At.heap_ext (heap_alloc_new ws _) (((Ext.refl _).alloc _).drew),by have h:=heap_alloc_new (ws.alloc (.cells #[.string ⟨#[]⟩,.bool false,.slice none 0 0,.slice none 0 0,.slice none 0 0] 26)) (.cells #[.string nm,.bool dir,.slice none 0 0,.slice none 0 0,.slice ca CN cc] 26);rw[World.size_alloc] at h;exact At.heap_ext h (Ext.refl _).drew,World.ownsRow_nil _ _ _ _,fun k x e=>by simp at e,World.ownsRow_nil _ _ _ _,(((Ext.refl _).alloc _).alloc _).drew,Nat.le_refl _,Nat.lt_succ_self _⟩⟩
  obtain⟨gb,rfl,HF0⟩:=hcut;obtain⟨gr,hgr⟩:∃ gr,gr=ws.heap.size:=⟨_,rfl⟩;rw[show FnD ws ws.heap.size gb nm dir (.slice ca CN cc) [] (.slice none 0 0) [] (.slice none 0 0) wc=FnD ws gr gb nm dir (.slice ca CN cc) [] (.slice none 0 0) [] (.slice none 0 0) wc by rw[hgr]] at HF0;rw[<-hgr];clear hgr;clear d0' d1' d4' d0'' d1'' d4'' d2 d5 d6 d0 d1 d4 d7;go_wp2_with fail
  go_loopw [5] (fun i' wr=>∃ (i:Nat) (NV:List (Nd × Value)) (nv':Value),i<=SN/\i'=.int .i64 i/\Hid (NV.length=i)/\Hid (NV.map Prod.fst=(finNs S.N S.A).take i)/\Hid (FnD ws gr gb nm dir (.slice ca CN cc) NV nv' [] (.slice none 0 0) wr)) (fun i' _=>SN - (RowKit.intOf i').toNat)
  case atStart=>exact⟨0,[],_,Nat.zero_le _,rfl,hid rfl,hid rfl,HF0⟩
  clear HF0;obtain⟨i,NV,nv',hi,rfl,HLN,HM,HF⟩:=hrel;have hdr:=HD.out.ext HF.out.X;obtain⟨-,-,q2,-,q5,-,-⟩:=hdr.cells;rw[HS.out.a] at q5;rw[<-HSN.out] at q2 q5
  have hd2:ws.cell? ⟨bb,2,none⟩=some (.slice na SN nc)/\ws.cell? ⟨bb,5,none⟩=some (.slice aa SN ac):=by
    obtain⟨-,-,k2,-,k5,-,-⟩:=HD.out.cells;rw[HS.out.a] at k5;rw[<-HSN.out] at k2 k5;exact⟨k2,k5⟩
  obtain⟨wo,hwo⟩:∃ wo:World,wo=wr:=⟨_,rfl⟩;subst hwo;by_cases hlt:i < SN
  · have hin:i < S.N.length:=by rw[<-HSN.out];exact hlt
    have hia:i < S.A.length:=by rw[HS.out.a];exact hin
    obtain⟨gn,cN,hv,-⟩:=row_some HD.out.N (by omega);injection hv with hv _ _;subst hv;obtain⟨ga,cA,hv,-⟩:=row_some HD.out.A (by omega);injection hv with hv _ _;subst hv;have hR0:=HD.out.N;obtain⟨n0,n1,n2,n3,n4,n5⟩:=row_nd6 hR0 i hin;have hal:i < aw.length:=by rw[HD.out.At.1];exact hia
    obtain⟨av,hav⟩:∃ v,aw[i]? = some v:=⟨_,List.getElem?_eq_getElem hal⟩;have a0:=row_at1 HD.out.A i av hav;obtain⟨pa,pc,rfl,hatr⟩:=atr_fin (HD.out.At.2 i av S.A[i] hav (List.getElem?_eq_getElem hia));have hsm:=HS.out.at' S.A[i] (List.getElem_mem hia);have hfd:=fun(w5:World) (x:Ext ws w5)=>finD_any S.N[i].1 S.N[i].2 pa S.A[i] pc w5 (hatr.ext x) (fun q hq=>(hsm.2 q hq).2) (by have:=hsm.1;omega)
    have hft:=finNs_take S.N S.A i hin hia;obtain⟨qn,hqn⟩:∃ q,q=S.N[i]:=⟨_,rfl⟩;obtain⟨al,hal2⟩:∃ q,q=S.A[i]:=⟨_,rfl⟩;rw[<-hqn] at n0 n4 hft;rw[<-hal2] at a0 hft;rw[<-hqn,<- hal2] at hfd;obtain⟨mm,ci⟩:=qn;obtain⟨nb,nbc,rfl,-,-⟩:=row_val HF.out.N;have HM2:Hid ((finNs S.N S.A).take (i+1)=NV.map Prod.fst++[finN (mm,ci) al]):=hid (by rw[hft,HM.out]);have hfn:finN (mm,ci) al=⟨mm,labelT al mm,numK 1 al kWidth,numK 1 al kHeight,ci,(finN (mm,ci) al).ports⟩:=rfl;have x0:wo.cell? ⟨gb,2,none⟩=some (.slice nb i nbc):=by rw[Lib.cell_of_heap HF.out.gr'];show some (Value.slice nb NV.length nbc)=_;rw[HLN.out]
    have OWN:Hid (wo.ownsRow ws.heap.size 59 6 (.slice nb i nbc) i (nvsC NV)):=hid (by have h:=HF.out.N;rw[HLN.out] at h;exact h);rw[show(Value.slice nb NV.length nbc)=.slice nb i nbc by rw[HLN.out]] at HF;obtain⟨LB,hLB⟩:∃ x,x=labelT al mm:=⟨_,rfl⟩;obtain⟨W1,hW1⟩:∃ x,x=numK 1 al kWidth:=⟨_,rfl⟩;obtain⟨H1,hH1⟩:∃ x,x=numK 1 al kHeight:=⟨_,rfl⟩;obtain⟨PP,hPP⟩:∃ x,x=(finN (mm,ci) al).ports:=⟨_,rfl⟩;obtain⟨AL,hAL⟩:∃ n,n=al.length:=⟨_,rfl⟩;rw[<-hLB,<- hW1,<- hH1,<- hPP] at hfn;dsimp only at hfd;simp only[<-hLB,<- hW1,<- hH1,<- hPP,<- hAL] at hfd;rw[<-hAL] at a0;dsimp only at n0 n4;have p2:=hd2;have HFN:=hid hfn;have HFD:=hid (fun(w5:World) (x:Ext wo w5)=>hfd w5 (HF.out.X.trans x))
    have m0:=HF.out.X.cell n0;have m1:=HF.out.X.cell n1;have m2:=HF.out.X.cell n2;have m3:=HF.out.X.cell n3;have m4:=HF.out.X.cell n4;have m5:=HF.out.X.cell n5;have b0':=HF.out.X.cell a0;have M0:=hid n0;have M1:=hid n1;have M2:=hid n2;have M3:=hid n3;have M4:=hid n4;have M5:=hid n5;have PA:=hid a0;have P2:=hid p2.1;have P5:=hid p2.2;have b0:(0:Int)<=(i:Int):=by omega
    have b1:(i:Int) < (SN:Int):=by omega
    clear hR0 n0 n1 n2 n3 n4 n5 a0 hal hav hatr hsm hfd hft hqn hal2 hfn hLB hW1 hH1 hPP hAL p2 hd2 hin hia hdr;go_wp2_with fail
    refine wp_region_K (S:=fun w'=>w'.cell? ⟨gb,2,none⟩=some (.slice nb i nbc)/\w'.cell? ⟨bb,2,none⟩=some (.slice (some ⟨gn,0,none⟩) SN nc)/\w'.cell? ⟨gn,i * 6,none⟩=some (.string mm)/\w'.cell? ⟨gn,i * 6+1,none⟩=some (.string ⟨#[]⟩)/\w'.cell? ⟨gn,i * 6+2,none⟩=some (.int .i64 0)/\w'.cell? ⟨gn,i * 6+3,none⟩=some (.int .i64 0)/\w'.cell? ⟨gn,i * 6+4,none⟩=some (.int .i64 ci)/\w'.cell? ⟨gn,i * 6+5,none⟩=some (.slice none 0 0)/\w'.cell? ⟨bb,5,none⟩=some (.slice (some ⟨ga,0,none⟩) SN ac)/\w'.cell? ⟨ga,i,none⟩=some (.slice pa AL pc)) (n:=21) (by kernel_rfl) (by exact⟨Ext.cell ((Ext.refl wo).drew) x0,Ext.cell ((Ext.refl wo).drew) q2,Ext.cell ((Ext.refl wo).drew) m0,Ext.cell ((Ext.refl wo).drew) m1,Ext.cell ((Ext.refl wo).drew) m2,Ext.cell ((Ext.refl wo).drew) m3,Ext.cell ((Ext.refl wo).drew) m4,Ext.cell ((Ext.refl wo).drew) m5,Ext.cell ((Ext.refl wo).drew) q5,Ext.cell ((Ext.refl wo).drew) b0'⟩) (fun hHeld=>?_)
    refine kU 21 0 rfl hHeld ?_
    (try simp only[Act.put,q1,q2,q3])
    refine kU 21 1 rfl hHeld ?_
    (try simp only[Act.put,q1,q2,q3])
    refine kU 21 2 rfl hHeld ?_
    (try simp only[Act.put,q1,q2,q3])
    refine kU 21 3 rfl hHeld ?_
    (try simp only[Act.put,q1,q2,q3])
    refine kU 21 4 rfl hHeld ?_
    (try simp only[Act.put,q1,q2,q3])
    refine kU 21 5 rfl hHeld ?_
    (try simp only[Act.put,q1,q2,q3])
    refine kU 21 6 rfl hHeld ?_
    (try simp only[Act.put,q1,q2,q3])
    refine kU 21 7 rfl hHeld ?_
    (try simp only[Act.put,q1,q2,q3])
    refine kU 21 8 rfl hHeld ?_
    (try simp only[Act.put,q1,q2,q3])
    refine kU 21 9 rfl hHeld ?_
    (try simp only[Act.put,q1,q2,q3])
    refine kU 21 10 rfl hHeld ?_
    (try simp only[Act.put,q1,q2,q3])
    refine kU 21 11 rfl hHeld ?_
    (try simp only[Act.put,q1,q2,q3])
    refine kU 21 12 rfl hHeld ?_
    (try simp only[Act.put,q1,q2,q3])
    refine kU 21 13 rfl hHeld ?_
    (try simp only[Act.put,q1,q2,q3])
    refine kU 21 14 rfl hHeld ?_
    (try simp only[Act.put,q1,q2,q3])
    refine kU 21 15 rfl hHeld ?_
    (try simp only[Act.put,q1,q2,q3])
    refine kU 21 16 rfl hHeld ?_
    (try simp only[Act.put,q1,q2,q3])
    refine wpAnyK_step (o:=_) (i:=17) rfl (by kernel_rfl) (fun KK hKK=>?_);go_simp
    (go_at_call 93;refine Calls.mono (by with_reducible exact HFD.out _ (Ext.refl _).drew) ?_;rintro e w3 ⟨⟨pv,rfl,hpv⟩,x3'⟩;obtain⟨pp,ppc,rfl,hpv2⟩:=ptl_slice hpv;have x3:Ext wo w3:=Ext.trans (Ext.refl _).drew x3';have HPV:=hid hpv2;have HX3:=hid x3;clear hpv hpv2 x3' x3)
    refine hKK.out _ _ (fun _=>?_) (fun hH=>?_)
    · (exact⟨Ext.cell (HX3.out) x0,Ext.cell (HX3.out) q2,Ext.cell (HX3.out) m0,Ext.cell (HX3.out) m1,Ext.cell (HX3.out) m2,Ext.cell (HX3.out) m3,Ext.cell (HX3.out) m4,Ext.cell (HX3.out) m5,Ext.cell (HX3.out) q5,Ext.cell (HX3.out) b0'⟩)
    clear hHeld;have hHeld:=hH (by decide);clear hKK KK hH;(try dsimp only at hHeld)
    (try simp only[Act.put,q1,q2,q3])
    refine wpAnyK_step (o:=_) (i:=18) rfl (by kernel_rfl) (fun KK hKK=>?_);go_simp;refine hKK.out _ _ (fun _=>?_) (fun hH=>?_)
    · (exact⟨Ext.cell (HX3.out.alloc _) x0,Ext.cell (HX3.out.alloc _) q2,Ext.cell (HX3.out.alloc _) m0,Ext.cell (HX3.out.alloc _) m1,Ext.cell (HX3.out.alloc _) m2,Ext.cell (HX3.out.alloc _) m3,Ext.cell (HX3.out.alloc _) m4,Ext.cell (HX3.out.alloc _) m5,Ext.cell (HX3.out.alloc _) q5,Ext.cell (HX3.out.alloc _) b0'⟩)
    clear hHeld;have hHeld:=hH (by decide);clear hKK KK hH;(try dsimp only at hHeld)
    (try simp only[Act.put,q1,q2,q3])
    refine wpAnyK_step (o:=_) (i:=19) rfl (by kernel_rfl) (fun KK hKK=>?_);refine step_append_lies _ (by rfl) _ _ 22 (by rfl) ws.heap.size 59 i0 _ 6 80 Tryz.underlying22 hi0 hz0 hz1 hz2 rfl (by decide) _ _ _ (by rfl) (At.own_ext OWN.out (HX3.out.alloc _)) ⟨w3.heap.size,0,none⟩ 1 1 [.string mm,.string LB,.int .i64 W1,.int .i64 H1,.int .i64 ci,.slice pp PP.length ppc] (by rfl) (by rfl) (World.news_of_block (cs:=#[.string mm,.string LB,.int .i64 W1,.int .i64 H1,.int .i64 ci,.slice pp PP.length ppc]) (t:=59) (fr:=(0,0)) (heap_alloc_new w3 _)) (by intro u hu;simp at hu;rcases hu with rfl | rfl | rfl | rfl | rfl | rfl <;> rfl) (by omega) (by unfold maxLen;omega) (by omega) (by have:=HF.out.X.size;have:=HX3.out.size;simp;omega) _ rfl ?_;intro g7 c7 w7 hown1 hgrow hat2 hlt2
    have hrt:=row_ty (At.own_ext OWN.out (HX3.out.alloc (.cells #[.string mm,.string LB,.int .i64 W1,.int .i64 H1,.int .i64 ci,.slice pp PP.length ppc] 59)));have hgr7:=cel_keep (At.heap_ext HF.out.gr' (HX3.out.alloc (.cells #[.string mm,.string LB,.int .i64 W1,.int .i64 H1,.int .i64 ci,.slice pp PP.length ppc] 59))) hgrow hrt (nope (by decide));have e7:w7.cell? ⟨gb,2,none⟩=some (.slice nb i nbc):=by rw[Lib.cell_of_heap hgr7];rfl
    have f7:w7.frozen? ⟨gb,2,none⟩=false:=Lib.frozen_of_heap hgr7 2;have X7:=ext_grown (HF.out.X.trans (HX3.out.alloc (.cells #[.string mm,.string LB,.int .i64 W1,.int .i64 H1,.int .i64 ci,.slice pp PP.length ppc] 59))) hgrow (fun k e=>(OWN.out.lt k e).1)
    have HS7:=hid (show w7.cell? ⟨gb,2,none⟩=some (.slice nb i nbc)/\w7.cell? ⟨bb,2,none⟩=some (.slice (some ⟨gn,0,none⟩) SN nc)/\w7.cell? ⟨gn,i * 6,none⟩=some (.string mm)/\w7.cell? ⟨gn,i * 6+1,none⟩=some (.string ⟨#[]⟩)/\w7.cell? ⟨gn,i * 6+2,none⟩=some (.int .i64 0)/\w7.cell? ⟨gn,i * 6+3,none⟩=some (.int .i64 0)/\w7.cell? ⟨gn,i * 6+4,none⟩=some (.int .i64 ci)/\w7.cell? ⟨gn,i * 6+5,none⟩=some (.slice none 0 0)/\w7.cell? ⟨bb,5,none⟩=some (.slice (some ⟨ga,0,none⟩) SN ac)/\w7.cell? ⟨ga,i,none⟩=some (.slice pa AL pc) from⟨e7,X7.cell P2.out,X7.cell M0.out,X7.cell M1.out,X7.cell M2.out,X7.cell M3.out,X7.cell M4.out,X7.cell M5.out,X7.cell P5.out,X7.cell PA.out⟩)
    have FIN:=hid (HF.out.appN (HX3.out.alloc (.cells #[.string mm,.string LB,.int .i64 W1,.int .i64 H1,.int .i64 ci,.slice pp PP.length ppc] 59)) (⟨mm,LB,W1,H1,ci,PP⟩,.slice pp PP.length ppc) (HPV.out.ext ((Ext.refl w3).alloc (.cells #[.string mm,.string LB,.int .i64 W1,.int .i64 H1,.int .i64 ci,.slice pp PP.length ppc] 59))) (by rw[HLN.out]) hown1 hgrow);clear hown1 hgrow hat2 hlt2 hgr7 hrt X7;refine hKK.out _ _ (fun _=>?_) (fun hH=>?_)
    · (exact HS7.out)
    clear hHeld;have hHeld:=hH (by decide);clear hKK KK hH;(try dsimp only at hHeld)
    (try simp only[Act.put,q1,q2,q3])
    refine wpAnyK_step (o:=_) (i:=20) rfl (by kernel_rfl) (fun KK hKK=>?_);go_simp;refine hKK.out _ _ (fun _=>?_) (fun hH=>?_)
    · (exact hHeld)
    clear hHeld;have hHeld:=hH (by decide);clear hKK KK hH;(try dsimp only at hHeld)
    (try simp only[Act.put,q1,q2,q3])
    refine wpAnyK_step (o:=_) (i:=21) rfl (by kernel_rfl) (fun KK hKK=>?_);go_simp;refine hKK.out _ _ (fun h=>absurd rfl h) (fun _=>?_);clear hKK KK
    (try simp only[Act.put,q1,q2,q3])
    refine wpAnyK_done (by kernel_rfl) ?_ _;go_wp2
    go_roundw
    case rel=>exact⟨i+1,_,_,by omega,by go_num,hid (by rw[List.length_append,HLN.out];rfl),hid (by rw[HM2.out,List.map_append,HFN.out];rfl),FIN⟩
    case measure=>simp[RowKit.intOf];omega
  have hiN:i=SN:=by omega
  have HMA:Hid (NV.map Prod.fst=finNs S.N S.A):=hid (by rw[HM.out,List.take_of_length_le (by rw[finNs_len _ _ HS.out.a,<- HSN.out];omega)]);have HLV:Hid (NV.length=SN):=hid (by rw[HLN.out,hiN]);subst hiN;obtain⟨FN,hFN⟩:∃ x,x=finNs S.N S.A:=⟨_,rfl⟩;rw[<-hFN] at HMA;have HFN:=hid hFN;have hfe:finEs FN S.K=(finEs FN (S.K.drop 0)).map (fun l=>[]++l):=by rw[List.drop_zero];cases finEs FN S.K <;> simp
  have HFE:=hid hfe;have b1:¬ (i:Int) < (i:Int):=by omega
  clear hd2 hdr HM HLN hFN hfe q5;go_wp2_with fail
  go_loopw [6] (fun j' wr=>∃ (j:Nat) (E:List Ed) (ev:Value),j<=KN/\j'=.int .i64 j/\Hid (E.length=j)/\Hid (finEs FN S.K=(finEs FN (S.K.drop j)).map (fun l=>E++l))/\Hid (FnD ws gr gb nm dir (.slice ca CN cc) NV nv' E ev wr)) (fun j' _=>KN - (RowKit.intOf j').toNat)
  case atStart=>exact⟨0,[],_,Nat.zero_le _,rfl,hid rfl,HFE,HF⟩
  clear HFE HF q2;obtain⟨j,E,ev,hj,rfl,HLE,HFE,HF⟩:=hrel;have hdr:=HD.out.ext HF.out.X;obtain⟨-,-,-,-,-,q6,-⟩:=hdr.cells;rw[<-HKN.out] at q6;have hkn:KN<=600000000:=by rw[HKN.out];exact HS.out.l
  obtain⟨wq,hwq⟩:∃ wq:World,wq=wr:=⟨_,rfl⟩;subst hwq;by_cases hlj:j < KN
  · have hjk:j < S.K.length:=by rw[<-HKN.out];exact hlj
    have hkl:=congrArg List.length HD.out.Kl;rw[List.length_map] at hkl;have hjs:j < ks.length:=by rw[hkl];exact hjk
    obtain⟨gk,cK,hv,-⟩:=row_some HD.out.K (by omega);injection hv with hv _ _;subst hv;obtain⟨n0,n1,n2,n3,n4⟩:=row_en5 HD.out.K j hjs
    have hkx:ks[j].1=S.K[j]:=by
      have h:=HD.out.Kl;have h2:(ks.map Prod.fst)[j]? = S.K[j]? := by rw[h]
      rw[List.getElem?_map,List.getElem?_eq_getElem hjs,List.getElem?_eq_getElem hjk] at h2
      simpa using h2
    have hatl:AtL ws ks[j].2 S.K[j].at':=HD.out.Kt.2 j ks[j].2 S.K[j].at' (by rw[List.getElem?_map,List.getElem?_eq_getElem hjs];rfl) (by rw[List.getElem?_map,List.getElem?_eq_getElem hjk];rfl);obtain⟨pa,pc,hpv,hatr⟩:=atr_fin hatl;have hkt:=HS.out.kt S.K[j] (List.getElem_mem hjk);have hfe:=HFE.out;rw[List.drop_eq_getElem_cons hjk,finEs_cons] at hfe;rw[hkx] at n0 n1 n2 n3;rw[hpv] at n4;obtain⟨x,hx⟩:∃ x,x=S.K[j]:=⟨_,rfl⟩;rw[<-hx] at n0 n1 n2 n3 n4 hfe hkt hatr;clear hpv hkx hatl hx hkl;obtain⟨xa,xp,xb,xq,al⟩:=x;dsimp only at hkt hatr;have hn1:=fun(w5:World) (x:Ext ws w5)=>numR_any 2 pa al pc kWeight w5 (hatr.ext x) (by have:=hkt.1.1;omega) (fun q hq=>by have:=(hkt.1.2 q hq).2;omega)
    have hn2:=fun(w5:World) (x:Ext ws w5)=>numR_any 2 pa al pc kLen w5 (hatr.ext x) (by have:=hkt.1.1;omega) (fun q hq=>by have:=(hkt.1.2 q hq).2;omega)
    have hg1:=fun(w5:World) (x:Ext ws w5)=>getR_any pa al pc kLabel w5 (hatr.ext x) (by have:=hkt.1.1;omega)
    simp only[<-num_same] at hn1 hn2;obtain⟨WT,hWT⟩:∃ v,v=numK 2 al kWeight:=⟨_,rfl⟩;obtain⟨LT,hLT⟩:∃ v,v=numK 2 al kLen:=⟨_,rfl⟩;have HWT:=hid hWT;have HLT:=hid hLT;unfold numK at hWT hLT;rw[<-hWT] at hn1;rw[<-hLT] at hn2;obtain⟨AL,hAL⟩:∃ n,n=al.length:=⟨_,rfl⟩;simp only[<-hAL] at hn1 hn2 hg1 n4;obtain⟨LB,hLB⟩:∃ v,v=(getT al kLabel).1:=⟨_,rfl⟩;obtain⟨LBb,hLBb⟩:∃ v,v=(getT al kLabel).2:=⟨_,rfl⟩;simp only[<-hLB,<- hLBb] at hg1
    have HLB:Hid (LB=labelT al ⟨#[]⟩):=hid (by
      unfold labelT;cases h:(getT al kLabel).2 with
      | true=>rw[if_pos rfl];exact hLB
      | false=>rw[if_neg (by decide),hLB,getT_false h])
    clear hLB hLBb;unfold kLabel at hg1;unfold kWeight at hn1;unfold kLen at hn2;have HN1:=hid hn1;have HN2:=hid hn2;have HG1:=hid hg1;have HKT:=hid hkt;have HFC:=hid hfe;have k0:=HF.out.X.cell n0;have k1:=HF.out.X.cell n1;have k2:=HF.out.X.cell n2;have k3:=HF.out.X.cell n3;have k4:=HF.out.X.cell n4;have b0:(0:Int)<=(j:Int):=by omega
    have b1:(j:Int) < (KN:Int):=by omega
    dsimp only at k0 k1 k2 k3 k4;clear n0 n1 n2 n3 n4 hn1 hn2 hg1 hkt hfe hWT hLT hAL hatr hdr;go_wp2_with fail;obtain⟨gx,hgx⟩:∃ g,g=wq.heap.size:=⟨_,rfl⟩;obtain⟨wb,hwb⟩:∃ w1,w1=wq.alloc (.cells #[.int .i64 xa,.int .i64 xb,.string xp,.string xq,.slice pa AL pc] 164):=⟨_,rfl⟩;have BX:Hid (wb.heap[gx]? = some (.cells #[.int .i64 xa,.int .i64 xb,.string xp,.string xq,.slice pa AL pc] 164 (0,0))):=hid (by rw[hwb,hgx];exact heap_alloc_new _ _);have XB:Hid (Ext wq wb):=hid (by rw[hwb];exact(Ext.refl _).alloc _);rw[<-hwb,<- hgx];clear hwb hgx k0 k1 k2 k3 k4 q6;have HFB:=hid (HF.out.ext XB.out);have XSB:=hid (HF.out.X.trans XB.out);obtain⟨y0,y1,y2,y3,y4⟩:=cells5g BX.out
    go_cut [8] from 73 to 84 (fun s8 wx=>∃ ge,s8=.pointer (some ⟨ge,0,none⟩)/\wb.heap.size<=ge/\Hid (wx.heap[ge]? = some (.cells #[.int .i64 xa,.int .i64 xb,.int .i64 0,.int .i64 0,.string ⟨#[]⟩,.int .i64 WT,.int .i64 LT] 61 (0,0)))/\Hid (Ext wb wx))
    case first =>
      go_region_held3 (fun w'=>w'.cell? ⟨gx,0,none⟩=some (.int .i64 xa)/\w'.cell? ⟨gx,1,none⟩=some (.int .i64 xb)/\w'.cell? ⟨gx,4,none⟩=some (.slice pa AL pc))
        (refine⟨Ext.cell (w:=wb) ?_ y0,Ext.cell (w:=wb) ?_ y1,Ext.cell (w:=wb) ?_ y4⟩ <;> (repeat (first | (with_reducible refine Ext.drew ?_) | (with_reducible refine Ext.alloc ?_ _) | ((with_reducible refine Ext.setCell ?_ ?_ _);rotate_left;(first | exact Nat.le_refl _ | exact X6.out.size | exact X7.out.size)) | (with_reducible exact X7.out) | (with_reducible exact X6.out) | (with_reducible exact Ext.refl _))))
        (first | (go_at_call 94;(first
          | (refine Calls.mono (by first | (with_reducible exact HN1.out _ XSB.out.drew) | (with_reducible exact HN1.out _ (XSB.out.alloc _).drew) | (with_reducible exact HN1.out _ (XSB.out.drew.alloc _))) ?_;rintro e w6 ⟨rfl,x6⟩;have X6:=hid (show Ext wb w6 by first | exact(Ext.refl wb).drew.trans x6 | exact((Ext.refl wb).alloc _).drew.trans x6 | exact((Ext.refl wb).drew.alloc _).trans x6);(first | (have B6:=(show w6.heap[wb.heap.size]? = some (.cells #[.int .i64 0,.int .i64 0,.int .i64 0,.int .i64 0,.string ⟨#[]⟩,.int .i64 0,.int .i64 0] 61 (0,0)) from At.heap_ext (by exact heap_alloc_new wb _) x6)) | skip))
          | (refine Calls.mono (by first | (with_reducible exact HN2.out _ (XSB.out.trans X6.out)) | (with_reducible exact HN2.out _ ((XSB.out.trans X6.out).alloc _))) ?_;rintro e w7 ⟨rfl,x7⟩;have X7:=hid (show Ext wb w7 by first | exact X6.out.trans x7 | exact(X6.out.alloc _).trans x7);(first | (have B7:=(show w7.heap[wb.heap.size]? = some (.cells #[.int .i64 0,.int .i64 0,.int .i64 0,.int .i64 0,.string ⟨#[]⟩,.int .i64 0,.int .i64 0] 61 (0,0)) from At.heap_ext B6 x7);obtain⟨q0,q1,q2,q3,q4,q5,q6,qf⟩:=cells7v B7) | (have B7:=(show w7.heap[w6.heap.size]? = some (.cells #[.int .i64 0,.int .i64 0,.int .i64 0,.int .i64 0,.string ⟨#[]⟩,.int .i64 0,.int .i64 0] 61 (0,0)) from At.heap_ext (heap_alloc_new w6 _) x7);obtain⟨q0,q1,q2,q3,q4,q5,q6,qf⟩:=cells7v B7) | skip)))))
      all_goals go_wp2
      all_goals go_meet
      · exact⟨_,rfl,X7.out.size,hid (heap_alloc_new _ _),hid (X7.out.alloc _)⟩
      · exact⟨_,rfl,X6.out.size,hid (set7g B7 _ _ _ _ _ _ _),hid (ext7g X7.out X6.out.size _ _ _ _ _ _ _)⟩
      exact⟨_,rfl,Nat.le_refl _,hid (set7g B7 _ _ _ _ _ _ _),hid (ext7g X7.out (Nat.le_refl _) _ _ _ _ _ _ _)⟩
    obtain⟨ge,rfl,hge,GE,XC⟩:=hcut;have XSC:=hid (XSB.out.trans XC.out);obtain⟨z0,z1,z2,z3,z4⟩:=cells5g (At.heap_ext BX.out XC.out);obtain⟨q0,q1,q2,q3,q4,q5,q6,qf⟩:=cells7v GE.out;clear y0 y1 y2 y3 y4;go_wp2_with (go_at_call 95;refine Calls.mono (by with_reducible exact HG1.out _ XSC.out) ?_;rintro e w6 ⟨rfl,rfl⟩);have hge2:wb.heap.size<=ge:=hge;obtain⟨wd,hwd⟩:∃ w1,w1=wc.setCell ⟨ge,4,none⟩ (.string LB):=⟨_,rfl⟩;have GD:Hid (wd.heap[ge]? = some (.cells #[.int .i64 xa,.int .i64 xb,.int .i64 0,.int .i64 0,.string LB,.int .i64 WT,.int .i64 LT] 61 (0,0))):=hid (by rw[hwd];exact blk_set GE.out 4 _);have XD:Hid (Ext wb wd):=hid (by rw[hwd];exact XC.out.setCell hge _);rw[<-hwd];clear hwd z0 z1 z2 z3 z4 q0 q1 q2 q3 q4 q5 q6 qf;have hxa:xa < NV.length:=by rw[HLV.out,HSN.out];exact HKT.out.2.1
    have hxb:xb < NV.length:=by rw[HLV.out,HSN.out];exact HKT.out.2.2.1
    obtain⟨gn,cN,hnv,-,-,-⟩:=row_has HFB.out.N (by omega);subst hnv;obtain⟨pA,cA,hpA,hprA,-⟩:=HFB.out.P xa NV[xa] (List.getElem?_eq_getElem hxa);obtain⟨pB,cB,hpB,hprB,-⟩:=HFB.out.P xb NV[xb] (List.getElem?_eq_getElem hxb);have nA:=row_nv5 HFB.out.N xa hxa;have nB:=row_nv5 HFB.out.N xb hxb;rw[hpA] at nA;rw[hpB] at nB;have hpl:∀ x ∈ NV,x.1.ports.length<=1000000000:=fun x hx=>finNs_ports HS.out x.1 (by rw[<-HFN.out,<- HMA.out];exact List.mem_map_of_mem hx)
    have hpa:=fun(w5:World) (x:Ext wd w5)=>portR_any pA NV[xa].1.ports cA xp w5 (hprA.ext (XD.out.trans x)) (hpl _ (List.getElem_mem hxa))
    have hpb:=fun(w5:World) (x:Ext wd w5)=>portR_any pB NV[xb].1.ports cB xq w5 (hprB.ext (XD.out.trans x)) (hpl _ (List.getElem_mem hxb))
    have hfin:=finE_at (NV:=NV) (x:=⟨xa,xp,xb,xq,al⟩) hxa hxb;obtain⟨PA,hPA⟩:∃ v,v=portT NV[xa].1.ports xp:=⟨_,rfl⟩;obtain⟨PB,hPB⟩:∃ v,v=portT NV[xb].1.ports xq:=⟨_,rfl⟩;obtain⟨LA,hLA⟩:∃ v,v=NV[xa].1.ports.length:=⟨_,rfl⟩;obtain⟨LL,hLL⟩:∃ v,v=NV[xb].1.ports.length:=⟨_,rfl⟩;simp only[<-hPA,<- hLA] at hpa;simp only[<-hPB,<- hLL] at hpb;rw[<-hLA] at nA;rw[<-hLL] at nB;dsimp only at hfin;rw[<-hPA,<- hPB,<- HLB.out,<- HWT.out,<- HLT.out] at hfin;have HPA:=hid hpa;have HPB:=hid hpb;have HFI:=hid hfin;obtain⟨NL,hNL⟩:∃ v,v=NV.length:=⟨_,rfl⟩;have g2:wb.cell? ⟨gb,2,none⟩=some (.slice (some ⟨gn,0,none⟩) NL cN):=by rw[Lib.cell_of_heap HFB.out.gr',hNL];rfl
    obtain⟨y0,y1,y2,y3,y4⟩:=cells5g BX.out;have b2:(0:Int)<=(xa:Int):=by omega
    have b3:(xa:Int) < (NL:Int):=by omega
    have b4:(0:Int)<=(xb:Int):=by omega
    have b5:(xb:Int) < (NL:Int):=by omega
    have HNL:=hid hNL;clear hpa hpb hfin hPA hPB hLA hLL hprA hprB hpA hpB hpl hNL y4 HF HG1 HN1 HN2 GE XC XSC
    go_cut [] from 91 to 113 (fun wx=>Hid (Ext wb wx)/\Hid (wx.heap[ge]? = some (.cells #[.int .i64 xa,.int .i64 xb,.int .i64 PA,.int .i64 PB,.string LB,.int .i64 WT,.int .i64 LT] 61 (0,0))))
    case first =>
      clear b0 b1;have u0:=XD.out.cell y0;have u1:=XD.out.cell y1;have u2:=XD.out.cell y2;have u3:=XD.out.cell y3;have u4:=XD.out.cell nA;have u5:=XD.out.cell nB;have u6:=XD.out.cell g2;obtain⟨q0,q1,q2,q3,q4,q5,q6,qf⟩:=cells7v GD.out
      go_region_held3 (fun w'=>w'.cell? ⟨gb,2,none⟩=some (.slice (some ⟨gn,0,none⟩) NL cN)/\w'.cell? ⟨gx,0,none⟩=some (.int .i64 xa)/\w'.cell? ⟨gx,1,none⟩=some (.int .i64 xb)/\w'.cell? ⟨gx,2,none⟩=some (.string xp)/\w'.cell? ⟨gx,3,none⟩=some (.string xq)/\w'.cell? ⟨gn,xa * 6+5,none⟩=some (.slice pA LA cA)/\w'.cell? ⟨gn,xb * 6+5,none⟩=some (.slice pB LL cB))
        (refine⟨Ext.cell (w:=wb) ?_ g2,Ext.cell (w:=wb) ?_ y0,Ext.cell (w:=wb) ?_ y1,Ext.cell (w:=wb) ?_ y2,Ext.cell (w:=wb) ?_ y3,Ext.cell (w:=wb) ?_ nA,Ext.cell (w:=wb) ?_ nB⟩ <;> (repeat (first | (with_reducible refine Ext.drew ?_) | ((with_reducible refine Ext.setCell ?_ ?_ _);rotate_left;(exact hge2)) | (with_reducible exact X7.out) | (with_reducible exact X6.out) | (with_reducible exact XD.out))))
        (first | (go_at_call 96;(first
          | (refine Calls.mono (by with_reducible exact HPA.out _ (Ext.refl wd).drew) ?_;rintro e w6 ⟨rfl,x6⟩;have Y6:=hid ((Ext.refl wd).drew.trans x6);have X6:=hid (XD.out.drew.trans x6))
          | (refine Calls.mono (by with_reducible exact HPB.out _ (Ext.refl wd).drew) ?_;rintro e w6 ⟨rfl,x6⟩;have Y6:=hid ((Ext.refl wd).drew.trans x6);have X6:=hid (XD.out.drew.trans x6))
          | (refine Calls.mono (by with_reducible exact HPB.out _ Y6.out) ?_;rintro e w7 ⟨rfl,x7⟩;have X7:=hid (X6.out.trans x7);have G7:=hid (At.heap_ext GD.out (Y6.out.trans x7));obtain⟨q0,q1,q2,q3,q4,q5,q6,qf⟩:=cells7v G7.out)
          | (refine Calls.mono (by with_reducible exact HPA.out _ Y6.out) ?_;rintro e w7 ⟨rfl,x7⟩;have X7:=hid (X6.out.trans x7);have G7:=hid (At.heap_ext GD.out (Y6.out.trans x7));obtain⟨q0,q1,q2,q3,q4,q5,q6,qf⟩:=cells7v G7.out))))
      all_goals go_wp2
      all_goals go_meet
      all_goals exact⟨hid ((X7.out.setCell hge2 _).setCell hge2 _),hid (set23 G7.out _ _)⟩
    obtain⟨XE,GE⟩:=hcut;have HFW:=hid (HFB.out.ext XE.out);clear HFB XD GD HPA HPB g2 y0 y1 y2 y3 nA nB b2 b3 b4 b5 BX XB XSB HNL;by_cases hp:PA = -2\/PB = -2
    · have hr:Hid (R=.error 5):=hid (by
        have h1:=HFI.out;rw[if_pos hp,HMA.out] at h1;have h2:=HFC.out;rw[h1] at h2;rw[HR.out];unfold finT;rw[<-HFN.out,h2]
        rfl)
      have zf:∀ j,wc.frozen? ⟨gr,j,none⟩=false:=fun j=>Lib.frozen_of_heap HFW.out.rs j
      obtain⟨z0,z1,z2,z3,z4⟩:=cells5g HFW.out.rs;obtain⟨q0,q1,q2,q3,q4,q5,q6,qf⟩:=cells7v GE.out
      have hAB:((PA == (-2:Int))=true)\/((PA == (-2:Int))=false/\(PB == (-2:Int))=true):=by
        by_cases h:PA = -2
        · exact .inl (by rw[h];rfl)
        exact .inr ⟨(nfacts h).1,by rw[hp.resolve_left h];rfl⟩
      clear hp HFI HFC;rcases hAB with d1 | ⟨d1,d2⟩ <;>
      (go_upto_region 14 with (fail)
       generalize hQQ : (Exit.then _ _ : Exit -> Act -> World -> Prop) = QQ; go_wp2_with fail; subst hQQ; simp only [Exit.then]; rename_i hk; refine hk _ _ ?_
       go_wp
       refine bodyPost_ret (results_gr rfl _ _ gr _ (.int .i64 5) rfl rfl rfl (set5g HFW.out.rs _ _ _ _ _)) rfl ?_; rw [hr.out]
       exact⟨⟨rfl,by decide⟩,ext5g HFW.out.X HFW.out.lo.1 _ _ _ _ _⟩)
    have d1:(PA == (-2:Int))=false:=(nfacts (fun h=>hp (.inl h))).1;have d2:(PB == (-2:Int))=false:=(nfacts (fun h=>hp (.inr h))).1;have hq:=HFI.out;rw[if_neg hp,HMA.out] at hq;have h2:=HFC.out;rw[hq] at h2
    have HFE2:Hid (finEs FN S.K=(finEs FN (S.K.drop (j+1))).map (fun l=>(E++[⟨xa,xb,PA,PB,LB,WT,LT⟩])++l)):=hid (by
      rw[h2]
      cases finEs FN (S.K.drop (j+1)) <;> simp)
    clear hp hq h2 HFI HFC;obtain⟨ea,ec,rfl,-,-⟩:=row_val HFW.out.E;obtain⟨j0,hj0,hjz0,hjz1,hjz2⟩:=info_parts info_edge;obtain⟨q0,q1,q2,q3,q4,q5,q6,qf⟩:=cells7v GE.out;have c3:wc.cell? ⟨gb,3,none⟩=some (.slice ea E.length ec):=by rw[Lib.cell_of_heap HFW.out.gr'];rfl
    have c3a:=fun ob=>((Ext.refl wc).alloc ob).cell c3
    have hel2:E.length<=1000000000:=by rw[HLE.out];have:=HS.out.l;have:=HKN.out;omega
    go_wp2_with (at_builtin;refine wpList_append_lies _ rfl _ _ 23 rfl ws.heap.size 61 j0 _ 7 64 Tryz.underlying23 hj0 hjz0 hjz1 hjz2 rfl (by decide) _ _ _ rfl (At.own_ext HFW.out.E ((Ext.refl wc).alloc _)) _ 1 1 (edC ⟨xa,xb,PA,PB,LB,WT,LT⟩) rfl rfl ?c1 ?c2 (by decide) ?c3 ?c4 ?c5 _ rfl ?_)
    case c1=>exact World.news_of_block (cs:=#[.int .i64 xa,.int .i64 xb,.int .i64 PA,.int .i64 PB,.string LB,.int .i64 WT,.int .i64 LT]) (t:=61) (fr:=(0,0)) (heap_alloc_new wc _)
    case c2=>intro u hu;simp[edC] at hu;rcases hu with rfl | rfl | rfl | rfl | rfl | rfl | rfl <;> rfl
    case c3=>unfold maxLen;(try simp);omega
    case c4=>(try simp);omega
    case c5=>have:=HFW.out.X.size;(try simp);omega
    intro g7 c7 w7 hown1 hgrow _ _;have hX1:Ext wc (wc.alloc (.cells #[.int .i64 xa,.int .i64 xb,.int .i64 PA,.int .i64 PB,.string LB,.int .i64 WT,.int .i64 LT] 61)):=(Ext.refl wc).alloc _;have hH1:=HFW.out.ext hX1;have hS7:=cel_keep hH1.gr' hgrow (row_ty hH1.E) (nope (by decide));have e7:w7.cell? ⟨gb,3,none⟩=some (.slice ea E.length ec):=by rw[Lib.cell_of_heap hS7];rfl
    have f7:w7.frozen? ⟨gb,3,none⟩=false:=Lib.frozen_of_heap hS7 3;have FIN:=hid (HFW.out.appE hX1 ⟨xa,xb,PA,PB,LB,WT,LT⟩ rfl hown1 hgrow);have HLE2:Hid ((E++[(⟨xa,xb,PA,PB,LB,WT,LT⟩:Ed)]).length=j+1):=hid (by rw[List.length_append,HLE.out];rfl);clear hown1 hgrow hS7 q0 q1 q2 q3 q4 q5 q6 qf c3 c3a hX1 hH1 HFW;go_wp2
    go_roundw
    case rel=>exact⟨j+1,E++[⟨xa,xb,PA,PB,LB,WT,LT⟩],_,by omega,by go_num,HLE2,HFE2,FIN⟩
    case measure=>simp[RowKit.intOf];omega
  have hjK:j=KN:=by omega
  obtain⟨na',nc',hnv,-,-⟩:=row_val HF.out.N;obtain⟨ea,ec,hev,-,-⟩:=row_val HF.out.E;subst hnv;subst hev
  have hfe:finEs FN S.K=some E:=by
    rw[HFE.out,List.drop_eq_nil_of_le (by rw[<-HKN.out];omega)];unfold finEs;simp
  obtain⟨GR,hGR⟩:∃ g:Gr,g=⟨nm,dir,FN,E,S.C⟩:=⟨_,rfl⟩
  have hr:R=if grE GR ≠ 0 then .error (grE GR) else .ok GR:=by
    rw[HR.out];unfold finT;rw[<-HFN.out,hfe,hGR]
  have hcl:wq.ownsRow B 63 2 (.slice ca CN cc) S.C.length (clsC S.C):=by
    rw[HCN.out];exact At.own_ext HD.out.C HF.out.X
  have hgi:=HF.out.made hcl;rw[HMA.out,<- hGR] at hgi;have hsm:GrSm GR:=by rw[hGR,HFN.out];exact grSm_of HNM.out HS.out (by omega) (by omega) (by rw[<-HFN.out];exact hfe)
  have hvl:=fun(w5:World) (x:Ext wq w5)=>validGR_any GR _ w5 (hgi.ext x) hsm
  obtain⟨c0,c1,c2,c3,c4⟩:=cells5g HF.out.gr';obtain⟨GE,hGE⟩:∃ v,v=grE GR:=⟨_,rfl⟩;rw[<-hGE] at hr;simp only[<-hGE] at hvl;have HRR:=hid hr;have HVL:=hid hvl;have HGR:=hid hGR;have HCL:=hid hcl;have HGS:=hid hsm;have b2:¬ (j:Int) < (KN:Int):=by omega
  clear hfe hr hgi hsm hvl hGE hGR hcl hjK hdr;go_wp2_with fail
  go_at_call 31
  refine Calls.mono (by with_reducible exact HVL.out wq (Ext.refl wq)) ?_;rintro e w8 ⟨rfl,x8⟩;have D8:=hid (HF.out.ext x8);have C8:=hid (At.own_ext HCL.out x8);obtain⟨z0,z1,z2,z3,z4⟩:=cells5g D8.out.rs;have zf:∀ j,w8.frozen? ⟨gr,j,none⟩=false:=fun j=>Lib.frozen_of_heap D8.out.rs j
  obtain⟨d0,d1,d2,d3,d4⟩:=cells5g D8.out.gr';clear c0 c1 c2 c3 c4 x8;by_cases hg0:GE=0
  · subst hg0;have hr2:=HRR.out;rw[if_neg (by decide)] at hr2;have HR3:=hid hr2;clear hr2;obtain⟨f1,f2⟩:=efacts 0
    go_upto_region 19 with(fail)
    generalize hQQ:(Exit.then _ _:Exit->Act->World->Prop)=QQ;go_wp2_with fail;subst hQQ
    try simp only[Exit.then]
    try(rename_i hk;refine hk _ _ ?_)
    try go_wp
    refine bodyPost_ret (results_gr rfl _ _ gr _ (.int .i64 0) rfl rfl rfl (set5g D8.out.rs _ _ _ _ _)) rfl ?_;rw[HR3.out];have hgo:=(D8.out.made C8.out).box D8.out.rs (.string nm) (.bool dir) (.slice na' NV.length nc') (.slice ea E.length ec) (.slice ca CN cc);have hgc:=(D8.out.madeC C8.out).box (D8.out.made C8.out) D8.out.rs (.string nm) (.bool dir) (.slice na' NV.length nc') (.slice ea E.length ec) (.slice ca CN cc);rw[HMA.out,<- HGR.out] at hgo hgc;exact⟨⟨_,rfl,hgo,hgc,HGS.out⟩,ext5g D8.out.X D8.out.lo.1 _ _ _ _ _⟩
  obtain⟨f1,f2⟩:=nfacts hg0;have hr2:=HRR.out;rw[if_pos hg0] at hr2;have HR3:=hid hr2;clear hr2
  go_upto_region 18 with(fail)
  generalize hQQ:(Exit.then _ _:Exit->Act->World->Prop)=QQ;go_wp2_with fail;subst hQQ
  try simp only[Exit.then]
  try(rename_i hk;refine hk _ _ ?_)
  try go_wp
  refine bodyPost_ret (results_gr rfl _ _ gr _ (.int .i64 GE) rfl rfl rfl (set5g D8.out.rs _ _ _ _ _)) rfl ?_;rw[HR3.out];exact⟨⟨rfl,hg0⟩,ext5g D8.out.X D8.out.lo.1 _ _ _ _ _⟩
end Go.Proofs.YtjaeedbjknejdaaGreatDoor.Nm

namespace Go.Proofs.YtjaeedbjknejdaaGreatDoor.Nm
open Go.RowKit Go.Sort Go.Lib Go.Shelf Fx Lx Tr At
def oI : Option Nat->Int
 | some v=>v
 | none => -1
theorem idxGo_cons (n:ByteArray)(k:Nat)(q:ByteArray × Int)(r:List (ByteArray × Int)):idxGo n k (q::r)=if q.1=n then some k else idxGo n (k+1) r:=rfl
variable {w0:World} {bb B:Nat} {nm:ByteArray} {dir:Bool} {nv av cv lv:Value} {aw:List Value} {ks:List (Lk × Value)} {S:St} {E:Int}
theorem nodeD_any (n:ByteArray)(w:World)(h:Doc w0 bb B nm dir w nv av cv lv aw ks S E)(hN:S.N.length<=4611686018427387904):
  Calls Tryz.prog 152 #[.pointer (some ⟨bb,0,none⟩),.string n] w fun e w'=>e=.returned (.int .i64 (oI (S.idx n)))/\Ext w w':=by
 obtain⟨V,hV⟩:∃ V,V=oI (S.idx n):=⟨_,rfl⟩;have H0:Hid (V=oI (idxGo n 0 (S.N.drop 0))):=hid (by rw[List.drop_zero];exact hV);rw[<-hV];obtain⟨a,c,rfl,-,-⟩:=row_val h.N;obtain⟨q,hq⟩:∃ n,n=S.N.length:=⟨_,rfl⟩;have HD:=hid h;have HQ:=hid hq;rw[<-hq] at hN;clear hV h hq;go_enter Tryz.func152,Tryz.ntmps152;go_wp2_with fail
 go_loopw [5] (fun i' wr=>∃ k:Nat,k<=q/\i'=.int .i64 k/\Hid (V=oI (idxGo n k (S.N.drop k)))/\Ext w wr) (fun i' _=>q - (RowKit.intOf i').toNat)
 case atStart=>exact⟨0,Nat.zero_le _,rfl,H0,Ext.refl _⟩
 clear H0;obtain⟨k,hk,rfl,hv,hx⟩:=hrel;have D:=HD.out.ext hx;obtain⟨-,-,d2,-,-,-,-⟩:=D.cells;rw[<-HQ.out] at d2;by_cases hlt:k < q
 ·have hkN:k < S.N.length:=by rw[<-HQ.out];exact hlt
  obtain⟨g,gc,hnv,-,-,-⟩:=row_has D.N (by omega);injection hnv with e1 e2 e3;subst e1;have x0:=D.N.cells (g:=g) rfl (k * 6+0) (.string S.N[k].1) (by unfold ndsC;rw[fm_get (s:=6) (f:=ndC) (fun _=>rfl) S.N k hkN 0 (by omega)];rfl);rw[add0,Nat.add_zero] at x0;have hv1:=hv.out;rw[List.drop_eq_getElem_cons hkN,idxGo_cons] at hv1;obtain⟨s,hs⟩:∃ s,s=S.N[k].1:=⟨_,rfl⟩;rw[<-hs] at x0 hv1;have HV:=hid hv1;have b0:(0:Int)<=(k:Int):=by omega
  have b1:(k:Int) < (q:Int):=by omega
  clear hs hv hv1 D e2 e3;by_cases heq:s=n
  ·have f1:(s.toList == n.toList)=true:=by rw[At.beqs];exact decide_eq_true heq
   have hr:Hid (V=(k:Int)):=hid (by rw[HV.out,if_pos heq];rfl);clear heq HV;go_wp2;go_ret;exact⟨ret_i hr.out.symm,hx⟩
  have f1:(s.toList == n.toList)=false:=by rw[At.beqs];exact decide_eq_false heq
  have hr:Hid (V=oI (idxGo n (k+1) (S.N.drop (k+1)))):=hid (by rw[HV.out,if_neg heq]);clear heq HV;go_wp2
  go_roundw
  case rel=>exact⟨k+1,by omega,by go_num,hr,hx⟩
  case measure=>simp[RowKit.intOf];omega
 have hr:Hid (V = -1):=hid (by rw[hv.out,List.drop_eq_nil_of_le (by rw[<-HQ.out];omega)];rfl);clear hv D;go_wp2;go_ret;exact⟨ret_i hr.out.symm,hx⟩
theorem clusD_any (n:ByteArray)(w:World)(h:Doc w0 bb B nm dir w nv av cv lv aw ks S E)(hN:S.C.length<=4611686018427387904):
  Calls Tryz.prog 151 #[.pointer (some ⟨bb,0,none⟩),.string n] w fun e w'=>e=.returned (.bool (S.taken n))/\Ext w w':=by
 obtain⟨V,hV⟩:∃ V,V=S.taken n:=⟨_,rfl⟩;have H0:Hid (V=(S.C.drop 0).any fun q=>decide (q.1=n)):=hid (by rw[List.drop_zero];exact hV);rw[<-hV];obtain⟨a,c,rfl,-,-⟩:=row_val h.C;obtain⟨q,hq⟩:∃ n,n=S.C.length:=⟨_,rfl⟩;have HD:=hid h;have HQ:=hid hq;rw[<-hq] at hN;clear hV h hq;go_enter Tryz.func151,Tryz.ntmps151;go_wp2_with fail
 go_loopw [5] (fun i' wr=>∃ k:Nat,k<=q/\i'=.int .i64 k/\Hid (V=(S.C.drop k).any fun q=>decide (q.1=n))/\Ext w wr) (fun i' _=>q - (RowKit.intOf i').toNat)
 case atStart=>exact⟨0,Nat.zero_le _,rfl,H0,Ext.refl _⟩
 clear H0;obtain⟨k,hk,rfl,hv,hx⟩:=hrel;have D:=HD.out.ext hx;obtain⟨-,-,-,d2,-,-,-⟩:=D.cells;rw[<-HQ.out] at d2;by_cases hlt:k < q
 ·have hkN:k < S.C.length:=by rw[<-HQ.out];exact hlt
  obtain⟨g,gc,hnv,-,-,-⟩:=row_has D.C (by omega);injection hnv with e1 e2 e3;subst e1;have x0:=D.C.cells (g:=g) rfl (k * 2+0) (.string S.C[k].1) (by unfold clsC;rw[fm_get (s:=2) (f:=clC) (fun _=>rfl) S.C k hkN 0 (by omega)];rfl);rw[add0,Nat.add_zero] at x0;have hv1:=hv.out;rw[List.drop_eq_getElem_cons hkN,List.any_cons] at hv1;obtain⟨s,hs⟩:∃ s,s=S.C[k].1:=⟨_,rfl⟩;rw[<-hs] at x0 hv1;have HV:=hid hv1;have b0:(0:Int)<=(k:Int):=by omega
  have b1:(k:Int) < (q:Int):=by omega
  clear hs hv hv1 D e2 e3;by_cases heq:s=n
  ·have f1:(s.toList == n.toList)=true:=by rw[At.beqs];exact decide_eq_true heq
   have hr:Hid (V=true):=hid (by rw[HV.out,decide_eq_true heq];rfl);clear heq HV;go_wp2;go_ret;exact⟨by rw[hr.out];rfl,hx⟩
  have f1:(s.toList == n.toList)=false:=by rw[At.beqs];exact decide_eq_false heq
  have hr:Hid (V=(S.C.drop (k+1)).any fun q=>decide (q.1=n)):=hid (by rw[HV.out,decide_eq_false heq];rfl);clear heq HV;go_wp2
  go_roundw
  case rel=>exact⟨k+1,by omega,by go_num,hr,hx⟩
  case measure=>simp[RowKit.intOf];omega
 have hr:Hid (V=false):=hid (by rw[hv.out,List.drop_eq_nil_of_le (by rw[<-HQ.out];omega)];rfl);clear hv D;go_wp2;go_ret;exact⟨by rw[hr.out];rfl,hx⟩
end Go.Proofs.YtjaeedbjknejdaaGreatDoor.Nm
