/- Packed texts: NorBlkD -/
import Derived.Test.YtjaeedbjknejdaaGreatDoorPd44
set_option linter.unusedVariables false
set_option linter.unusedSimpArgs false
set_option maxHeartbeats 16000000
set_option maxRecDepth 100000
namespace Go.Proofs.YtjaeedbjknejdaaGreatDoor.Nm
open Go.RowKit Go.Sort Go.Lib Go.Shelf Fx Lx Tr At
structure BlkDAt (w0:World)(bb B:Nat)(nm:ByteArray)(dir:Bool)(R:Except Int St)(L:List Stm)(k:Nat)(w:World)(gp:Nat)(i:Nat)(p:Pl)(pn pe:Value)(S:St)(E:Int)(wr:World):Prop where
 r:(E=0->R=blkL p S (L.drop i)/\Sml (1048576 * (k+cntL (L.take i))) (k+cntL (L.take i)) S/\SmP (k+cntL (L.take i)) p)/\(E ≠ 0->R=.error E)
 d:DocE w0 bb B nm dir wr S E
 pl:wr.heap[gp]? = some (.cells #[.int .i64 p.c,pn,pe] 98 (0,0))
 pn:AtL wr pn p.n
 pe:AtL wr pe p.e
 kb:KeepD w wr
structure AftD (w0:World)(bb B:Nat)(nm:ByteArray)(dir:Bool)(w:World)(gp gb:Nat)(v0 v1 v2 v3 v4:Value)(p:Pl)(pn pe:Value)(nv av cv lv:Value)(aw:List Value)(ks:List (Lk × Value))(S:St)(E:Int)(w5:World):Prop where
 d:Doc w0 bb B nm dir w5 nv av cv lv aw ks S E
 tb:w5.heap[gb]? = some (.cells #[v0,v1,v2,v3,v4] 67 (0,0))
 pl:w5.heap[gp]? = some (.cells #[.int .i64 p.c,pn,pe] 98 (0,0))
 pn:AtL w5 pn p.n
 pe:AtL w5 pe p.e
 kb:KeepD w w5
section
variable {w0:World} {bb B:Nat} {nm:ByteArray} {dir:Bool} {w:World} {gp gb:Nat} {v0 v1 v2 v3 v4:Value} {p:Pl} {pn pe:Value} {nv av cv lv:Value} {aw:List Value} {ks:List (Lk × Value)} {S:St} {E:Int} {w5 w6:World}
theorem AftD.of {R:Except Int St}{L:List Stm}{k0 i:Nat}{S0:St}{E0:Int}{wr:World}(h:BlkDAt w0 bb B nm dir R L k0 w gp i p pn pe S0 E0 wr)(d5:Doc w0 bb B nm dir w5 nv av cv lv aw ks S E)(k:KeepD (wr.alloc (.cells #[v0,v1,v2,v3,v4] 67)) w5):
  AftD w0 bb B nm dir w gp wr.heap.size v0 v1 v2 v3 v4 p pn pe nv av cv lv aw ks S E w5:=by
 have k2:KeepD wr w5:=(KeepD.of ((Ext.refl wr).alloc (.cells #[v0,v1,v2,v3,v4] 67))).trans k;exact⟨d5,k.blk _ _ _ _ (heap_alloc_new wr _) (by decide) (by decide) (by decide) (by decide) (by decide),k2.blk _ _ _ _ h.pl (by decide) (by decide) (by decide) (by decide) (by decide),k2.atL h.pn,k2.atL h.pe,h.kb.trans k2⟩
theorem AftD.next (h:AftD w0 bb B nm dir w gp gb v0 v1 v2 v3 v4 p pn pe nv av cv lv aw ks S E w5){nv' av' cv' lv':Value}{aw':List Value}{ks':List (Lk × Value)}{S':St}{E':Int}(d6:Doc w0 bb B nm dir w6 nv' av' cv' lv' aw' ks' S' E')(k:KeepD w5 w6):
  AftD w0 bb B nm dir w gp gb v0 v1 v2 v3 v4 p pn pe nv' av' cv' lv' aw' ks' S' E' w6 :=
 ⟨d6,k.blk _ _ _ _ h.tb (by decide) (by decide) (by decide) (by decide) (by decide),k.blk _ _ _ _ h.pl (by decide) (by decide) (by decide) (by decide) (by decide),k.atL h.pn,k.atL h.pe,h.kb.trans k⟩
theorem AftD.cells (h:AftD w0 bb B nm dir w gp gb v0 v1 v2 v3 v4 p pn pe nv av cv lv aw ks S E w5):w5.cell? ⟨gb,0,none⟩=some v0/\w5.cell? ⟨gb,1,none⟩=some v1/\w5.cell? ⟨gb,2,none⟩=some v2/\w5.cell? ⟨gb,3,none⟩=some v3/\w5.cell? ⟨gb,4,none⟩=some v4 /\
  w5.cell? ⟨gp,0,none⟩=some (.int .i64 p.c)/\w5.cell? ⟨gp,1,none⟩=some pn/\w5.cell? ⟨gp,2,none⟩=some pe/\(∀ j,w5.frozen? ⟨gp,j,none⟩=false)/\w5.cell? ⟨bb,7,none⟩=some (.int .i64 E):=by
 refine⟨?_,?_,?_,?_,?_,?_,?_,?_,fun j=>Lib.frozen_of_heap h.pl j,h.d.cells.2.2.2.2.2.2⟩
 all_goals first
  | (rw[Lib.cell_of_heap h.tb];rfl)
  | (rw[Lib.cell_of_heap h.pl];rfl)
end
theorem AtL.otherD {w:World}{v:Value}{L:List Two}{cs:Array Value}{E:TypeId}{g j:Nat}{u:Value}(h:AtL w v L)(hb:w.heap[g]? = some (.cells cs E (0,0)))(h6:E ≠ 69):AtL (w.setCell ⟨g,j,none⟩ u) v L:=h.keep (set_grown w g j u) (cel_ty hb) (nope h6.symm)
theorem one_at (w:World)(nm v:ByteArray):AtL (w.alloc (.cells #[.string nm,.string v] 69)) (.slice (some ⟨w.heap.size,0,none⟩) 1 1) [(nm,v)]:=by
 have hb:=heap_alloc_new w (.cells #[.string nm,.string v] 69);refine⟨_,1,rfl,fun k hk=>?_,fun e=>by(cases e),fun q e=>by cases e;exact⟨_,hb⟩⟩;have h0:k=0:=by simp at hk;omega
 subst h0;exact⟨_,0,rfl,by rw[Lib.cell_of_heap hb];rfl,by rw[Lib.cell_of_heap hb];rfl⟩
theorem form_def (nm:ByteArray)(rs al:List Two)(body:List Stm)(h:formB (.mk 3 nm rs al body)=true):nm.data.toList=nodeW\/nm.data.toList=[101,100,103,101]:=by
 unfold formB at h;simp only[Stm.kind,Stm.name] at h;rw[if_neg (by decide),if_neg (by decide),if_pos trivial] at h;simp only[Bool.and_eq_true,Bool.or_eq_true] at h;exact h.2.imp of_decide_eq_true of_decide_eq_true
theorem docK3_2 (nm:ByteArray)(rs al:List Two)(body:List Stm)(h:nm.data.toList=[101,100,103,101]):chkGo (docK (.mk 3 nm rs al body)) none (docA (.mk 3 nm rs al body))=chkGo 2 none al:=by
 unfold docK docA;simp[Stm.kind,Stm.name,Stm.attrs,h]
theorem docK3_1 (nm:ByteArray)(rs al:List Two)(body:List Stm)(h:¬ nm.data.toList=[101,100,103,101]):chkGo (docK (.mk 3 nm rs al body)) none (docA (.mk 3 nm rs al body))=chkGo 1 none al:=by
 unfold docK docA;simp[Stm.kind,Stm.name,Stm.attrs,h]
theorem blkD_step (w0:World)(bb B:Nat)(nmG:ByteArray)(dir:Bool)(nn M:Nat)(hnn:nn<=w0.heap.size)(IH:∀ M',M' < M->BlkD w0 bb B nmG dir nn M'):BlkD w0 bb B nmG dir nn M:=by
 intro L b cap p pn pe S k w hcM hst hlen hok hs hp hk hb hpn hpe;obtain⟨R,hR⟩:∃ R,R=blkL p S L:=⟨_,rfl⟩;obtain⟨N,hN⟩:∃ N,N=L.length:=⟨_,rfl⟩;rw[<-hR];have hlen2:N<=512:=by have:=cntL_len L;omega
 rw[<-hN] at hlen ⊢;clear hlen
 have hC:Hid (BlkDAt w0 bb B nmG dir R L k w w.heap.size 0 p pn pe S 0 (w.alloc (.cells #[.int .i64 p.c,pn,pe] 98))):=hid (by
  refine⟨⟨fun _=>⟨by rw[List.drop_zero];exact hR,?_,?_⟩,fun h=>absurd rfl h⟩,hb.ext ((Ext.refl _).alloc _),heap_alloc_new _ _,hpn.ext ((Ext.refl _).alloc _),hpe.ext ((Ext.refl _).alloc _),KeepD.of ((Ext.refl _).alloc _)⟩
  ·rw[List.take_zero,cntL_nil];exact hs
  rw[List.take_zero,cntL_nil];exact hp)
 have HST:=hid hst;have HOK:=hid hok;have HIH:=hid IH;have HN:=hid hN;have HCM:=hid hcM;have HK:=hid hk;have HNN:=hid hnn;have hx0:=hb.X;have HX0:=hid hx0;clear hst hok IH hR hN hs hp hb hpn hpe hcM hk hnn hx0;go_enter Tryz.func42,Tryz.ntmps42;go_wp2_with fail;obtain⟨gp,hgp⟩:∃ g,g=w.heap.size:=⟨_,rfl⟩;have HGP:=hid hgp;rw[<-hgp] at hC ⊢;clear hgp
 go_loopw [6] (fun i' wr=>∃ (i:Nat) (p:Pl) (pn pe:Value) (S:St) (E:Int),i<=N/\i'=.int .i64 i/\Hid (BlkDAt w0 bb B nmG dir R L k w gp i p pn pe S E wr)) (fun i' _=>N - (RowKit.intOf i').toNat)
 case atStart=>exact⟨0,p,pn,pe,S,0,Nat.zero_le _,rfl,hC⟩
 clear hC;obtain⟨i,p,pn,pe,S,E,hi,rfl,hC⟩:=hrel;obtain⟨pna,pnc,rfl,-,-⟩:=hC.out.pn;obtain⟨pea,pec,rfl,-,-⟩:=hC.out.pe;obtain⟨nv,av,cv,lv,aw,ks,hD⟩:=hC.out.d;have d7:=hD.cells.2.2.2.2.2.2;have HD:=hid hD;clear hD;by_cases hE:E=0
 case neg =>
  obtain⟨f1,f2⟩:=nfacts hE;have hr:Hid (R=.error E):=hid (hC.out.r.2 hE);by_cases hlt:i < N
  ·have b1:(i:Int) < (N:Int):=by omega
   go_wp2;go_returns;rw[hr.out];exact⟨rfl,⟨hE,_,hC.out.d⟩,hC.out.kb⟩
  have b1:¬ (i:Int) < (N:Int):=by omega
  go_wp2;go_returns;rw[hr.out];exact⟨rfl,⟨hE,_,hC.out.d⟩,hC.out.kb⟩
 subst hE;obtain⟨f1,f2⟩:=efacts 0;obtain⟨hrr,hsm,hsp⟩:=hC.out.r.1 rfl;by_cases hlt:i < N
 ·have hkl:i < L.length:=by rw[<-HN.out];exact hlt
  have hx:=hC.out.d.X;obtain⟨g,o,rfl,hg,hst⟩:=StmsAt.at L HST.out i hkl;have hoki:=okWL_at L i hkl HOK.out;have hct:=cntL_take L i hkl;have hcle:=cntL_le L (i+1);rw[List.drop_eq_getElem_cons hkl,blkL_cons] at hrr;have hstm:=fun p' S'=>Sml.stm L[i] (k+cntL (L.take i)) p p' S S' hoki hsm hsp
  obtain⟨x,hxe⟩:∃ x,x=L[i]:=⟨_,rfl⟩;rw[<-hxe] at hst hoki hct hrr hstm;obtain⟨kind,nm,rs,al,body⟩:=x;rw[StmAt] at hst;obtain⟨r,rc,a,ac,b',bc,c0',c1',c2',c3',c4',hr,ha,hbs,hl1,hl2,hl3,hl4,hl5⟩:=hst;have c0:=hx.cell c0';have c1:=hx.cell c1';have c2:=hx.cell c2';have c3:=hx.cell c3';have c4:=hx.cell c4';rw[okWS_eq] at hoki;obtain⟨⟨ok1,ok2,ok3,ok4,ok5,ok6⟩,okb⟩:=hoki;simp only[Stm.refs,Stm.attrs,Stm.name,Stm.body] at ok1 ok2 ok3 ok4 ok5 okb;have hks:k+cntL (L.take (i+1))=k+cntL (L.take i)+cntS (.mk kind nm rs al body):=by rw[hct,Nat.add_assoc]
  have hcb:=cntS_body (.mk kind nm rs al body);simp only[Stm.body] at hcb;have hkt:k+cntL (L.take i)+(cntL body+1)<=512:=by have:=HK.out;rw[hcb] at hct;omega
  have hbM:cntL body < M:=by have:=HCM.out;rw[hcb] at hct;omega
  have hat:AtrIn wr a al:=two_atr (TwoAt.below ha (hx.mono HNN.out));have hbd:=(form_kinds _ ok6).1;have hk4:=(form_kinds _ ok6).2.2;have hfd:kind=3->nm.data.toList=nodeW\/nm.data.toList=[101,100,103,101]:=fun e=>by subst e;exact form_def nm rs al body ok6
  simp only[Stm.kind,Stm.attrs] at hbd hk4;obtain⟨c,hce⟩:∃ c,c=chkS (.mk kind nm rs al body):=⟨_,rfl⟩;have hcd:=chk_doc _ ok6;rw[<-hce] at hcd;obtain⟨RN,hRN⟩:∃ n,n=rs.length:=⟨_,rfl⟩;obtain⟨AN,hAN⟩:∃ n,n=al.length:=⟨_,rfl⟩;obtain⟨BN,hBN⟩:∃ n,n=body.length:=⟨_,rfl⟩;rw[<-hRN] at c2;rw[<-hAN] at c3;rw[<-hBN] at c4;have HRN:=hid hRN;have HAN:=hid hAN;have HBN:=hid hBN;clear hRN hAN hBN;have HRR:=hid hrr;have HSTM:=hid hstm;have HKS:=hid hks;have HX:=hid hx;have HCE:=hid hce;have HCD:=hid hcd;have HR:=hid hr;have HA:=hid ha;have HBS:=hid hbs;have OK1:=hid ok1;have OK4:=hid ok4;have OKB:=hid okb;have HAT:=hid hat;have HL5:=hid hl5;have HKT:=hid hkt;have HBM:=hid hbM;have HSM:=hid hsm;have HSP:=hid hsp;have b0:(0:Int)<=(i:Int):=by omega
  have b1:(i:Int) < (N:Int):=by omega
  clear c0' c1' c2' c3' c4' hr ha hbs hl1 hl2 hl3 hl4 hl5 ok1 ok4 okb ok6 hrr hstm hks hx hce hct hcle hcb hkt hbM hat hxe hg hcd hsm hsp;rcases hbd with rfl | rfl | rfl | rfl | rfl
  ·have hkd:c=chkGo 1 none al:=by rw[HCD.out];rfl
   have hck:=fun(w4:World) (x:Ext wr w4)=>checked_any w0 bb B nmG dir 1 a ac al nv av cv lv aw ks S 0 w4 (HD.out.ext x) (fun w' x0 _=>two_atr (TwoAt.below HA.out (x0.mono HNN.out))) OK4.out (by omega)
   rw[if_neg (show ¬ ((0:Int) ≠ 0) by decide),<- hkd,<- HAN.out] at hck;have HCK:=hid hck;clear hck hkd hk4 hfd;by_cases hc0:c=0
   case neg =>
    have hr:Hid (R=.error c):=hid (by rw[HRR.out,blkS_bad (by rw[<-HCE.out];exact hc0),<- HCE.out]);obtain⟨g1,g2⟩:=nfacts hc0;go_wp2_with (go_at_call 86;refine Calls.mono (by with_reducible exact HCK.out _ ((Ext.refl _).alloc _)) ?_;rintro e w5 ⟨rfl,hd5,k5⟩;have A5:=hid (AftD.of hC.out hd5 (k:=k5));obtain⟨s50,s51,s52,s53,s54,p50,p51,p52,pf5,d75⟩:=A5.out.cells;clear hd5 k5);go_returns;rw[hr.out];exact⟨rfl,⟨hc0,_,_,_,_,_,_,_,A5.out.d⟩,A5.out.kb⟩
   subst hc0;have hb2:=@blkS_1 p S nm rs al body HCE.out.symm;have hmS:=HSM.out.mentS HSP.out ok5;have hnl:=HSM.out.n;have hnal:=HSM.out.a;have hncl:=HSM.out.c;have hmc:=fun w5 (hd:Doc w0 bb B nmG dir w5 nv av cv lv aw ks S 0) (hp:AtL w5 (.slice pna p.n.length pnc) p.n)=>mentD_any w0 bb B nmG dir nv av cv lv aw ks nm p (.slice pna p.n.length pnc) (.slice pea p.e.length pec) S 0 w5 hd hp (by have:=HKT.out;omega) (by have:=HKT.out;omega) (by have:=HKT.out;omega)
   have hme:=@mentE_err nm p S;have hmo:=@mentE_ok nm p S;obtain⟨v,hv⟩:∃ v,v=mentS nm p S:=⟨_,rfl⟩;obtain⟨er,her⟩:∃ v,v=mentE nm S 0:=⟨_,rfl⟩;rw[<-hv] at hmS hmo;rw[<-her] at hme hmo;simp only[<-hv,<- her] at hmc;have hcg:=fun w6 nv av cv lv aw ks (hd:Doc w0 bb B nmG dir w6 nv av cv lv aw ks v.2 er)=>changeD_any w0 bb B nmG dir nv av cv lv aw ks v.1 a ac al v.2 er w6 hd (two_atr (TwoAt.below HA.out (hd.X.mono HNN.out))) ok3 (by have:=hmS.1.n;have:=hmS.1.a;have:=HKT.out;omega) (fun l hl=>by have:=(hmS.1.at' l hl).1;have:=HKT.out;omega)
   rw[<-HAN.out] at hcg
   have hfin:(er=0->R=blkL p { v.2 with A:=chgA v.2.A v.1 al } (L.drop (i+1))/\Sml (1048576 * (k+cntL (L.take (i+1)))) (k+cntL (L.take (i+1))) { v.2 with A:=chgA v.2.A v.1 al }/\SmP (k+cntL (L.take (i+1))) p)/\(er ≠ 0->R=.error er):=by
    refine⟨fun e0=>?_,fun e0=>by rw[HRR.out,hb2,hme e0]⟩;rw[hmo e0] at hb2;have hb3:blkS p S (.mk 1 nm rs al body)=.ok (p,{ v.2 with A:=chgA v.2.A v.1 al }):=hb2;refine⟨by rw[HRR.out,hb3],?_⟩;rw[HKS.out];exact HSTM.out _ _ hb3
   have HMC:=hid hmc;have HCG:=hid hcg;have HFN:=hid hfin;clear hmc hcg hfin hme hmo hv her hmS hb2 hnl hnal hncl
   go_wp2_with (first
    | (go_at_call 86;refine Calls.mono (by with_reducible exact HCK.out _ ((Ext.refl _).alloc _)) ?_;rintro e w5 ⟨rfl,hd5,k5⟩;have A5:=hid (AftD.of hC.out hd5 (k:=k5));obtain⟨s50,s51,s52,s53,s54,p50,p51,p52,pf5,d75⟩:=A5.out.cells;clear hd5 k5)
    | (go_at_call 88;refine Calls.mono (by with_reducible exact HMC.out _ A5.out.d A5.out.pn) ?_;rintro e w6 ⟨rfl,⟨nv6,av6,cv6,lv6,aw6,ks6,hd6⟩,k6⟩;have A6:=hid (A5.out.next hd6 k6);obtain⟨s60,s61,s62,s63,s64,p60,p61,p62,pf6,d76⟩:=A6.out.cells;clear hd6 k6)
    | (go_at_call 89;refine Calls.mono (by with_reducible exact HCG.out _ _ _ _ _ _ _ A6.out.d) ?_;rintro e w7 ⟨rfl,⟨av7,aw7,hd7⟩,k7⟩;have A7:=hid (A6.out.next hd7 k7);clear hd7 k7))
   go_roundw
   case rel=>exact⟨i+1,p,_,_,_,er,by omega,by go_num,hid ⟨HFN.out,⟨_,_,_,_,_,_,A7.out.d⟩,A7.out.pl,A7.out.pn,A7.out.pe,A7.out.kb⟩⟩
   case measure=>simp[RowKit.intOf];omega
  ·have hkd:c=chkGo 2 none al:=by rw[HCD.out];rfl
   have hck:=fun(w4:World) (x:Ext wr w4)=>checked_any w0 bb B nmG dir 2 a ac al nv av cv lv aw ks S 0 w4 (HD.out.ext x) (fun w' x0 _=>two_atr (TwoAt.below HA.out (x0.mono HNN.out))) OK4.out (by omega)
   rw[if_neg (show ¬ ((0:Int) ≠ 0) by decide),<- hkd,<- HAN.out] at hck;have HCK:=hid hck;clear hck hkd hk4 hfd;by_cases hc0:c=0
   case neg =>
    have hr:Hid (R=.error c):=hid (by rw[HRR.out,blkS_bad (by rw[<-HCE.out];exact hc0),<- HCE.out]);obtain⟨g1,g2⟩:=nfacts hc0;go_wp2_with (go_at_call 86;refine Calls.mono (by with_reducible exact HCK.out _ ((Ext.refl _).alloc _)) ?_;rintro e w5 ⟨rfl,hd5,k5⟩;have A5:=hid (AftD.of hC.out hd5 (k:=k5));obtain⟨s50,s51,s52,s53,s54,p50,p51,p52,pf5,d75⟩:=A5.out.cells;clear hd5 k5);go_returns;rw[hr.out];exact⟨rfl,⟨hc0,_,_,_,_,_,_,_,A5.out.d⟩,A5.out.kb⟩
   subst hc0;obtain⟨CT,hCT⟩:∃ t,t=chainT (mrgT (p.e++al)) p rs none S:=⟨_,rfl⟩;have hch:=fun w5 (hd:Doc w0 bb B nmG dir w5 nv av cv lv aw ks S 0) (hp:AtL w5 (.slice pna p.n.length pnc) p.n) (he:AtL w5 (.slice pea p.e.length pec) p.e)=>edgesD_any w0 bb B nn (k+cntL (L.take i)) nmG dir nm rs al p (.slice pna p.n.length pnc) (.slice pea p.e.length pec) S r a b' rs.length body.length rc ac bc w5 ⟨_,_,_,_,_,_,hd⟩ hp he rfl HR.out HA.out HNN.out HSM.out HSP.out (by have:=HKT.out;omega) OK1.out ok2 OK4.out ok3
   have hb2:=@blkS_2 p S nm rs al body HCE.out.symm;rw[<-hCT] at hch hb2;simp only[<-HRN.out,<- HAN.out,<- HBN.out] at hch;have HCH:=hid hch
   have hfin:∀ w6,DocS w0 bb B nmG dir w6 CT->∃ S6 E6,DocE w0 bb B nmG dir w6 S6 E6/\(E6=0->R=blkL p S6 (L.drop (i+1))/\Sml (1048576 * (k+cntL (L.take (i+1)))) (k+cntL (L.take (i+1))) S6/\SmP (k+cntL (L.take (i+1))) p)/\(E6 ≠ 0->R=.error E6):=by
    intro w6 hd;cases CT with
    | error er =>
     obtain⟨h1,S6,h2⟩:=hd;exact⟨S6,er,h2,fun e=>absurd e h1,fun _=>by rw[HRR.out,hb2]⟩
    | ok S6 =>
     refine⟨S6,0,hd,fun _=>⟨by rw[HRR.out,hb2],?_⟩,fun e=>absurd rfl e⟩;rw[HKS.out];exact HSTM.out _ _ hb2
   have HFN:=hid hfin;clear hch hb2 hfin hCT
   go_wp2_with (first
    | (go_at_call 86;refine Calls.mono (by with_reducible exact HCK.out _ ((Ext.refl _).alloc _)) ?_;rintro e w5 ⟨rfl,hd5,k5⟩;have A5:=hid (AftD.of hC.out hd5 (k:=k5));obtain⟨s50,s51,s52,s53,s54,p50,p51,p52,pf5,d75⟩:=A5.out.cells;clear hd5 k5)
    | (go_at_call 90;refine Calls.mono (by with_reducible exact HCH.out _ A5.out.d A5.out.pn A5.out.pe) ?_;rintro e w6 ⟨rfl,hds,k6⟩;obtain⟨S6,E6,hd6,hf6⟩:=HFN.out _ hds;obtain⟨nv6,av6,cv6,lv6,aw6,ks6,hd6⟩:=hd6;have A6:=hid (A5.out.next hd6 k6);have HF6:=hid hf6;clear hd6 k6 hds hf6))
   go_roundw
   case rel=>exact⟨i+1,p,_,_,S6,E6,by omega,by go_num,hid ⟨HF6.out,⟨_,_,_,_,_,_,A6.out.d⟩,A6.out.pl,A6.out.pn,A6.out.pe,A6.out.kb⟩⟩
   case measure=>simp[RowKit.intOf];omega
  ·have n1:=litEq nm [110,111,100,101];have n2:=litEq nm [101,100,103,101];by_cases hw:nm.data.toList=[101,100,103,101]
   ·have hnw:¬ nm.data.toList=nodeW:=by rw[hw];decide
    rw[decide_eq_true hw] at n2;rw[decide_eq_false (show ¬ nm.data.toList=[110,111,100,101] from hnw)] at n1;have hkd:c=chkGo 2 none al:=by rw[HCD.out];exact docK3_2 nm rs al body hw
    have hck:=fun(w4:World) (x:Ext wr w4)=>checked_any w0 bb B nmG dir 2 a ac al nv av cv lv aw ks S 0 w4 (HD.out.ext x) (fun w' x0 _=>two_atr (TwoAt.below HA.out (x0.mono HNN.out))) OK4.out (by omega)
    rw[if_neg (show ¬ ((0:Int) ≠ 0) by decide),<- hkd,<- HAN.out] at hck;have HCK:=hid hck;clear hck hkd hk4 hfd;by_cases hc0:c=0
    case neg =>
     have hr:Hid (R=.error c):=hid (by rw[HRR.out,blkS_bad (by rw[<-HCE.out];exact hc0),<- HCE.out]);obtain⟨g1,g2⟩:=nfacts hc0;go_wp2_with (go_at_call 86;refine Calls.mono (by with_reducible exact HCK.out _ ((Ext.refl _).alloc _)) ?_;rintro e w5 ⟨rfl,hd5,k5⟩;have A5:=hid (AftD.of hC.out hd5 (k:=k5));obtain⟨s50,s51,s52,s53,s54,p50,p51,p52,pf5,d75⟩:=A5.out.cells;clear hd5 k5);go_returns;rw[hr.out];exact⟨rfl,⟨hc0,_,_,_,_,_,_,_,A5.out.d⟩,A5.out.kb⟩
    subst hc0;have hb3:=@blkS_3 p S nm rs al body HCE.out.symm;rw[if_neg hnw] at hb3;obtain⟨own,ho⟩:∃ o,o=mrgT (p.e++al):=⟨_,rfl⟩;have hmg:=fun(w7:World) (hq:AtL w7 (.slice pea p.e.length pec) p.e) (x:Ext w0 w7)=>mrgR_any pea a p.e al pec ac w7 (by obtain⟨q1,qc,e1,h1,-⟩:=hq;injection e1 with e1 _ _;subst e1;exact h1) (two_atr (TwoAt.below HA.out (x.mono HNN.out))) (by have:=HSP.out.2.2.2.1;have:=HKT.out;omega) (by omega)
    rw[<-ho,<- HAN.out] at hmg;have hb4:blkS p S (.mk 3 nm rs al body)=.ok ({ p with e:=own },S):=by rw[hb3,ho]
    have hr:Hid (R=blkL { p with e:=own } S (L.drop (i+1))):=hid (by rw[HRR.out,hb4]);have hs2:Hid (Sml (1048576 * (k+cntL (L.take (i+1)))) (k+cntL (L.take (i+1))) S/\SmP (k+cntL (L.take (i+1))) { p with e:=own }):=hid (by rw[HKS.out];exact HSTM.out _ _ hb4);have HMG:=hid hmg;clear hmg hb3 hb4 ho
    go_wp2_with (first
     | (go_at_call 86;refine Calls.mono (by with_reducible exact HCK.out _ ((Ext.refl _).alloc _)) ?_;rintro e w5 ⟨rfl,hd5,k5⟩;have A5:=hid (AftD.of hC.out hd5 (k:=k5));obtain⟨s50,s51,s52,s53,s54,p50,p51,p52,pf5,d75⟩:=A5.out.cells;clear hd5 k5)
     | (go_at_call 91;refine Calls.mono (by with_reducible exact HMG.out _ A5.out.pe A5.out.d.X) ?_;rintro e w6 ⟨⟨oa,oc,rfl,hoi,hoz⟩,x6⟩;have HO6:=hid (show AtL w6 (.slice oa own.length oc) own from⟨oa,oc,rfl,hoi,hoz⟩);have X6:=hid x6;have HP6:=hid (At.heap_ext A5.out.pl x6);have pf6:∀ j,w6.frozen? ⟨gp,j,none⟩=false:=(fun j=>Lib.frozen_of_heap HP6.out j);have q1:w6.cell? ⟨gp,2,none⟩=some (.slice pea p.e.length pec):=(by rw[Lib.cell_of_heap HP6.out];rfl);clear hoi hoz x6))
    have hgp:=HGP.out;have hg0:=HX0.out.size
    go_roundw
    case rel=>exact⟨i+1,{ p with e:=own },_,_,S,0,by omega,by go_num,hid ⟨⟨fun _=>⟨hr.out,hs2.out⟩,fun e=>absurd rfl e⟩,⟨_,_,_,_,_,_,(A5.out.d.ext X6.out).other HP6.out (by omega) (by decide) (by decide) (by decide) (by decide) (by decide) (by decide)⟩,by rw[blk_set HP6.out];rfl,(A5.out.pn.ext X6.out).otherD HP6.out (by decide),HO6.out.otherD HP6.out (by decide),(A5.out.kb.ext X6.out).set (by omega)⟩⟩
    case measure=>simp[RowKit.intOf];omega
   have hnw:nm.data.toList=nodeW:=by
    have h3:=hfd rfl;rcases h3 with h3 | h3
    ·exact h3
    exact absurd h3 hw
   rw[decide_eq_false hw] at n2;rw[decide_eq_true (show nm.data.toList=[110,111,100,101] from hnw)] at n1;have hkd:c=chkGo 1 none al:=by rw[HCD.out];exact docK3_1 nm rs al body hw
   have hck:=fun(w4:World) (x:Ext wr w4)=>checked_any w0 bb B nmG dir 1 a ac al nv av cv lv aw ks S 0 w4 (HD.out.ext x) (fun w' x0 _=>two_atr (TwoAt.below HA.out (x0.mono HNN.out))) OK4.out (by omega)
   rw[if_neg (show ¬ ((0:Int) ≠ 0) by decide),<- hkd,<- HAN.out] at hck;have HCK:=hid hck;clear hck hkd hk4 hfd;by_cases hc0:c=0
   case neg =>
    have hr:Hid (R=.error c):=hid (by rw[HRR.out,blkS_bad (by rw[<-HCE.out];exact hc0),<- HCE.out]);obtain⟨g1,g2⟩:=nfacts hc0;go_wp2_with (go_at_call 86;refine Calls.mono (by with_reducible exact HCK.out _ ((Ext.refl _).alloc _)) ?_;rintro e w5 ⟨rfl,hd5,k5⟩;have A5:=hid (AftD.of hC.out hd5 (k:=k5));obtain⟨s50,s51,s52,s53,s54,p50,p51,p52,pf5,d75⟩:=A5.out.cells;clear hd5 k5);go_returns;rw[hr.out];exact⟨rfl,⟨hc0,_,_,_,_,_,_,_,A5.out.d⟩,A5.out.kb⟩
   subst hc0;have hb3:=@blkS_3 p S nm rs al body HCE.out.symm;rw[if_pos hnw] at hb3;obtain⟨own,ho⟩:∃ o,o=mrgT (p.n++al):=⟨_,rfl⟩;have hmg:=fun(w7:World) (hq:AtL w7 (.slice pna p.n.length pnc) p.n) (x:Ext w0 w7)=>mrgR_any pna a p.n al pnc ac w7 (by obtain⟨q1,qc,e1,h1,-⟩:=hq;injection e1 with e1 _ _;subst e1;exact h1) (two_atr (TwoAt.below HA.out (x.mono HNN.out))) (by have:=HSP.out.2.2.1.1;have:=HKT.out;omega) (by omega)
   rw[<-ho,<- HAN.out] at hmg;have hb4:blkS p S (.mk 3 nm rs al body)=.ok ({ p with n:=own },S):=by rw[hb3,ho]
   have hr:Hid (R=blkL { p with n:=own } S (L.drop (i+1))):=hid (by rw[HRR.out,hb4]);have hs2:Hid (Sml (1048576 * (k+cntL (L.take (i+1)))) (k+cntL (L.take (i+1))) S/\SmP (k+cntL (L.take (i+1))) { p with n:=own }):=hid (by rw[HKS.out];exact HSTM.out _ _ hb4);have HMG:=hid hmg;clear hmg hb3 hb4 ho
   go_wp2_with (first
    | (go_at_call 86;refine Calls.mono (by with_reducible exact HCK.out _ ((Ext.refl _).alloc _)) ?_;rintro e w5 ⟨rfl,hd5,k5⟩;have A5:=hid (AftD.of hC.out hd5 (k:=k5));obtain⟨s50,s51,s52,s53,s54,p50,p51,p52,pf5,d75⟩:=A5.out.cells;clear hd5 k5)
    | (go_at_call 91;refine Calls.mono (by with_reducible exact HMG.out _ A5.out.pn A5.out.d.X) ?_;rintro e w6 ⟨⟨oa,oc,rfl,hoi,hoz⟩,x6⟩;have HO6:=hid (show AtL w6 (.slice oa own.length oc) own from⟨oa,oc,rfl,hoi,hoz⟩);have X6:=hid x6;have HP6:=hid (At.heap_ext A5.out.pl x6);have pf6:∀ j,w6.frozen? ⟨gp,j,none⟩=false:=(fun j=>Lib.frozen_of_heap HP6.out j);have q1:w6.cell? ⟨gp,1,none⟩=some (.slice pna p.n.length pnc):=(by rw[Lib.cell_of_heap HP6.out];rfl);clear hoi hoz x6))
   have hgp:=HGP.out;have hg0:=HX0.out.size
   go_roundw
   case rel=>exact⟨i+1,{ p with n:=own },_,_,S,0,by omega,by go_num,hid ⟨⟨fun _=>⟨hr.out,hs2.out⟩,fun e=>absurd rfl e⟩,⟨_,_,_,_,_,_,(A5.out.d.ext X6.out).other HP6.out (by omega) (by decide) (by decide) (by decide) (by decide) (by decide) (by decide)⟩,by rw[blk_set HP6.out];rfl,HO6.out.otherD HP6.out (by decide),(A5.out.pe.ext X6.out).otherD HP6.out (by decide),(A5.out.kb.ext X6.out).set (by omega)⟩⟩
   case measure=>simp[RowKit.intOf];omega
  ·obtain⟨q,hq,-⟩:=hk4 rfl;subst hq;have hkd:c=chkGo 4 none [(nm,q.2)]:=by rw[HCD.out];rfl
   have hck:=fun(w4:World) (x:Ext wr w4)=>checked_any w0 bb B nmG dir 4 (some ⟨w4.heap.size,0,none⟩) 1 [(nm,q.2)] nv av cv lv aw ks S 0 (w4.alloc (.cells #[.string nm,.string q.2] 69)) ((HD.out.ext x).ext ((Ext.refl _).alloc _)) (fun w' _ kk=>by obtain⟨p1,c1,e1,h1,-⟩:=kk.atL (one_at w4 nm q.2);injection e1 with e1 _ _;subst e1;exact h1) (fun y hy=>by rw[List.mem_singleton.1 hy];exact⟨ok5,(OK4.out q (by simp)).2⟩) (by simp)
   rw[if_neg (show ¬ ((0:Int) ≠ 0) by decide),<- hkd] at hck;simp only[List.length_cons,List.length_nil,Nat.zero_add] at hck;have hky:=fun(w4:World) (x:Ext wr w4)=>keyed_any 4 nm q r a b' RN BN rc ac bc w4 (HAT.out.ext x)
   obtain rfl:AN=1:=by rw[HAN.out];rfl
   have HCK:=hid hck;have HKY:=hid hky;clear hck hky HAN hkd hk4 hfd;by_cases hc0:c=0
   case neg =>
    have hr:Hid (R=.error c):=hid (by rw[HRR.out,blkS_bad (by rw[<-HCE.out];exact hc0),<- HCE.out]);obtain⟨g1,g2⟩:=nfacts hc0
    go_wp2_with (first
     | (go_at_call 87;refine Calls.mono (by with_reducible exact HKY.out _ ((Ext.refl _).alloc _)) ?_;rintro e w4 ⟨rfl,x4⟩;have X4':=hid x4;have X4:=hid (((Ext.refl wr).alloc _).trans x4);clear x4)
     | (go_at_call 86;refine Calls.mono (by with_reducible exact HCK.out _ X4.out) ?_;rintro e w5 ⟨rfl,hd5,k5⟩;have A5:=hid (AftD.of hC.out hd5 (k:=(KeepD.of ((X4'.out.alloc (.cells #[.string nm,.string q.2] 69)))).trans k5));obtain⟨s50,s51,s52,s53,s54,p50,p51,p52,pf5,d75⟩:=A5.out.cells;clear hd5 k5))
    go_returns;rw[hr.out];exact⟨rfl,⟨hc0,_,_,_,_,_,_,_,A5.out.d⟩,A5.out.kb⟩
   subst hc0;have hb4:=@blkS_4 p S nm rs [q] body HCE.out.symm;have hr:Hid (R=blkL p S (L.drop (i+1))):=hid (by rw[HRR.out,hb4]);have hs2:Hid (Sml (1048576 * (k+cntL (L.take (i+1)))) (k+cntL (L.take (i+1))) S/\SmP (k+cntL (L.take (i+1))) p):=hid (by rw[HKS.out];exact HSTM.out _ _ hb4);clear hb4
   go_wp2_with (first
    | (go_at_call 87;refine Calls.mono (by with_reducible exact HKY.out _ ((Ext.refl _).alloc _)) ?_;rintro e w4 ⟨rfl,x4⟩;have X4':=hid x4;have X4:=hid (((Ext.refl wr).alloc _).trans x4);clear x4)
    | (go_at_call 86;refine Calls.mono (by with_reducible exact HCK.out _ X4.out) ?_;rintro e w5 ⟨rfl,hd5,k5⟩;have A5:=hid (AftD.of hC.out hd5 (k:=(KeepD.of ((X4'.out.alloc (.cells #[.string nm,.string q.2] 69)))).trans k5));obtain⟨s50,s51,s52,s53,s54,p50,p51,p52,pf5,d75⟩:=A5.out.cells;clear hd5 k5))
   go_roundw
   case rel=>exact⟨i+1,p,_,_,S,0,by omega,by go_num,hid ⟨⟨fun _=>⟨hr.out,hs2.out⟩,fun e=>absurd rfl e⟩,⟨_,_,_,_,_,_,A5.out.d⟩,A5.out.pl,A5.out.pn,A5.out.pe,A5.out.kb⟩⟩
   case measure=>simp[RowKit.intOf];omega
  have hkd:c=chkGo 1 none al:=by rw[HCD.out];rfl
  have hck:=fun(w4:World) (x:Ext wr w4)=>checked_any w0 bb B nmG dir 1 a ac al nv av cv lv aw ks S 0 w4 (HD.out.ext x) (fun w' x0 _=>two_atr (TwoAt.below HA.out (x0.mono HNN.out))) OK4.out (by omega)
  rw[if_neg (show ¬ ((0:Int) ≠ 0) by decide),<- hkd,<- HAN.out] at hck;have HCK:=hid hck;clear hck hkd hk4 hfd;by_cases hc0:c=0
  case neg =>
   have hr:Hid (R=.error c):=hid (by rw[HRR.out,blkS_bad (by rw[<-HCE.out];exact hc0),<- HCE.out]);obtain⟨g1,g2⟩:=nfacts hc0;go_wp2_with (go_at_call 86;refine Calls.mono (by with_reducible exact HCK.out _ ((Ext.refl _).alloc _)) ?_;rintro e w5 ⟨rfl,hd5,k5⟩;have A5:=hid (AftD.of hC.out hd5 (k:=k5));obtain⟨s50,s51,s52,s53,s54,p50,p51,p52,pf5,d75⟩:=A5.out.cells;clear hd5 k5);go_returns;rw[hr.out];exact⟨rfl,⟨hc0,_,_,_,_,_,_,_,A5.out.d⟩,A5.out.kb⟩
  subst hc0;obtain⟨CT,hCT⟩:∃ t,t=clusT p S nm body:=⟨_,rfl⟩;have hch:=fun w5 (hd:Doc w0 bb B nmG dir w5 nv av cv lv aw ks S 0) (hp:AtL w5 (.slice pna p.n.length pnc) p.n) (he:AtL w5 (.slice pea p.e.length pec) p.e)=>clustD_of w0 bb B nn (M - 1) (k+cntL (L.take i)) nmG dir (HIH.out (M - 1) (by have:=HBM.out;omega)) nm body p (.slice pna p.n.length pnc) (.slice pea p.e.length pec) S r a b' rs.length al.length rc ac bc w5 ⟨_,_,_,_,_,_,hd⟩ hp he HBS.out HL5.out (by have:=HBM.out;omega) OKB.out HSM.out HSP.out (by have:=HKT.out;omega) ok5
  have hb2:=@blkS_5 p S nm rs al body HCE.out.symm;rw[<-hCT] at hch hb2;simp only[<-HRN.out,<- HAN.out,<- HBN.out] at hch;have HCH:=hid hch
  have hfin:∀ w6,DocS w0 bb B nmG dir w6 CT->∃ S6 E6,DocE w0 bb B nmG dir w6 S6 E6/\(E6=0->R=blkL p S6 (L.drop (i+1))/\Sml (1048576 * (k+cntL (L.take (i+1)))) (k+cntL (L.take (i+1))) S6/\SmP (k+cntL (L.take (i+1))) p)/\(E6 ≠ 0->R=.error E6):=by
   intro w6 hd;cases CT with
   | error er =>
    obtain⟨h1,S6,h2⟩:=hd;exact⟨S6,er,h2,fun e=>absurd e h1,fun _=>by rw[HRR.out,hb2]⟩
   | ok S6 =>
    refine⟨S6,0,hd,fun _=>⟨by rw[HRR.out,hb2],?_⟩,fun e=>absurd rfl e⟩;rw[HKS.out];exact HSTM.out _ _ hb2
  have HFN:=hid hfin;clear hch hb2 hfin hCT
  go_wp2_with (first
   | (go_at_call 86;refine Calls.mono (by with_reducible exact HCK.out _ ((Ext.refl _).alloc _)) ?_;rintro e w5 ⟨rfl,hd5,k5⟩;have A5:=hid (AftD.of hC.out hd5 (k:=k5));obtain⟨s50,s51,s52,s53,s54,p50,p51,p52,pf5,d75⟩:=A5.out.cells;clear hd5 k5)
   | (go_at_call 92;refine Calls.mono (by with_reducible exact HCH.out _ A5.out.d A5.out.pn A5.out.pe) ?_;rintro e w6 ⟨rfl,hds,k6⟩;obtain⟨S6,E6,hd6,hf6⟩:=HFN.out _ hds;obtain⟨nv6,av6,cv6,lv6,aw6,ks6,hd6⟩:=hd6;have A6:=hid (A5.out.next hd6 k6);have HF6:=hid hf6;clear hd6 k6 hds hf6))
  go_roundw
  case rel=>exact⟨i+1,p,_,_,S6,E6,by omega,by go_num,hid ⟨HF6.out,⟨_,_,_,_,_,_,A6.out.d⟩,A6.out.pl,A6.out.pn,A6.out.pe,A6.out.kb⟩⟩
  case measure=>simp[RowKit.intOf];omega
 have hr:Hid (R=.ok S):=hid (by rw[hrr,List.drop_eq_nil_of_le (by rw[<-HN.out];omega)];rw[blkL]);clear hrr hsm hsp;have b1:¬ (i:Int) < (N:Int):=by omega
 go_wp2;go_returns;rw[hr.out];exact⟨rfl,hC.out.d,hC.out.kb⟩
theorem blkD_any (w0:World)(bb B:Nat)(nmG:ByteArray)(dir:Bool)(nn:Nat)(hnn:nn<=w0.heap.size):∀ M,BlkD w0 bb B nmG dir nn M:=fun M=>by
 induction M using Nat.strongRecOn with
 | _ M ih=>exact blkD_step w0 bb B nmG dir nn M hnn ih
end Go.Proofs.YtjaeedbjknejdaaGreatDoor.Nm
