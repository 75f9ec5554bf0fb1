/- Packed texts: NorMentR -/
import Derived.Test.YtjaeedbjknejdaaGreatDoorPd41
set_option linter.unusedVariables false
set_option linter.unusedSimpArgs false
set_option maxHeartbeats 16000000
set_option maxRecDepth 100000
namespace Go.Proofs.YtjaeedbjknejdaaGreatDoor.Nm
open Go.RowKit Go.Sort Go.Lib Go.Shelf Fx Lx Tr At
theorem mentD_any (w0:World)(bb B:Nat)(nm:ByteArray)(dir:Bool)(nv av cv lv:Value)(aw:List Value)(ks:List (Lk × Value))(n:ByteArray)(p:Pl)(pn pe:Value)(S:St)(E:Int)(w:World)(h:Doc w0 bb B nm dir w nv av cv lv aw ks S E)(hpn:AtL w pn p.n)(hN:S.N.length<=1000000000)(hA:S.A.length<=1000000000)(hC:S.C.length<=1000000000):
    Calls Tryz.prog 88 #[.pointer (some ⟨bb,0,none⟩),.string n,.agg #[.int .i64 p.c,pn,pe]] w fun e w'=>e=.returned (.int .i64 (mentS n p S).1)/\(∃ nv av cv lv aw ks,Doc w0 bb B nm dir w' nv av cv lv aw ks (mentS n p S).2 (mentE n S E))/\KeepD w w':=by
  obtain⟨tk,htk⟩:∃ t,t=S.taken n:=⟨_,rfl⟩;obtain⟨ix,hix⟩:∃ i,i=S.idx n:=⟨_,rfl⟩;obtain⟨E1,hE1⟩:∃ e,e=mentE n S E:=⟨_,rfl⟩;obtain⟨R,hR⟩:∃ r,r=mentS n p S:=⟨_,rfl⟩;have hcl:=fun(w5:World) (x:Ext w w5)=>clusD_any n w5 (h.ext x) (by omega)
  rw[<-htk] at hcl;rw[<-hE1,<- hR];unfold mentE at hE1;unfold mentS at hR;rw[<-htk] at hE1;rw[<-hix] at hR;have HCL:=hid hcl;have HE1:=hid hE1;have HR:=hid hR;have HD:=hid h;have HPN:=hid hpn;have HIX:=hid hix;have e7:=fun ob=>((h.ext ((Ext.refl w).alloc ob)).cells.2.2.2.2.2.2)
  have ef:=fun ob=>((h.ext ((Ext.refl w).alloc ob)).fz 7)
  clear hcl hE1 hR h hpn hix htk;go_enter Tryz.func88,Tryz.ntmps88
  have h3:E ≠ 0\/(E=0/\tk=true)\/(E=0/\tk=false):=by
    by_cases h:E=0
    · cases tk
      · exact .inr (.inr ⟨h,rfl⟩)
      exact .inr (.inl ⟨h,rfl⟩)
    exact .inl h
  have hbx:=heap_alloc_new w (.cells #[.int .i64 p.c,pn,pe] 98);rcases h3 with hE | ⟨rfl,rfl⟩ | ⟨rfl,rfl⟩
  all_goals first
    | (have hE' := hE
       obtain ⟨f1, f2⟩ := nfacts hE; have hr1 : E1 = E := by rw [HE1.out, if_neg (fun h => hE h.1)]
       go_upto_region 3 with (fail)
       have HM := hid (HD.out.ext ((Ext.refl _).alloc (.cells #[.int .i64 p.c, pn, pe] 98))); have HK := hid (KeepD.refl (w.alloc (.cells #[.int .i64 p.c, pn, pe] 98))); obtain ⟨wm, hwm⟩ : ∃ wm, wm = w.alloc (.cells #[.int .i64 p.c, pn, pe] 98) := ⟨_, rfl⟩; have HKM : Hid (KeepD (w.alloc (.cells #[.int .i64 p.c, pn, pe] 98)) wm) := hid (by rw [hwm]; exact HK.out); clear HK; rw [<- hwm] at HM ⊢; rw [<- hr1] at HM
       clear hwm e7 ef f1 f2 hE hE')
    | (obtain ⟨f1, f2⟩ := efacts 0
       have hr1 : E1 = 6 := by rw [HE1.out]; rfl
       go_upto_region 3 with (go_at_call 151; refine Calls.mono (by with_reducible exact HCL.out _ ((Ext.refl _).alloc _)) ?_; rintro e w2 ⟨rfl, x2⟩; have D2 := hid (HD.out.ext (((Ext.refl _).alloc _).trans x2)); have K2 := hid (KeepD.of x2); have d7 := D2.out.cells.2.2.2.2.2.2; have df := D2.out.fz 7)
       have HM := hid (D2.out.setE 6).1; have HKM := hid (K2.out.trans (D2.out.setE 6).2); clear D2 K2 d7 df x2; obtain ⟨wm, hwm⟩ : ∃ wm, wm = w2.setCell ⟨bb, 7, none⟩ (.int .i64 6) := ⟨_, rfl⟩; rw [<- hwm] at HM HKM ⊢; rw [<- hr1] at HM
       clear hwm e7 ef f1 f2)
    | (obtain ⟨f1, f2⟩ := efacts 0
       have hr1 : E1 = 0 := by rw [HE1.out]; rfl
       go_upto_region 3 with (go_at_call 151; refine Calls.mono (by with_reducible exact HCL.out _ ((Ext.refl _).alloc _)) ?_; rintro e w2 ⟨rfl, x2⟩; have HM := hid (HD.out.ext (((Ext.refl _).alloc _).trans x2)); have HKM := hid (KeepD.of x2))
       obtain ⟨wm, hwm⟩ : ∃ wm, wm = w2 := ⟨_, rfl⟩; rw [<- hwm] at HM HKM ⊢; rw [<- hr1] at HM
       clear hwm e7 ef f1 f2)
  all_goals (
    have hnd:=nodeD_any n wm HM.out (by omega);rw[<-HIX.out] at hnd;have HND:=hid hnd
    clear hnd)
  all_goals cases ix with
    | some v =>
      have hr:Hid (R=(v,S)):=hid HR.out;clear HR;have HND:=HND;dsimp only[oI] at HND;have hv0:(0:Int)<=(v:Int):=by omega
      go_wp2_with (go_at_call 152;refine Calls.mono (by with_reducible exact HND.out) ?_;rintro e w4 ⟨rfl,x4⟩);go_returns;rw[hr.out];exact⟨rfl,⟨_,_,_,_,_,_,HM.out.ext x4⟩,((KeepD.of ((Ext.refl w).alloc _)).trans HKM.out).ext x4⟩
    | none =>
      have hr:Hid (R=(S.N.length,{ S with N:=S.N++[(n,p.c)],A:=S.A++[p.n] })):=hid HR.out;clear HR;have HND:=HND;dsimp only[oI] at HND;obtain⟨na,nc,rfl,-,-⟩:=row_val HM.out.N;obtain⟨aa,ac,rfl,-,-⟩:=row_val HM.out.A;obtain⟨pa,pc,rfl,hpi,hpz⟩:=HPN.out;obtain⟨i0,hi,hz0,hz1,hz2⟩:=info_parts info_node;obtain⟨j0,hj,hjz0,hjz1,hjz2⟩:=info_parts info_atl;have HBM:=hid (HKM.out.blk _ _ _ _ hbx (by decide) (by decide) (by decide) (by decide) (by decide));clear hpi hpz hbx hr1
      go_wp2_with (go_at_call 152;refine Calls.mono (by with_reducible exact HND.out) ?_;rintro e w4 ⟨rfl,x4⟩;have HM4:=hid (HM.out.ext x4);have HB4:=hid (At.heap_ext HBM.out x4);have HK4:=hid (HKM.out.ext x4);have d2:=HM4.out.cells.2.2.1;have d2a:=(fun ob=>(HM4.out.ext ((Ext.refl w4).alloc ob)).cells.2.2.1);have e0:w4.cell? ⟨w.heap.size,0,none⟩=some (.int .i64 p.c):=(by rw[Lib.cell_of_heap HB4.out];rfl);have e0a:=(fun ob=>((Ext.refl w4).alloc ob).cell e0))
      go_region_law (first
        | (refine step_append_lies _ (by rfl) _ _ 22 (by rfl) B 59 i0 _ 6 80 Tryz.underlying22 hi hz0 hz1 hz2 rfl (by decide) _ _ _ (by rfl) (At.own_ext HM4.out.N (((Ext.refl w4).alloc _).drew)) ⟨w4.heap.size, 0, none⟩ 1 1 (ndC (n, p.c)) (by rfl) (by rfl) (World.news_of_block (cs := #[.string n, .string ⟨#[]⟩, .int .i64 0, .int .i64 0, .int .i64 p.c, .slice none 0 0]) (t := 59) (fr := (0, 0)) (heap_alloc_new w4 _)) (by intro u hu; simp [ndC] at hu; rcases hu with rfl | rfl | rfl | rfl | rfl | rfl <;> rfl) (by omega) (by unfold maxLen; omega) (by omega) (by have := HM4.out.Z; simp; omega) _ rfl ?_
           intro gg cp w5 hown1 hgrow hat2 hlt2; have HM5 := hid (HM4.out.ext (((Ext.refl w4).alloc (.cells #[.string n, .string ⟨#[]⟩, .int .i64 0, .int .i64 0, .int .i64 p.c, .slice none 0 0] 59)).drew)); have hS5 := cel_keep HM5.out.blk hgrow (row_ty HM5.out.N) (nope (by decide)); have k5 : w5.cell? ⟨bb, 2, none⟩ = some (.slice na S.N.length nc) := by rw [Lib.cell_of_heap hS5]; rfl
           have f5 : w5.frozen? ⟨bb, 2, none⟩ = false := Lib.frozen_of_heap hS5 2; have FIN := hid (HM5.out.appN (n, p.c) rfl hown1 hgrow)
           clear hown1 hgrow hat2 hlt2 hS5))
      all_goals simp only[Exit.then]
      all_goals (rename_i hk;refine hk _ _ ?_)
      all_goals (
        obtain⟨wf,hwf⟩:∃ wf,wf=w5.setCell ⟨bb,2,none⟩ (.slice (some ⟨gg,0,none⟩) (S.N.length+1) cp):=⟨_,rfl⟩;have FD:=hid FIN.out.1;have FK:=hid ((HK4.out.ext (((Ext.refl w4).alloc (.cells #[.string n,.string ⟨#[]⟩,.int .i64 0,.int .i64 0,.int .i64 p.c,.slice none 0 0] 59)).drew)).trans FIN.out.2);rw[<-hwf] at FD FK ⊢;clear hwf FIN k5 f5 HM5
        first
          | (obtain ⟨wc, hwc⟩ : ∃ wc, wc = wf.drew := ⟨_, rfl⟩
             rw [<- hwc]; have HDC : Hid (Doc w0 bb B nm dir wc (.slice (some ⟨gg, 0, none⟩) (S.N.length + 1) cp) (.slice aa S.A.length ac) cv lv aw ks { S with N := S.N ++ [(n, p.c)] } E1) := hid (by rw [hwc]; exact FD.out.ext (Ext.refl _).drew); have HKA : Hid (KeepD (w.alloc (.cells #[.int .i64 p.c, .slice pa p.n.length pc, pe] 98)) wc) := hid (by rw [hwc]; exact FK.out.ext (Ext.refl _).drew)
             clear hwc FD FK)
          | (have HDC : Hid (Doc w0 bb B nm dir wf (.slice (some ⟨gg, 0, none⟩) (S.N.length + 1) cp) (.slice aa S.A.length ac) cv lv aw ks { S with N := S.N ++ [(n, p.c)] } E1) := FD
             have HKA : Hid (KeepD (w.alloc (.cells #[.int .i64 p.c, .slice pa p.n.length pc, pe] 98)) wf) := FK; clear FD FK; obtain ⟨wc, hwc⟩ : ∃ wc, wc = wf := ⟨_, rfl⟩
             subst hwc))
      all_goals (
        have x5:=HKA.out.blk _ _ _ _ (heap_alloc_new w (.cells #[.int .i64 p.c,.slice pa p.n.length pc,pe] 98)) (by decide) (by decide) (by decide) (by decide) (by decide);have e5:wc.cell? ⟨w.heap.size,1,none⟩=some (.slice pa p.n.length pc):=by rw[Lib.cell_of_heap x5];rfl
        have d5:=HDC.out.cells.2.2.2.2.1;have d5a:=fun ob=>(HDC.out.ext ((Ext.refl wc).alloc ob)).cells.2.2.2.2.1
        have e5a:∀ ob,(wc.alloc ob).cell? ⟨w.heap.size,1,none⟩=some (.slice pa p.n.length pc):=fun ob=>((Ext.refl wc).alloc ob).cell e5
        have HPV:=hid (HKA.out.atL (HPN.out.ext ((Ext.refl w).alloc (.cells #[.int .i64 p.c,.slice pa p.n.length pc,pe] 98))));have HKW:=hid ((KeepD.of ((Ext.refl w).alloc (.cells #[.int .i64 p.c,.slice pa p.n.length pc,pe] 98))).trans HKA.out);clear x5 d2 d2a e0 e0a HM4 HB4 HK4 x4 HND HCL HBM HKM HM HD HE1 HIX;go_wp2_with fail
        go_region_law (first
          | (refine step_append_lies _ (by rfl) _ _ 92 (by rfl) B 65 j0 _ 1 24 Tryz.underlying92 hj hjz0 hjz1 hjz2 rfl (by decide) _ _ _ (by rfl) (At.own_ext HDC.out.A (((Ext.refl wc).alloc _).drew)) ⟨wc.heap.size, 0, none⟩ 1 1 [.slice pa p.n.length pc] (by rfl) (by rfl) (World.news_of_block (cs := #[.slice pa p.n.length pc]) (t := 65) (fr := (0, 0)) (heap_alloc_new wc _)) (by simp [Value.oneCell']) (by omega) (by show S.A.length + 1 <= maxLen; unfold maxLen; omega) (by show (S.A.length + 1) * 24 <= _; omega) (by have := HDC.out.Z; simp; omega) _ rfl ?_
             intro g7 c7 w7 hown1 hgrow hat2 hlt2; have HB6 := hid (HDC.out.ext (((Ext.refl wc).alloc (.cells #[.slice pa p.n.length pc] 65)).drew)); have hS7 := cel_keep HB6.out.blk hgrow (row_ty (At.own_ext HDC.out.A (((Ext.refl wc).alloc (.cells #[.slice pa p.n.length pc] 65)).drew))) (nope (by decide)); have e7 : w7.cell? ⟨bb, 5, none⟩ = some (.slice aa S.A.length ac) := by rw [Lib.cell_of_heap hS7]; rfl
             have f7 : w7.frozen? ⟨bb, 5, none⟩ = false := Lib.frozen_of_heap hS7 5; have FIN := hid (HB6.out.appA (L := p.n) (v := .slice pa p.n.length pc) (HPV.out.ext (((Ext.refl wc).alloc _).drew)) rfl hown1 hgrow); have q2 := FIN.out.1.cells.2.2.1; have q3 := (FIN.out.1.ext ((Ext.refl _).drew)).cells.2.2.1
             clear hown1 hgrow hat2 hlt2 hS7)))
      all_goals simp only[Exit.then]
      all_goals (rename_i hk;refine hk _ _ ?_)
      all_goals go_wp2
      all_goals go_returns
      all_goals rw[hr.out]
      all_goals first
        | exact⟨by simp,⟨_,_,_,_,_,_,FIN.out.1⟩,(HKW.out.ext (((Ext.refl wc).alloc _).drew)).trans FIN.out.2⟩
        | exact⟨by simp,⟨_,_,_,_,_,_,FIN.out.1.ext ((Ext.refl _).drew)⟩,((HKW.out.ext (((Ext.refl wc).alloc _).drew)).trans FIN.out.2).ext ((Ext.refl _).drew)⟩
end Go.Proofs.YtjaeedbjknejdaaGreatDoor.Nm
