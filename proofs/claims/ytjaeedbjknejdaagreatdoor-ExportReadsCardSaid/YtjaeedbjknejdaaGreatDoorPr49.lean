/- Packed texts: ParDefE, ParSrc, ParNz -/
import Derived.Test.YtjaeedbjknejdaaGreatDoorPr47
import Derived.Test.YtjaeedbjknejdaaGreatDoorPr48
set_option linter.unusedVariables false
set_option linter.unusedSimpArgs false
set_option maxHeartbeats 16000000
set_option maxRecDepth 100000
namespace Go.Proofs.YtjaeedbjknejdaaGreatDoor.Pa
open Go.RowKit Go.Sort Go.Lib Go.Shelf Fx Lx Tr
theorem stm_edge (pb : Nat) (a : Option Addr) (cap : Nat) (T : List Tok) (ar : ByteArray) (dep : Int) (r : List Tok) (w : World) (h : PSt pb a cap T ar dep r w) (hi : isT 2 kEdge r = true) :
    Calls Tryz.prog 161 #[.pointer (some ⟨pb, 0, none⟩)] w fun e w' =>
      POut pb a cap T ar dep (fun s u w' => StmV (w.heap.size <= ·) s u w') (pDef (lastL T) kEdge r.tail) e w' /\ But pb w w' := by
  obtain ⟨X, hX⟩ : ∃ X, X = pDef (lastL T) kEdge r.tail := ⟨_, rfl⟩
  rw [<- hX]
  have hx0 := (Ext.refl w).alloc (.cells #[.int .i64 0, .string ⟨#[]⟩, .slice none 0 0, .slice none 0 0, .slice none 0 0] 67)
  have hw0 := heap_alloc_new w (.cells #[.int .i64 0, .string ⟨#[]⟩, .slice none 0 0, .slice none 0 0, .slice none 0 0] 67)
  have hpk := peek_st pb a cap T ar dep r _ (h.ext hx0)
  obtain ⟨e1, e2⟩ := isT_true hi
  have hr : r ≠ [] := by rintro rfl; cases hi
  generalize hpt : peekT r = t at *
  obtain ⟨tk, tx, tn, tl⟩ := t
  dsimp only at e1 e2
  subst e1; subst e2
  unfold tokV at hpk
  dsimp only at hpk
  have HS := Lib.hid h; have HLT := Lib.hid h.lt; have HPK := Lib.hid hpk; have HX := Lib.hid hX; have HX0 := Lib.hid hx0; have HW0 := Lib.hid hw0
  clear hpt h hpk hX hx0 hw0 hi
  unfold kEdge at HPK
  go_enter Tryz.func161, Tryz.ntmps161
  go_upto_region 4 with (go_at_call 159; refine HPK.out.mono ?_; rintro e w1 ⟨rfl, x1⟩; have hcl := tok_cells w1 2 ⟨#[101, 100, 103, 101]⟩ tn tl; have x1' := Lib.hid x1; obtain ⟨k, hk, p1, p4, q1, hs, hb⟩ := tok_then (HS.out.ext (HX0.out.trans x1)) hr 2 ⟨#[101, 100, 103, 101]⟩ tn tl; replace hs := Lib.hid hs; replace hb := Lib.hid hb)
  have hX1 := HX.out
  unfold pDef at hX1
  have hlt := HLT.out
  have hlw : w.heap.size + 1 <= w1.heap.size := by have := x1'.out.size; rw [World.size_alloc] at this; omega
  have hne1 : w1.heap.size ≠ pb := by omega
  have hh2 := but_heap hb.out ((x1'.out.block _ (by simp)).trans HW0.out) (by omega)
  have x02 := (But.of (HX0.out.trans x1'.out)).trans hb.out
  have hl2 := hb.out.size
  obtain ⟨W2, hW2⟩ : ∃ W2, W2 = (w1.alloc (.cells #[.int .i64 2, .string ⟨#[101, 100, 103, 101]⟩, .int .i64 tn, .int .i64 tl] 220)).setCell ⟨pb, 1, none⟩ (.int .i64 ((k : Int) + 1)) := ⟨_, rfl⟩
  rw [<- hW2] at q1 hs hb hh2 x02 hl2 ⊢
  have hat := fun w2 (x : Ext W2 w2) => attrs_any pb a cap T ar dep r.tail w2 (hs.out.ext x)
  have q2 : ∀ o, (W2.alloc o).cell? ⟨w1.heap.size, 1, none⟩ = some (.string ⟨#[101, 100, 103, 101]⟩) := fun o => ((Ext.refl W2).alloc o).cell q1
  clear hW2
  have HNE1 := Lib.hid hne1
  have X02 := Lib.hid x02
  have HH2 := Lib.hid hh2
  have HX1 := Lib.hid hX1
  have HAT0 := Lib.hid hat
  have HL2 : Hid (w.heap.size + 1 <= W2.heap.size) := Lib.hid (by omega)
  have HNE2 : Hid (W2.heap.size ≠ pb) := Lib.hid (by omega)
  clear hcl p1 p4 x1 hne1 x02 hh2 hb x1' HX0 HW0 HPK hX1 HX hat hs HS hk hlt hlw hl2
  go_cut [4] (fun s4 wx => DefCut pb a cap T ar dep w kEdge X s4 wx)
  case rest =>
    clear HAT0 HX1 HH2 X02 q1 q2 HNE1 HNE2 HL2
    obtain ⟨c, L, r2, la, lc, rfl, hc1, hk, hs2, x2, htp, hl1, hl2, hh, hX1⟩ := hcut
    have hn1 := mark_l pb a cap T ar dep r2 ⟨#[59]⟩ [59] rfl wc hs2
    have HHK := Lib.hid hk; have HHH := Lib.hid hh; have X2 := Lib.hid x2; have HTP := Lib.hid htp; have HL1 := Lib.hid hl1; have HL2 := Lib.hid hl2; have HC1 := Lib.hid hc1
    clear hk hh x2 htp hl1 hl2 hc1
    rcases hq : pMark (lastL T) [59] r2 with ⟨u, r6⟩ | ⟨ln, er⟩ <;> rw [hq] at hn1 hX1 <;> clear hq hs2
    · rw [PR.bind_ok] at hX1
      have HX := Lib.hid hX1
      clear hX1
      go_wp2_with fail
      refine hn1.mono ?_
      rintro e w6 ⟨⟨_, rfl, rfl, hs6⟩, x6⟩
      clear hn1
      have hlp := HLT.out
      have hc1 := HC1.out
      have k5 := but_heap x6 HHK.out (by omega)
      have k0 := but_heap x6 HHH.out (by omega)
      unfold zero5 at k0
      have X06 := Lib.hid (X2.out.trans x6)
      have HS6 := Lib.hid hs6
      have HTP6 := Lib.hid (HTP.out.keep (ok' := (w.heap.size + 1 <= ·)) (kept_but x6 (by omega)) (fun g hg _ => hg))
      have HZ := Lib.hid (set_five k0 (.int .i64 3) (.string ⟨#[101, 100, 103, 101]⟩) (.slice none 0 0) (.slice la L.length lc) (.slice none 0 0))
      obtain ⟨z0, z1, z2, z3, z4, g0, g1, g2, g3, g4⟩ := five_cells k5
      obtain ⟨y0, y1, y2, y3, y4, f0, f1, f2, f3, f4⟩ := five_cells k0
      unfold kEdge at z1
      replace hlp := Lib.hid hlp
      clear k5 k0 x6 hs6 hc1 X2 HTP HHK HHH HLT
      go_wp2
      refine bodyPost_ret (results_cell_row rfl _ _ w.heap.size 67 #[.int .i64 3, .string ⟨#[101, 100, 103, 101]⟩, .slice none 0 0, .slice la L.length lc, .slice none 0 0] (0, 0) _ rfl HZ.out Tryz.underlying67 rfl size_stm) rfl ?_
      obtain ⟨F1, F2, F3⟩ := fin_five HS6.out X06.out w.heap.size hlp.out (Nat.le_refl _) (.int .i64 3) (.string ⟨#[101, 100, 103, 101]⟩) (.slice none 0 0) (.slice la L.length lc) (.slice none 0 0)
      rw [HX.out]
      refine ⟨⟨_, rfl, ⟨[.int .i64 3, .string ⟨#[101, 100, 103, 101]⟩, .slice none 0 0, .slice la L.length lc, .slice none 0 0], rfl, ?_⟩, F1⟩, F2⟩
      have htp := TwoP.keep (ok' := (w.heap.size <= ·)) HTP6.out (fun g hg _ => F3 g (by have hg : w.heap.size + 1 <= g := hg; omega)) (fun g hg _ => by have hg : w.heap.size + 1 <= g := hg; show w.heap.size <= g; omega)
      rw [StmP]
      exact ⟨none, 0, la, lc, none, 0, rfl, fun k hk => absurd hk (by simp), htp, by rw [StmsP]; trivial, by simp, HL1.out, by simp, HL2.out, by simp⟩
    rw [PR.bind_err] at hX1
    have HX := Lib.hid hX1
    clear hX1
    go_wp2_with fail
    refine hn1.mono ?_
    rintro e w6 ⟨rfl, x6⟩
    clear hn1
    unfold failE
    go_wp2
    exact ⟨rfl, by rw [HX.out]; exact rfl, X2.out.trans x6⟩
  case first =>
  have hX1 := HX1.out
  have hat := HAT0.out
  clear HX1 HAT0
  rcases hq : pAttrsB (lastL T) r.tail with ⟨L, r2⟩ | ⟨ln, er⟩ <;> rw [hq] at hat hX1 <;> clear hq
  · rw [PR.bind_ok] at hX1
    have HX := Lib.hid hX1
    have HAT := Lib.hid hat
    clear hX1 hat
    refine wp_region_any (by kernel_rfl) ?_
    change wpAny _ _ _ _ _ _ _ (World.drew _)
    refine wpAny_take (i := 0) (v := ?_) rfl (by kernel_rfl) (by kernel_rfl) (by kernel_rfl) (fun _ _ _ h => h) (Or.inl ⟨by rfl, ?_⟩) ?_
    rotate_left
    · intro w; go_simp; try with_reducible rfl
    refine wpAny_take (i := 2) (v := ?_) rfl (by kernel_rfl) (by kernel_rfl) (by kernel_rfl) (fun _ _ _ h => h) (Or.inl ⟨by rfl, ?_⟩) ?_
    rotate_left
    · intro w; go_simp; try with_reducible rfl
    refine wpAny_ready (rs := [1, 3, 5]) (by kernel_rfl) (by simp) ?_
    refine AllReady.cons rfl (fun K hK => ?_) ?_
    · go_simp
      refine hK _ _ ?_; clear hK K
      refine wpAny_ready (rs := [3, 5]) (by kernel_rfl) (by simp) ?_
      refine AllReady.cons rfl (fun K hK => ?_) ?_
      · go_simp
        (go_at_call 213; refine (HAT.out _ (Ext.refl _).drew).mono ?_; rintro e w3 ⟨⟨_, rfl, ⟨la, lc, rfl, htp, hlc1, hlc2⟩, hs3⟩, x3⟩; have s2 := x3.cell (p := ⟨w1.heap.size, 1, none⟩) HNE1.out q1; have s3 := fun o => ((Ext.refl w3).alloc o).cell s2; replace htp := Lib.hid htp; replace hs3 := Lib.hid hs3; replace x3 := Lib.hid x3; replace hlc1 := Lib.hid hlc1; replace hlc2 := Lib.hid hlc2)
        try dsimp only
        refine hK _ _ ?_; clear hK K
        refine wpAny_take (i := 4) (v := ?_) rfl (by kernel_rfl) (by kernel_rfl) (by kernel_rfl) (fun _ _ _ h => h) (Or.inl ⟨by rfl, ?_⟩) ?_
        rotate_left
        · intro w; go_simp; try with_reducible rfl
        refine wpAny_ready (rs := [5]) (by kernel_rfl) (by simp) ?_
        refine AllReady.cons rfl (fun K hK => ?_) ?_
        · go_simp
          refine hK _ _ ?_; clear hK K
          refine wpAny_ready (rs := [6]) (by kernel_rfl) (by simp) ?_
          refine AllReady.cons rfl (fun K hK => ?_) ?_
          · go_simp
            refine hK _ _ ?_; clear hK K
            refine wpAny_done (by kernel_rfl) ?_ _
            go_wp2_with fail
            go_meet
            exact defCut_A X02.out HLT.out HL2.out HH2.out x3.out hs3.out htp.out hlc1.out hlc2.out HX.out
          exact AllReady.nil
        exact AllReady.nil
      refine AllReady.cons rfl (fun K hK => ?_) ?_
      · go_simp
        refine hK _ _ ?_; clear hK K
        refine wpAny_ready (rs := [3]) (by kernel_rfl) (by simp) ?_
        refine AllReady.cons rfl (fun K hK => ?_) ?_
        · go_simp
          (go_at_call 213; refine (HAT.out _ (((Ext.refl _).drew).alloc _)).mono ?_; rintro e w3 ⟨⟨_, rfl, ⟨la, lc, rfl, htp, hlc1, hlc2⟩, hs3⟩, x3⟩; have s2 := x3.cell (p := ⟨w1.heap.size, 1, none⟩) HNE1.out (((Ext.refl W2).drew.alloc _).cell q1); have s3 := fun o => ((Ext.refl w3).alloc o).cell s2; have k4 : w3.heap[W2.heap.size]? = some (.cells #[.int .i64 0, .string ⟨#[]⟩, .slice none 0 0, .slice none 0 0, .slice none 0 0] 67 (0, 0)) := but_heap x3 (heap_alloc_new W2.drew _) HNE2.out; obtain ⟨z0, z1, z2, z3, z4, g0, g1, g2, g3, g4⟩ := five_cells k4; clear k4; replace htp := Lib.hid htp; replace hs3 := Lib.hid hs3; replace x3 := Lib.hid x3; replace hlc1 := Lib.hid hlc1; replace hlc2 := Lib.hid hlc2)
          try dsimp only
          refine hK _ _ ?_; clear hK K
          refine wpAny_take (i := 4) (v := ?_) rfl (by kernel_rfl) (by kernel_rfl) (by kernel_rfl) (fun _ _ _ h => h) (Or.inl ⟨by rfl, ?_⟩) ?_
          rotate_left
          · intro w; go_simp; try with_reducible rfl
          refine wpAny_ready (rs := [6]) (by kernel_rfl) (by simp) ?_
          refine AllReady.cons rfl (fun K hK => ?_) ?_
          · go_simp
            refine hK _ _ ?_; clear hK K
            refine wpAny_done (by kernel_rfl) ?_ _
            go_wp2_with fail
            go_meet
            exact defCut_B X02.out HLT.out HL2.out HH2.out x3.out hs3.out htp.out hlc1.out hlc2.out HX.out
          exact AllReady.nil
        exact AllReady.nil
      exact AllReady.nil
    refine AllReady.cons rfl (fun K hK => ?_) ?_
    · go_simp
      (go_at_call 213; refine (HAT.out _ (Ext.refl _).drew).mono ?_; rintro e w3 ⟨⟨_, rfl, ⟨la, lc, rfl, htp, hlc1, hlc2⟩, hs3⟩, x3⟩; have s2 := x3.cell (p := ⟨w1.heap.size, 1, none⟩) HNE1.out q1; have s3 := fun o => ((Ext.refl w3).alloc o).cell s2; replace htp := Lib.hid htp; replace hs3 := Lib.hid hs3; replace x3 := Lib.hid x3; replace hlc1 := Lib.hid hlc1; replace hlc2 := Lib.hid hlc2)
      try dsimp only
      refine hK _ _ ?_; clear hK K
      refine wpAny_ready (rs := [1, 5]) (by kernel_rfl) (by simp) ?_
      refine AllReady.cons rfl (fun K hK => ?_) ?_
      · go_simp
        refine hK _ _ ?_; clear hK K
        refine wpAny_take (i := 4) (v := ?_) rfl (by kernel_rfl) (by kernel_rfl) (by kernel_rfl) (fun _ _ _ h => h) (Or.inl ⟨by rfl, ?_⟩) ?_
        rotate_left
        · intro w; go_simp; try with_reducible rfl
        refine wpAny_ready (rs := [5]) (by kernel_rfl) (by simp) ?_
        refine AllReady.cons rfl (fun K hK => ?_) ?_
        · go_simp
          refine hK _ _ ?_; clear hK K
          refine wpAny_ready (rs := [6]) (by kernel_rfl) (by simp) ?_
          refine AllReady.cons rfl (fun K hK => ?_) ?_
          · go_simp
            refine hK _ _ ?_; clear hK K
            refine wpAny_done (by kernel_rfl) ?_ _
            go_wp2_with fail
            go_meet
            exact defCut_A X02.out HLT.out HL2.out HH2.out x3.out hs3.out htp.out hlc1.out hlc2.out HX.out
          exact AllReady.nil
        exact AllReady.nil
      refine AllReady.cons rfl (fun K hK => ?_) ?_
      · go_simp
        refine hK _ _ ?_; clear hK K
        refine wpAny_ready (rs := [1]) (by kernel_rfl) (by simp) ?_
        refine AllReady.cons rfl (fun K hK => ?_) ?_
        · go_simp
          refine hK _ _ ?_; clear hK K
          refine wpAny_take (i := 4) (v := ?_) rfl (by kernel_rfl) (by kernel_rfl) (by kernel_rfl) (fun _ _ _ h => h) (Or.inl ⟨by rfl, ?_⟩) ?_
          rotate_left
          · intro w; go_simp; try with_reducible rfl
          refine wpAny_ready (rs := [6]) (by kernel_rfl) (by simp) ?_
          refine AllReady.cons rfl (fun K hK => ?_) ?_
          · go_simp
            refine hK _ _ ?_; clear hK K
            refine wpAny_done (by kernel_rfl) ?_ _
            go_wp2_with fail
            go_meet
            exact defCut_A X02.out HLT.out HL2.out HH2.out x3.out hs3.out htp.out hlc1.out hlc2.out HX.out
          exact AllReady.nil
        exact AllReady.nil
      exact AllReady.nil
    refine AllReady.cons rfl (fun K hK => ?_) ?_
    · go_simp
      refine hK _ _ ?_; clear hK K
      refine wpAny_ready (rs := [1, 3]) (by kernel_rfl) (by simp) ?_
      refine AllReady.cons rfl (fun K hK => ?_) ?_
      · go_simp
        refine hK _ _ ?_; clear hK K
        refine wpAny_ready (rs := [3]) (by kernel_rfl) (by simp) ?_
        refine AllReady.cons rfl (fun K hK => ?_) ?_
        · go_simp
          (go_at_call 213; refine (HAT.out _ (((Ext.refl _).drew).alloc _)).mono ?_; rintro e w3 ⟨⟨_, rfl, ⟨la, lc, rfl, htp, hlc1, hlc2⟩, hs3⟩, x3⟩; have s2 := x3.cell (p := ⟨w1.heap.size, 1, none⟩) HNE1.out (((Ext.refl W2).drew.alloc _).cell q1); have s3 := fun o => ((Ext.refl w3).alloc o).cell s2; have k4 : w3.heap[W2.heap.size]? = some (.cells #[.int .i64 0, .string ⟨#[]⟩, .slice none 0 0, .slice none 0 0, .slice none 0 0] 67 (0, 0)) := but_heap x3 (heap_alloc_new W2.drew _) HNE2.out; obtain ⟨z0, z1, z2, z3, z4, g0, g1, g2, g3, g4⟩ := five_cells k4; clear k4; replace htp := Lib.hid htp; replace hs3 := Lib.hid hs3; replace x3 := Lib.hid x3; replace hlc1 := Lib.hid hlc1; replace hlc2 := Lib.hid hlc2)
          try dsimp only
          refine hK _ _ ?_; clear hK K
          refine wpAny_take (i := 4) (v := ?_) rfl (by kernel_rfl) (by kernel_rfl) (by kernel_rfl) (fun _ _ _ h => h) (Or.inl ⟨by rfl, ?_⟩) ?_
          rotate_left
          · intro w; go_simp; try with_reducible rfl
          refine wpAny_ready (rs := [6]) (by kernel_rfl) (by simp) ?_
          refine AllReady.cons rfl (fun K hK => ?_) ?_
          · go_simp
            refine hK _ _ ?_; clear hK K
            refine wpAny_done (by kernel_rfl) ?_ _
            go_wp2_with fail
            go_meet
            exact defCut_B X02.out HLT.out HL2.out HH2.out x3.out hs3.out htp.out hlc1.out hlc2.out HX.out
          exact AllReady.nil
        exact AllReady.nil
      refine AllReady.cons rfl (fun K hK => ?_) ?_
      · go_simp
        (go_at_call 213; refine (HAT.out _ (((Ext.refl _).drew).alloc _)).mono ?_; rintro e w3 ⟨⟨_, rfl, ⟨la, lc, rfl, htp, hlc1, hlc2⟩, hs3⟩, x3⟩; have s2 := x3.cell (p := ⟨w1.heap.size, 1, none⟩) HNE1.out (((Ext.refl W2).drew.alloc _).cell q1); have s3 := fun o => ((Ext.refl w3).alloc o).cell s2; have k4 : w3.heap[W2.heap.size]? = some (.cells #[.int .i64 0, .string ⟨#[]⟩, .slice none 0 0, .slice none 0 0, .slice none 0 0] 67 (0, 0)) := but_heap x3 (heap_alloc_new W2.drew _) HNE2.out; obtain ⟨z0, z1, z2, z3, z4, g0, g1, g2, g3, g4⟩ := five_cells k4; clear k4; replace htp := Lib.hid htp; replace hs3 := Lib.hid hs3; replace x3 := Lib.hid x3; replace hlc1 := Lib.hid hlc1; replace hlc2 := Lib.hid hlc2)
        try dsimp only
        refine hK _ _ ?_; clear hK K
        refine wpAny_ready (rs := [1]) (by kernel_rfl) (by simp) ?_
        refine AllReady.cons rfl (fun K hK => ?_) ?_
        · go_simp
          refine hK _ _ ?_; clear hK K
          refine wpAny_take (i := 4) (v := ?_) rfl (by kernel_rfl) (by kernel_rfl) (by kernel_rfl) (fun _ _ _ h => h) (Or.inl ⟨by rfl, ?_⟩) ?_
          rotate_left
          · intro w; go_simp; try with_reducible rfl
          refine wpAny_ready (rs := [6]) (by kernel_rfl) (by simp) ?_
          refine AllReady.cons rfl (fun K hK => ?_) ?_
          · go_simp
            refine hK _ _ ?_; clear hK K
            refine wpAny_done (by kernel_rfl) ?_ _
            go_wp2_with fail
            go_meet
            exact defCut_B X02.out HLT.out HL2.out HH2.out x3.out hs3.out htp.out hlc1.out hlc2.out HX.out
          exact AllReady.nil
        exact AllReady.nil
      exact AllReady.nil
    exact AllReady.nil
  rw [PR.bind_err] at hX1
  have HX := Lib.hid hX1
  clear hX1
  refine wp_region_any (by kernel_rfl) ?_
  change wpAny _ _ _ _ _ _ _ (World.drew _)
  refine wpAny_take (i := 0) (v := ?_) rfl (by kernel_rfl) (by kernel_rfl) (by kernel_rfl) (fun _ _ _ h => h) (Or.inl ⟨by rfl, ?_⟩) ?_
  rotate_left
  · intro w; go_simp; try with_reducible rfl
  refine wpAny_take (i := 2) (v := ?_) rfl (by kernel_rfl) (by kernel_rfl) (by kernel_rfl) (fun _ _ _ h => h) (Or.inl ⟨by rfl, ?_⟩) ?_
  rotate_left
  · intro w; go_simp; try with_reducible rfl
  refine wpAny_ready (rs := [1, 3, 5]) (by kernel_rfl) (by simp) ?_
  refine AllReady.cons rfl (fun K hK => ?_) ?_
  · go_simp
    refine hK _ _ ?_; clear hK K
    refine wpAny_ready (rs := [3, 5]) (by kernel_rfl) (by simp) ?_
    refine AllReady.cons rfl (fun K hK => ?_) ?_
    · go_simp
      (go_at_call 213; refine (hat _ (by first | exact (Ext.refl _).drew | exact ((Ext.refl _).drew).alloc _)).mono ?_; rintro e w3 ⟨rfl, x3⟩; unfold failE; go_wp2; exact ⟨rfl, by rw [HX.out]; exact rfl, (by first | exact X02.out.trans x3 | exact (X02.out.ext (Ext.refl _).drew).trans x3 | exact (X02.out.ext ((Ext.refl _).drew.alloc _)).trans x3)⟩)
    refine AllReady.cons rfl (fun K hK => ?_) ?_
    · go_simp
      refine hK _ _ ?_; clear hK K
      refine wpAny_ready (rs := [3]) (by kernel_rfl) (by simp) ?_
      refine AllReady.cons rfl (fun K hK => ?_) ?_
      · go_simp
        (go_at_call 213; refine (hat _ (by first | exact (Ext.refl _).drew | exact ((Ext.refl _).drew).alloc _)).mono ?_; rintro e w3 ⟨rfl, x3⟩; unfold failE; go_wp2; exact ⟨rfl, by rw [HX.out]; exact rfl, (by first | exact X02.out.trans x3 | exact (X02.out.ext (Ext.refl _).drew).trans x3 | exact (X02.out.ext ((Ext.refl _).drew.alloc _)).trans x3)⟩)
      exact AllReady.nil
    exact AllReady.nil
  refine AllReady.cons rfl (fun K hK => ?_) ?_
  · go_simp
    (go_at_call 213; refine (hat _ (by first | exact (Ext.refl _).drew | exact ((Ext.refl _).drew).alloc _)).mono ?_; rintro e w3 ⟨rfl, x3⟩; unfold failE; go_wp2; exact ⟨rfl, by rw [HX.out]; exact rfl, (by first | exact X02.out.trans x3 | exact (X02.out.ext (Ext.refl _).drew).trans x3 | exact (X02.out.ext ((Ext.refl _).drew.alloc _)).trans x3)⟩)
  refine AllReady.cons rfl (fun K hK => ?_) ?_
  · go_simp
    refine hK _ _ ?_; clear hK K
    refine wpAny_ready (rs := [1, 3]) (by kernel_rfl) (by simp) ?_
    refine AllReady.cons rfl (fun K hK => ?_) ?_
    · go_simp
      refine hK _ _ ?_; clear hK K
      refine wpAny_ready (rs := [3]) (by kernel_rfl) (by simp) ?_
      refine AllReady.cons rfl (fun K hK => ?_) ?_
      · go_simp
        (go_at_call 213; refine (hat _ (by first | exact (Ext.refl _).drew | exact ((Ext.refl _).drew).alloc _)).mono ?_; rintro e w3 ⟨rfl, x3⟩; unfold failE; go_wp2; exact ⟨rfl, by rw [HX.out]; exact rfl, (by first | exact X02.out.trans x3 | exact (X02.out.ext (Ext.refl _).drew).trans x3 | exact (X02.out.ext ((Ext.refl _).drew.alloc _)).trans x3)⟩)
      exact AllReady.nil
    refine AllReady.cons rfl (fun K hK => ?_) ?_
    · go_simp
      (go_at_call 213; refine (hat _ (by first | exact (Ext.refl _).drew | exact ((Ext.refl _).drew).alloc _)).mono ?_; rintro e w3 ⟨rfl, x3⟩; unfold failE; go_wp2; exact ⟨rfl, by rw [HX.out]; exact rfl, (by first | exact X02.out.trans x3 | exact (X02.out.ext (Ext.refl _).drew).trans x3 | exact (X02.out.ext ((Ext.refl _).drew.alloc _)).trans x3)⟩)
    exact AllReady.nil
  exact AllReady.nil
end Go.Proofs.YtjaeedbjknejdaaGreatDoor.Pa

namespace Go.Proofs.YtjaeedbjknejdaaGreatDoor.Pa
open Go.RowKit Go.Sort Go.Lib Go.Shelf Fx Lx Tr
theorem text_peek (r : List Tok) : textOf r = (peekT r).text := by cases r <;> rfl
theorem stm_step (pb : Nat) (a : Option Addr) (cap : Nat) (T : List Tok) (ar : ByteArray) (f : Nat) (hB : BlockC pb a cap T ar f) : StmC pb a cap T ar (f + 1) := by
  intro dep r w hdep hf h
  rw [pStm]
  by_cases h1 : isT 2 kNode r = true
  · rw [if_pos (by rw [h1]; rfl), text_peek, (isT_true h1).2]
    exact stm_node pb a cap T ar dep r w h h1
  by_cases h2 : isT 2 kEdge r = true
  · rw [if_pos (by rw [h2, Bool.or_true]), text_peek, (isT_true h2).2]
    exact stm_edge pb a cap T ar dep r w h h2
  have h1' : isT 2 kNode r = false := by simpa using h1
  have h2' : isT 2 kEdge r = false := by simpa using h2
  rw [if_neg (by rw [h1', h2']; decide)]
  by_cases h3 : isT 2 kSet r = true
  · rw [if_pos h3]
    exact stm_set pb a cap T ar dep r w h h3
  rw [if_neg h3]
  by_cases h4 : isT 2 kClus r = true
  · rw [if_pos h4]
    exact stm_clus pb a cap T ar f hB dep hdep r (by omega) w h h4
  rw [if_neg h4]
  exact stm_chain pb a cap T ar dep r w h h1' h2' (by simpa using h3) (by simpa using h4)
theorem stm_all (pb : Nat) (a : Option Addr) (cap : Nat) (T : List Tok) (ar : ByteArray) (f : Nat) : StmC pb a cap T ar f := by
  induction f using Nat.strongRecOn with
  | ind f ih =>
    cases f with
    | zero => intro dep r w hdep hf h; omega
    | succ f => exact stm_step pb a cap T ar f (block_step pb a cap T ar f fun g hg => ih g (by omega))
theorem block_all (pb : Nat) (a : Option Addr) (cap : Nat) (T : List Tok) (ar : ByteArray) (f : Nat) : BlockC pb a cap T ar f :=
  block_step pb a cap T ar f fun g _ => stm_all pb a cap T ar g
end Go.Proofs.YtjaeedbjknejdaaGreatDoor.Pa

namespace Go.Proofs.YtjaeedbjknejdaaGreatDoor.Pa
open Go.Lib Fx Lx Tr
def NZ {α : Type} (x : PR α) : Prop := ∀ ln e, x = .err ln e -> e ≠ 0
theorem NZ.bind {α β : Type} {x : PR α} {g : α -> List Tok -> PR β} (hx : NZ x) (h : ∀ v r, x = .ok v r -> NZ (g v r)) : NZ (x.bind g) := by
  intro ln e he
  cases x with
  | ok u s => exact h u s rfl ln e he
  | err l2 e2 => exact hx l2 e2 rfl |> fun h => by rw [PR.bind_err] at he; injection he with _ he; rw [<- he]; exact h
theorem NZ.ok {α : Type} {v : α} {r : List Tok} : NZ (PR.ok v r) := by intro ln e h; cases h
theorem NZ.err {α : Type} {ln er : Int} (h : er ≠ 0) : NZ (PR.err ln er : PR α) := by intro l e he; injection he with _ he; rw [<- he]; exact h
theorem NZ.ite {α : Type} {p : Prop} [Decidable p] {x y : PR α} (h1 : p -> NZ x) (h2 : ¬ p -> NZ y) : NZ (if p then x else y) := by
  by_cases h : p
  · rw [if_pos h]; exact h1 h
  rw [if_neg h]; exact h2 h
theorem nz_mark (last : Int) (m : List UInt8) (r : List Tok) : NZ (pMark last m r) := by
  unfold pMark; exact NZ.ite (fun _ => NZ.ok) (fun _ => NZ.err (by decide))
theorem nz_name (last : Int) (r : List Tok) : NZ (pName last r) := by
  cases r with
  | nil => exact NZ.err (by decide)
  | cons t r => unfold pName; exact NZ.ite (fun _ => NZ.ok) (fun _ => NZ.err (by decide))
theorem nz_val (last : Int) (r : List Tok) : NZ (pVal last r) := by
  cases r with
  | nil => exact NZ.err (by decide)
  | cons t r => unfold pVal; exact NZ.ite (fun _ => NZ.ok) (fun _ => NZ.ite (fun _ => NZ.ok) (fun _ => NZ.err (by decide)))
theorem nz_attr (last : Int) (r : List Tok) : NZ (pAttr last r) := by
  unfold pAttr
  exact NZ.bind (nz_name _ _) fun _ _ _ => NZ.bind (nz_mark _ _ _) fun _ _ _ => NZ.bind (nz_val _ _) fun _ _ _ => NZ.ok
theorem nz_attrs (last : Int) : ∀ (f : Nat) (out : List Two) (r : List Tok), r.length + 1 <= f -> NZ (pAttrs last f out r)
  | 0, _, _, h => by omega
  | f + 1, out, r, h => by
    rw [pAttrs]
    refine NZ.ite (fun _ => NZ.ok) (fun _ => NZ.bind (NZ.ite (fun _ => NZ.ok) (fun _ => nz_mark _ _ _)) fun u s e => NZ.bind (nz_attr _ _) fun q s' e' => ?_)
    have hs : s.length <= r.length := by
      by_cases h0 : out.isEmpty = true
      · rw [if_pos h0] at e; injection e with _ e; rw [<- e]; exact Nat.le_refl _
      rw [if_neg h0] at e; have := pMark_len e; omega
    have := eats_attr last s q s' e'
    exact nz_attrs last f _ s' (by omega)
theorem nz_attrsB (last : Int) (r : List Tok) : NZ (pAttrsB last r) := by
  unfold pAttrsB
  exact NZ.bind (nz_mark _ _ _) fun _ s _ => nz_attrs last _ _ s (Nat.le_refl _)
theorem nz_opt (last : Int) (r : List Tok) : NZ (pOpt last r) := by
  unfold pOpt
  exact NZ.bind (NZ.ite (fun _ => nz_attrsB _ _) (fun _ => NZ.ok)) fun _ _ _ => NZ.bind (nz_mark _ _ _) fun _ _ _ => NZ.ok
theorem nz_port (last : Int) (n : ByteArray) (r : List Tok) : NZ (pPort last n r) := by
  unfold pPort
  exact NZ.ite (fun _ => NZ.bind (nz_name _ _) fun _ _ _ => NZ.ok) (fun _ => NZ.ok)
theorem nz_refs (last : Int) (ar : List UInt8) : ∀ (f : Nat) (out : List Two) (r : List Tok), r.length + 1 <= f -> NZ (pRefs last ar f out r)
  | 0, _, _, h => by omega
  | f + 1, out, r, h => by
    rw [pRefs]
    refine NZ.ite (fun _ => NZ.bind (nz_mark _ _ _) fun u s e => NZ.bind ?_ fun q s' e' => ?_) (fun _ => NZ.ok)
    · unfold pRef; exact NZ.bind (nz_name _ _) fun n s' _ => nz_port _ _ _
    · have h1 := pMark_len e
      have h2 : s'.length < s.length := by
        unfold pRef at e'
        cases hn : pName last s with
        | ok n s2 =>
          rw [hn, PR.bind_ok] at e'
          have := pName_len hn
          have := port_le e'
          omega
        | err l e2 => rw [hn, PR.bind_err] at e'; cases e'
      exact nz_refs last ar f _ s' (by omega)
theorem nz_chain (last : Int) (ar : List UInt8) (r : List Tok) : NZ (pChain last ar r) := by
  unfold pChain
  refine NZ.bind (nz_name _ _) fun n s _ => NZ.ite (fun _ => NZ.bind (nz_opt _ _) fun _ _ _ => NZ.ok) (fun _ => NZ.bind (nz_port _ _ _) fun q s' _ => NZ.bind (nz_refs last ar _ _ s' (by omega)) fun _ _ _ => NZ.bind (nz_opt _ _) fun _ _ _ => NZ.ok)
theorem nz_set (last : Int) (r : List Tok) : NZ (pSet last r) := by
  unfold pSet
  exact NZ.bind (nz_name _ _) fun _ _ _ => NZ.bind (nz_mark _ _ _) fun _ _ _ => NZ.bind (nz_val _ _) fun _ _ _ => NZ.bind (nz_mark _ _ _) fun _ _ _ => NZ.ok
theorem nz_def (last : Int) (x : List UInt8) (r : List Tok) : NZ (pDef last x r) := by
  unfold pDef
  exact NZ.bind (nz_attrsB _ _) fun _ _ _ => NZ.bind (nz_mark _ _ _) fun _ _ _ => NZ.ok
theorem nz_all (last : Int) (ar : List UInt8) : ∀ f : Nat, (∀ dep r, 2 * r.length + 2 <= f -> NZ (pStm last ar f dep r)) /\
    (∀ dep r, 2 * r.length + 3 <= f -> NZ (pBlock last ar f dep r)) /\ ∀ dep out r, 2 * r.length + 3 <= f -> NZ (pStms last ar f dep out r)
  | 0 => ⟨fun _ _ h => by omega, fun _ _ h => by omega, fun _ _ _ h => by omega⟩
  | f + 1 => by
    obtain ⟨h1, h2, h3⟩ := nz_all last ar f
    refine ⟨fun dep r h => ?_, fun dep r h => ?_, fun dep out r h => ?_⟩
    · rw [pStm]
      refine NZ.ite (fun _ => nz_def _ _ _) (fun _ => NZ.ite (fun _ => nz_set _ _) (fun _ => NZ.ite (fun hi => ?_) (fun _ => nz_chain _ _ _)))
      have hl := isT_cons hi
      refine NZ.bind (nz_name _ _) fun n s e => ?_
      have := pName_len e
      exact NZ.bind (h2 _ s (by omega)) fun _ _ _ => NZ.ok
    · rw [pBlock]
      refine NZ.ite (fun _ => NZ.err (by decide)) (fun _ => NZ.bind (nz_mark _ _ _) fun u s e => ?_)
      have := pMark_len e
      exact h3 dep [] s (by omega)
    · rw [pStms]
      refine NZ.ite (fun _ => NZ.ok) (fun _ => NZ.bind (h1 dep r (by omega)) fun x s e => ?_)
      have := (eats_all last ar f dep r).1 x s e
      exact h3 dep _ s (by omega)
theorem nz_tree (last : Int) (f : Nat) (r : List Tok) (h : 2 * r.length + 3 <= f) : NZ (pTree last f r) := by
  unfold pTree
  refine NZ.ite (fun hi => ?_) (fun _ => NZ.ite (fun hi => ?_) (fun _ => NZ.err (by decide)))
  all_goals
    have hl := isT_cons hi
    refine NZ.bind (nz_name _ _) fun n s e => ?_
    have := pName_len e
    exact NZ.bind ((nz_all last _ f).2.1 0 s (by omega)) fun _ _ _ => NZ.ok
end Go.Proofs.YtjaeedbjknejdaaGreatDoor.Pa
