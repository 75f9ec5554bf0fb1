/- Packed texts: ParDefN -/
import Derived.Test.YtjaeedbjknejdaaGreatDoorPr46
set_option linter.unusedVariables false
set_option linter.unusedSimpArgs false
set_option maxHeartbeats 16000000
set_option maxRecDepth 100000
namespace Go.Proofs.YtjaeedbjknejdaaGreatDoor.Pa
open Go.RowKit Go.Sort Go.Lib Go.Shelf Fx Lx Tr
theorem stm_node (pb : Nat) (a : Option Addr) (cap : Nat) (T : List Tok) (ar : ByteArray) (dep : Int) (r : List Tok) (w : World) (h : PSt pb a cap T ar dep r w) (hi : isT 2 kNode r = true) :
    Calls Tryz.prog 161 #[.pointer (some ⟨pb, 0, none⟩)] w fun e w' =>
      POut pb a cap T ar dep (fun s u w' => StmV (w.heap.size <= ·) s u w') (pDef (lastL T) kNode r.tail) e w' /\ But pb w w' := by
  obtain ⟨X, hX⟩ : ∃ X, X = pDef (lastL T) kNode r.tail := ⟨_, rfl⟩
  rw [<- hX]
  have hx0 := (Ext.refl w).alloc (.cells #[.int .i64 0, .string ⟨#[]⟩, .slice none 0 0, .slice none 0 0, .slice none 0 0] 67)
  have hw0 := heap_alloc_new w (.cells #[.int .i64 0, .string ⟨#[]⟩, .slice none 0 0, .slice none 0 0, .slice none 0 0] 67)
  have hpk := peek_st pb a cap T ar dep r _ (h.ext hx0)
  obtain ⟨e1, e2⟩ := isT_true hi
  have hr : r ≠ [] := by rintro rfl; cases hi
  generalize hpt : peekT r = t at *
  obtain ⟨tk, tx, tn, tl⟩ := t
  dsimp only at e1 e2
  subst e1; subst e2
  unfold tokV at hpk
  dsimp only at hpk
  have HS := Lib.hid h; have HLT := Lib.hid h.lt; have HPK := Lib.hid hpk; have HX := Lib.hid hX; have HX0 := Lib.hid hx0; have HW0 := Lib.hid hw0
  clear hpt h hpk hX hx0 hw0 hi
  unfold kNode at HPK
  go_enter Tryz.func161, Tryz.ntmps161
  go_upto_region 4 with (go_at_call 159; refine HPK.out.mono ?_; rintro e w1 ⟨rfl, x1⟩; have hcl := tok_cells w1 2 ⟨#[110, 111, 100, 101]⟩ tn tl; have x1' := Lib.hid x1; obtain ⟨k, hk, p1, p4, q1, hs, hb⟩ := tok_then (HS.out.ext (HX0.out.trans x1)) hr 2 ⟨#[110, 111, 100, 101]⟩ tn tl; replace hs := Lib.hid hs; replace hb := Lib.hid hb)
  have hX1 := HX.out
  unfold pDef at hX1
  have hlt := HLT.out
  have hlw : w.heap.size + 1 <= w1.heap.size := by have := x1'.out.size; rw [World.size_alloc] at this; omega
  have hne1 : w1.heap.size ≠ pb := by omega
  have hh2 := but_heap hb.out ((x1'.out.block _ (by simp)).trans HW0.out) (by omega)
  have x02 := (But.of (HX0.out.trans x1'.out)).trans hb.out
  have hl2 := hb.out.size
  obtain ⟨W2, hW2⟩ : ∃ W2, W2 = (w1.alloc (.cells #[.int .i64 2, .string ⟨#[110, 111, 100, 101]⟩, .int .i64 tn, .int .i64 tl] 220)).setCell ⟨pb, 1, none⟩ (.int .i64 ((k : Int) + 1)) := ⟨_, rfl⟩
  rw [<- hW2] at q1 hs hb hh2 x02 hl2 ⊢
  have hat := fun w2 (x : Ext W2 w2) => attrs_any pb a cap T ar dep r.tail w2 (hs.out.ext x)
  have q2 : ∀ o, (W2.alloc o).cell? ⟨w1.heap.size, 1, none⟩ = some (.string ⟨#[110, 111, 100, 101]⟩) := fun o => ((Ext.refl W2).alloc o).cell q1
  clear hW2
  have HNE1 := Lib.hid hne1
  have X02 := Lib.hid x02
  have HH2 := Lib.hid hh2
  have HX1 := Lib.hid hX1
  have HAT0 := Lib.hid hat
  have HL2 : Hid (w.heap.size + 1 <= W2.heap.size) := Lib.hid (by omega)
  have HNE2 : Hid (W2.heap.size ≠ pb) := Lib.hid (by omega)
  clear hcl p1 p4 x1 hne1 x02 hh2 hb x1' HX0 HW0 HPK hX1 HX hat hs HS hk hlt hlw hl2
  go_cut [4] (fun s4 wx => DefCut pb a cap T ar dep w kNode X s4 wx)
  case rest =>
    clear HAT0 HX1 HH2 X02 q1 q2 HNE1 HNE2 HL2
    obtain ⟨c, L, r2, la, lc, rfl, hc1, hk, hs2, x2, htp, hl1, hl2, hh, hX1⟩ := hcut
    have hn1 := mark_l pb a cap T ar dep r2 ⟨#[59]⟩ [59] rfl wc hs2
    have HHK := Lib.hid hk; have HHH := Lib.hid hh; have X2 := Lib.hid x2; have HTP := Lib.hid htp; have HL1 := Lib.hid hl1; have HL2 := Lib.hid hl2; have HC1 := Lib.hid hc1
    clear hk hh x2 htp hl1 hl2 hc1
    rcases hq : pMark (lastL T) [59] r2 with ⟨u, r6⟩ | ⟨ln, er⟩ <;> rw [hq] at hn1 hX1 <;> clear hq hs2
    · rw [PR.bind_ok] at hX1
      have HX := Lib.hid hX1
      clear hX1
      go_wp2_with fail
      refine hn1.mono ?_
      rintro e w6 ⟨⟨_, rfl, rfl, hs6⟩, x6⟩
      clear hn1
      have hlp := HLT.out
      have hc1 := HC1.out
      have k5 := but_heap x6 HHK.out (by omega)
      have k0 := but_heap x6 HHH.out (by omega)
      unfold zero5 at k0
      have X06 := Lib.hid (X2.out.trans x6)
      have HS6 := Lib.hid hs6
      have HTP6 := Lib.hid (HTP.out.keep (ok' := (w.heap.size + 1 <= ·)) (kept_but x6 (by omega)) (fun g hg _ => hg))
      have HZ := Lib.hid (set_five k0 (.int .i64 3) (.string ⟨#[110, 111, 100, 101]⟩) (.slice none 0 0) (.slice la L.length lc) (.slice none 0 0))
      obtain ⟨z0, z1, z2, z3, z4, g0, g1, g2, g3, g4⟩ := five_cells k5
      obtain ⟨y0, y1, y2, y3, y4, f0, f1, f2, f3, f4⟩ := five_cells k0
      unfold kNode at z1
      replace hlp := Lib.hid hlp
      clear k5 k0 x6 hs6 hc1 X2 HTP HHK HHH HLT
      go_wp2
      refine bodyPost_ret (results_cell_row rfl _ _ w.heap.size 67 #[.int .i64 3, .string ⟨#[110, 111, 100, 101]⟩, .slice none 0 0, .slice la L.length lc, .slice none 0 0] (0, 0) _ rfl HZ.out Tryz.underlying67 rfl size_stm) rfl ?_
      obtain ⟨F1, F2, F3⟩ := fin_five HS6.out X06.out w.heap.size hlp.out (Nat.le_refl _) (.int .i64 3) (.string ⟨#[110, 111, 100, 101]⟩) (.slice none 0 0) (.slice la L.length lc) (.slice none 0 0)
      rw [HX.out]
      refine ⟨⟨_, rfl, ⟨[.int .i64 3, .string ⟨#[110, 111, 100, 101]⟩, .slice none 0 0, .slice la L.length lc, .slice none 0 0], rfl, ?_⟩, F1⟩, F2⟩
      have htp := TwoP.keep (ok' := (w.heap.size <= ·)) HTP6.out (fun g hg _ => F3 g (by have hg : w.heap.size + 1 <= g := hg; omega)) (fun g hg _ => by have hg : w.heap.size + 1 <= g := hg; show w.heap.size <= g; omega)
      rw [StmP]
      exact ⟨none, 0, la, lc, none, 0, rfl, fun k hk => absurd hk (by simp), htp, by rw [StmsP]; trivial, by simp, HL1.out, by simp, HL2.out, by simp⟩
    rw [PR.bind_err] at hX1
    have HX := Lib.hid hX1
    clear hX1
    go_wp2_with fail
    refine hn1.mono ?_
    rintro e w6 ⟨rfl, x6⟩
    clear hn1
    unfold failE
    go_wp2
    exact ⟨rfl, by rw [HX.out]; exact rfl, X2.out.trans x6⟩
  case first =>
  have hX1 := HX1.out
  have hat := HAT0.out
  clear HX1 HAT0
  rcases hq : pAttrsB (lastL T) r.tail with ⟨L, r2⟩ | ⟨ln, er⟩ <;> rw [hq] at hat hX1 <;> clear hq
  · rw [PR.bind_ok] at hX1
    have HX := Lib.hid hX1
    have HAT := Lib.hid hat
    clear hX1 hat
    refine wp_region_any (by kernel_rfl) ?_
    change wpAny _ _ _ _ _ _ _ (World.drew _)
    refine wpAny_take (i := 0) (v := ?_) rfl (by kernel_rfl) (by kernel_rfl) (by kernel_rfl) (fun _ _ _ h => h) (Or.inl ⟨by rfl, ?_⟩) ?_
    rotate_left
    · intro w; go_simp; try with_reducible rfl
    refine wpAny_take (i := 2) (v := ?_) rfl (by kernel_rfl) (by kernel_rfl) (by kernel_rfl) (fun _ _ _ h => h) (Or.inl ⟨by rfl, ?_⟩) ?_
    rotate_left
    · intro w; go_simp; try with_reducible rfl
    refine wpAny_ready (rs := [1, 3, 5]) (by kernel_rfl) (by simp) ?_
    refine AllReady.cons rfl (fun K hK => ?_) ?_
    · go_simp
      refine hK _ _ ?_; clear hK K
      refine wpAny_ready (rs := [3, 5]) (by kernel_rfl) (by simp) ?_
      refine AllReady.cons rfl (fun K hK => ?_) ?_
      · go_simp
        (go_at_call 213; refine (HAT.out _ (Ext.refl _).drew).mono ?_; rintro e w3 ⟨⟨_, rfl, ⟨la, lc, rfl, htp, hlc1, hlc2⟩, hs3⟩, x3⟩; have s2 := x3.cell (p := ⟨w1.heap.size, 1, none⟩) HNE1.out q1; have s3 := fun o => ((Ext.refl w3).alloc o).cell s2; replace htp := Lib.hid htp; replace hs3 := Lib.hid hs3; replace x3 := Lib.hid x3; replace hlc1 := Lib.hid hlc1; replace hlc2 := Lib.hid hlc2)
        try dsimp only
        refine hK _ _ ?_; clear hK K
        refine wpAny_take (i := 4) (v := ?_) rfl (by kernel_rfl) (by kernel_rfl) (by kernel_rfl) (fun _ _ _ h => h) (Or.inl ⟨by rfl, ?_⟩) ?_
        rotate_left
        · intro w; go_simp; try with_reducible rfl
        refine wpAny_ready (rs := [5]) (by kernel_rfl) (by simp) ?_
        refine AllReady.cons rfl (fun K hK => ?_) ?_
        · go_simp
          refine hK _ _ ?_; clear hK K
          refine wpAny_ready (rs := [6]) (by kernel_rfl) (by simp) ?_
          refine AllReady.cons rfl (fun K hK => ?_) ?_
          · go_simp
            refine hK _ _ ?_; clear hK K
            refine wpAny_done (by kernel_rfl) ?_ _
            go_wp2_with fail
            go_meet
            exact defCut_A X02.out HLT.out HL2.out HH2.out x3.out hs3.out htp.out hlc1.out hlc2.out HX.out
          exact AllReady.nil
        exact AllReady.nil
      refine AllReady.cons rfl (fun K hK => ?_) ?_
      · go_simp
        refine hK _ _ ?_; clear hK K
        refine wpAny_ready (rs := [3]) (by kernel_rfl) (by simp) ?_
        refine AllReady.cons rfl (fun K hK => ?_) ?_
        · go_simp
          (go_at_call 213; refine (HAT.out _ (((Ext.refl _).drew).alloc _)).mono ?_; rintro e w3 ⟨⟨_, rfl, ⟨la, lc, rfl, htp, hlc1, hlc2⟩, hs3⟩, x3⟩; have s2 := x3.cell (p := ⟨w1.heap.size, 1, none⟩) HNE1.out (((Ext.refl W2).drew.alloc _).cell q1); have s3 := fun o => ((Ext.refl w3).alloc o).cell s2; have k4 : w3.heap[W2.heap.size]? = some (.cells #[.int .i64 0, .string ⟨#[]⟩, .slice none 0 0, .slice none 0 0, .slice none 0 0] 67 (0, 0)) := but_heap x3 (heap_alloc_new W2.drew _) HNE2.out; obtain ⟨z0, z1, z2, z3, z4, g0, g1, g2, g3, g4⟩ := five_cells k4; clear k4; replace htp := Lib.hid htp; replace hs3 := Lib.hid hs3; replace x3 := Lib.hid x3; replace hlc1 := Lib.hid hlc1; replace hlc2 := Lib.hid hlc2)
          try dsimp only
          refine hK _ _ ?_; clear hK K
          refine wpAny_take (i := 4) (v := ?_) rfl (by kernel_rfl) (by kernel_rfl) (by kernel_rfl) (fun _ _ _ h => h) (Or.inl ⟨by rfl, ?_⟩) ?_
          rotate_left
          · intro w; go_simp; try with_reducible rfl
          refine wpAny_ready (rs := [6]) (by kernel_rfl) (by simp) ?_
          refine AllReady.cons rfl (fun K hK => ?_) ?_
          · go_simp
            refine hK _ _ ?_; clear hK K
            refine wpAny_done (by kernel_rfl) ?_ _
            go_wp2_with fail
            go_meet
            exact defCut_B X02.out HLT.out HL2.out HH2.out x3.out hs3.out htp.out hlc1.out hlc2.out HX.out
          exact AllReady.nil
        exact AllReady.nil
      exact AllReady.nil
    refine AllReady.cons rfl (fun K hK => ?_) ?_
    · go_simp
      (go_at_call 213; refine (HAT.out _ (Ext.refl _).drew).mono ?_; rintro e w3 ⟨⟨_, rfl, ⟨la, lc, rfl, htp, hlc1, hlc2⟩, hs3⟩, x3⟩; have s2 := x3.cell (p := ⟨w1.heap.size, 1, none⟩) HNE1.out q1; have s3 := fun o => ((Ext.refl w3).alloc o).cell s2; replace htp := Lib.hid htp; replace hs3 := Lib.hid hs3; replace x3 := Lib.hid x3; replace hlc1 := Lib.hid hlc1; replace hlc2 := Lib.hid hlc2)
      try dsimp only
      refine hK _ _ ?_; clear hK K
      refine wpAny_ready (rs := [1, 5]) (by kernel_rfl) (by simp) ?_
      refine AllReady.cons rfl (fun K hK => ?_) ?_
      · go_simp
        refine hK _ _ ?_; clear hK K
        refine wpAny_take (i := 4) (v := ?_) rfl (by kernel_rfl) (by kernel_rfl) (by kernel_rfl) (fun _ _ _ h => h) (Or.inl ⟨by rfl, ?_⟩) ?_
        rotate_left
        · intro w; go_simp; try with_reducible rfl
        refine wpAny_ready (rs := [5]) (by kernel_rfl) (by simp) ?_
        refine AllReady.cons rfl (fun K hK => ?_) ?_
        · go_simp
          refine hK _ _ ?_; clear hK K
          refine wpAny_ready (rs := [6]) (by kernel_rfl) (by simp) ?_
          refine AllReady.cons rfl (fun K hK => ?_) ?_
          · go_simp
            refine hK _ _ ?_; clear hK K
            refine wpAny_done (by kernel_rfl) ?_ _
            go_wp2_with fail
            go_meet
            exact defCut_A X02.out HLT.out HL2.out HH2.out x3.out hs3.out htp.out hlc1.out hlc2.out HX.out
          exact AllReady.nil
        exact AllReady.nil
      refine AllReady.cons rfl (fun K hK => ?_) ?_
      · go_simp
        refine hK _ _ ?_; clear hK K
        refine wpAny_ready (rs := [1]) (by kernel_rfl) (by simp) ?_
        refine AllReady.cons rfl (fun K hK => ?_) ?_
        · go_simp
          refine hK _ _ ?_; clear hK K
          refine wpAny_take (i := 4) (v := ?_) rfl (by kernel_rfl) (by kernel_rfl) (by kernel_rfl) (fun _ _ _ h => h) (Or.inl ⟨by rfl, ?_⟩) ?_
          rotate_left
          · intro w; go_simp; try with_reducible rfl
          refine wpAny_ready (rs := [6]) (by kernel_rfl) (by simp) ?_
          refine AllReady.cons rfl (fun K hK => ?_) ?_
          · go_simp
            refine hK _ _ ?_; clear hK K
            refine wpAny_done (by kernel_rfl) ?_ _
            go_wp2_with fail
            go_meet
            exact defCut_A X02.out HLT.out HL2.out HH2.out x3.out hs3.out htp.out hlc1.out hlc2.out HX.out
          exact AllReady.nil
        exact AllReady.nil
      exact AllReady.nil
    refine AllReady.cons rfl (fun K hK => ?_) ?_
    · go_simp
      refine hK _ _ ?_; clear hK K
      refine wpAny_ready (rs := [1, 3]) (by kernel_rfl) (by simp) ?_
      refine AllReady.cons rfl (fun K hK => ?_) ?_
      · go_simp
        refine hK _ _ ?_; clear hK K
        refine wpAny_ready (rs := [3]) (by kernel_rfl) (by simp) ?_
        refine AllReady.cons rfl (fun K hK => ?_) ?_
        · go_simp
          (go_at_call 213; refine (HAT.out _ (((Ext.refl _).drew).alloc _)).mono ?_; rintro e w3 ⟨⟨_, rfl, ⟨la, lc, rfl, htp, hlc1, hlc2⟩, hs3⟩, x3⟩; have s2 := x3.cell (p := ⟨w1.heap.size, 1, none⟩) HNE1.out (((Ext.refl W2).drew.alloc _).cell q1); have s3 := fun o => ((Ext.refl w3).alloc o).cell s2; have k4 : w3.heap[W2.heap.size]? = some (.cells #[.int .i64 0, .string ⟨#[]⟩, .slice none 0 0, .slice none 0 0, .slice none 0 0] 67 (0, 0)) := but_heap x3 (heap_alloc_new W2.drew _) HNE2.out; obtain ⟨z0, z1, z2, z3, z4, g0, g1, g2, g3, g4⟩ := five_cells k4; clear k4; replace htp := Lib.hid htp; replace hs3 := Lib.hid hs3; replace x3 := Lib.hid x3; replace hlc1 := Lib.hid hlc1; replace hlc2 := Lib.hid hlc2)
          try dsimp only
          refine hK _ _ ?_; clear hK K
          refine wpAny_take (i := 4) (v := ?_) rfl (by kernel_rfl) (by kernel_rfl) (by kernel_rfl) (fun _ _ _ h => h) (Or.inl ⟨by rfl, ?_⟩) ?_
          rotate_left
          · intro w; go_simp; try with_reducible rfl
          refine wpAny_ready (rs := [6]) (by kernel_rfl) (by simp) ?_
          refine AllReady.cons rfl (fun K hK => ?_) ?_
          · go_simp
            refine hK _ _ ?_; clear hK K
            refine wpAny_done (by kernel_rfl) ?_ _
            go_wp2_with fail
            go_meet
            exact defCut_B X02.out HLT.out HL2.out HH2.out x3.out hs3.out htp.out hlc1.out hlc2.out HX.out
          exact AllReady.nil
        exact AllReady.nil
      refine AllReady.cons rfl (fun K hK => ?_) ?_
      · go_simp
        (go_at_call 213; refine (HAT.out _ (((Ext.refl _).drew).alloc _)).mono ?_; rintro e w3 ⟨⟨_, rfl, ⟨la, lc, rfl, htp, hlc1, hlc2⟩, hs3⟩, x3⟩; have s2 := x3.cell (p := ⟨w1.heap.size, 1, none⟩) HNE1.out (((Ext.refl W2).drew.alloc _).cell q1); have s3 := fun o => ((Ext.refl w3).alloc o).cell s2; have k4 : w3.heap[W2.heap.size]? = some (.cells #[.int .i64 0, .string ⟨#[]⟩, .slice none 0 0, .slice none 0 0, .slice none 0 0] 67 (0, 0)) := but_heap x3 (heap_alloc_new W2.drew _) HNE2.out; obtain ⟨z0, z1, z2, z3, z4, g0, g1, g2, g3, g4⟩ := five_cells k4; clear k4; replace htp := Lib.hid htp; replace hs3 := Lib.hid hs3; replace x3 := Lib.hid x3; replace hlc1 := Lib.hid hlc1; replace hlc2 := Lib.hid hlc2)
        try dsimp only
        refine hK _ _ ?_; clear hK K
        refine wpAny_ready (rs := [1]) (by kernel_rfl) (by simp) ?_
        refine AllReady.cons rfl (fun K hK => ?_) ?_
        · go_simp
          refine hK _ _ ?_; clear hK K
          refine wpAny_take (i := 4) (v := ?_) rfl (by kernel_rfl) (by kernel_rfl) (by kernel_rfl) (fun _ _ _ h => h) (Or.inl ⟨by rfl, ?_⟩) ?_
          rotate_left
          · intro w; go_simp; try with_reducible rfl
          refine wpAny_ready (rs := [6]) (by kernel_rfl) (by simp) ?_
          refine AllReady.cons rfl (fun K hK => ?_) ?_
          · go_simp
            refine hK _ _ ?_; clear hK K
            refine wpAny_done (by kernel_rfl) ?_ _
            go_wp2_with fail
            go_meet
            exact defCut_B X02.out HLT.out HL2.out HH2.out x3.out hs3.out htp.out hlc1.out hlc2.out HX.out
          exact AllReady.nil
        exact AllReady.nil
      exact AllReady.nil
    exact AllReady.nil
  rw [PR.bind_err] at hX1
  have HX := Lib.hid hX1
  clear hX1
  refine wp_region_any (by kernel_rfl) ?_
  change wpAny _ _ _ _ _ _ _ (World.drew _)
  refine wpAny_take (i := 0) (v := ?_) rfl (by kernel_rfl) (by kernel_rfl) (by kernel_rfl) (fun _ _ _ h => h) (Or.inl ⟨by rfl, ?_⟩) ?_
  rotate_left
  · intro w; go_simp; try with_reducible rfl
  refine wpAny_take (i := 2) (v := ?_) rfl (by kernel_rfl) (by kernel_rfl) (by kernel_rfl) (fun _ _ _ h => h) (Or.inl ⟨by rfl, ?_⟩) ?_
  rotate_left
  · intro w; go_simp; try with_reducible rfl
  refine wpAny_ready (rs := [1, 3, 5]) (by kernel_rfl) (by simp) ?_
  refine AllReady.cons rfl (fun K hK => ?_) ?_
  · go_simp
    refine hK _ _ ?_; clear hK K
    refine wpAny_ready (rs := [3, 5]) (by kernel_rfl) (by simp) ?_
    refine AllReady.cons rfl (fun K hK => ?_) ?_
    · go_simp
      (go_at_call 213; refine (hat _ (by first | exact (Ext.refl _).drew | exact ((Ext.refl _).drew).alloc _)).mono ?_; rintro e w3 ⟨rfl, x3⟩; unfold failE; go_wp2; exact ⟨rfl, by rw [HX.out]; exact rfl, (by first | exact X02.out.trans x3 | exact (X02.out.ext (Ext.refl _).drew).trans x3 | exact (X02.out.ext ((Ext.refl _).drew.alloc _)).trans x3)⟩)
    refine AllReady.cons rfl (fun K hK => ?_) ?_
    · go_simp
      refine hK _ _ ?_; clear hK K
      refine wpAny_ready (rs := [3]) (by kernel_rfl) (by simp) ?_
      refine AllReady.cons rfl (fun K hK => ?_) ?_
      · go_simp
        (go_at_call 213; refine (hat _ (by first | exact (Ext.refl _).drew | exact ((Ext.refl _).drew).alloc _)).mono ?_; rintro e w3 ⟨rfl, x3⟩; unfold failE; go_wp2; exact ⟨rfl, by rw [HX.out]; exact rfl, (by first | exact X02.out.trans x3 | exact (X02.out.ext (Ext.refl _).drew).trans x3 | exact (X02.out.ext ((Ext.refl _).drew.alloc _)).trans x3)⟩)
      exact AllReady.nil
    exact AllReady.nil
  refine AllReady.cons rfl (fun K hK => ?_) ?_
  · go_simp
    (go_at_call 213; refine (hat _ (by first | exact (Ext.refl _).drew | exact ((Ext.refl _).drew).alloc _)).mono ?_; rintro e w3 ⟨rfl, x3⟩; unfold failE; go_wp2; exact ⟨rfl, by rw [HX.out]; exact rfl, (by first | exact X02.out.trans x3 | exact (X02.out.ext (Ext.refl _).drew).trans x3 | exact (X02.out.ext ((Ext.refl _).drew.alloc _)).trans x3)⟩)
  refine AllReady.cons rfl (fun K hK => ?_) ?_
  · go_simp
    refine hK _ _ ?_; clear hK K
    refine wpAny_ready (rs := [1, 3]) (by kernel_rfl) (by simp) ?_
    refine AllReady.cons rfl (fun K hK => ?_) ?_
    · go_simp
      refine hK _ _ ?_; clear hK K
      refine wpAny_ready (rs := [3]) (by kernel_rfl) (by simp) ?_
      refine AllReady.cons rfl (fun K hK => ?_) ?_
      · go_simp
        (go_at_call 213; refine (hat _ (by first | exact (Ext.refl _).drew | exact ((Ext.refl _).drew).alloc _)).mono ?_; rintro e w3 ⟨rfl, x3⟩; unfold failE; go_wp2; exact ⟨rfl, by rw [HX.out]; exact rfl, (by first | exact X02.out.trans x3 | exact (X02.out.ext (Ext.refl _).drew).trans x3 | exact (X02.out.ext ((Ext.refl _).drew.alloc _)).trans x3)⟩)
      exact AllReady.nil
    refine AllReady.cons rfl (fun K hK => ?_) ?_
    · go_simp
      (go_at_call 213; refine (hat _ (by first | exact (Ext.refl _).drew | exact ((Ext.refl _).drew).alloc _)).mono ?_; rintro e w3 ⟨rfl, x3⟩; unfold failE; go_wp2; exact ⟨rfl, by rw [HX.out]; exact rfl, (by first | exact X02.out.trans x3 | exact (X02.out.ext (Ext.refl _).drew).trans x3 | exact (X02.out.ext ((Ext.refl _).drew.alloc _)).trans x3)⟩)
    exact AllReady.nil
  exact AllReady.nil
end Go.Proofs.YtjaeedbjknejdaaGreatDoor.Pa
