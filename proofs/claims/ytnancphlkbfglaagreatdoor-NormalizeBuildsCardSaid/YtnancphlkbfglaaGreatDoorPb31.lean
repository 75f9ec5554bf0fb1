/- Packed texts: NorCluD -/
import Derived.Test.YtnancphlkbfglaaGreatDoorPb30
import Derived.Test.YtnancphlkbfglaaGreatDoorPb24
set_option linter.unusedVariables false
set_option linter.unusedSimpArgs false
namespace Go.Proofs.YtnancphlkbfglaaGreatDoor.Nm
open Go.RowKit Go.Sort Go.Lib Go.Shelf Fx Lx Tr At
def BlkD (w0 : World) (bb B : Nat) (nm : ByteArray) (dir : Bool) (nn M : Nat) : Prop :=
  ∀ (L : List Stm) (b : Option Addr) (cap : Nat) (p : Pl) (pn pe : Value) (S : St) (k : Nat) (w : World), cntL L ≤ M → StmsAt nn w0 b L → L.length ≤ maxLen → okWL L → Sml (10 * k) k S → SmP k p → k + cntL L ≤ 512 → DocE w0 bb B nm dir w S 0 → AtL w pn p.n → AtL w pe p.e →
    Calls Tryz.prog 32 #[.pointer (some ⟨bb, 0, none⟩), .slice b L.length cap, .agg #[.int .i64 p.c, pn, pe]] w fun e w' => e = .returned (.tuple #[]) ∧ DocS w0 bb B nm dir w' (blkL p S L) ∧ KeepD w w'
set_option maxHeartbeats 8000000 in
set_option maxRecDepth 100000 in
theorem clustD_of (w0 : World) (bb B nn M k : Nat) (nm' : ByteArray) (dir : Bool) (hM : BlkD w0 bb B nm' dir nn M) (nm : ByteArray) (body : List Stm) (p : Pl) (pn pe : Value) (S : St) (r a b : Option Addr) (Rn An rc ac bc : Nat) (w : World) (hb : DocE w0 bb B nm' dir w S 0) (hpn : AtL w pn p.n) (hpe : AtL w pe p.e)
    (hbd : StmsAt nn w0 b body) (hbl : body.length ≤ maxLen) (hcm : cntL body ≤ M) (hok : okWL body) (hs : Sml (10 * k) k S) (hp : SmP k p) (hk : k + cntL body + 1 ≤ 512) (hn : nm.size ≤ 64) :
    Calls Tryz.prog 80 #[.pointer (some ⟨bb, 0, none⟩), .agg #[.int .i64 5, .string nm, .slice r Rn rc, .slice a An ac, .slice b body.length bc], .agg #[.int .i64 p.c, pn, pe]] w fun e w' => e = .returned (.tuple #[]) ∧ DocS w0 bb B nm' dir w' (clusT p S nm body) ∧ KeepD w w' := by
  obtain ⟨R, hR⟩ : ∃ R, R = clusT p S nm body := ⟨_, rfl⟩
  rw [← hR]
  unfold clusT at hR
  obtain ⟨nv, av, cv, lv, aw, ks, h⟩ := hb
  have hpn0 := hpn; have hpe0 := hpe
  obtain ⟨pna, pnc, rfl, -, -⟩ := hpn
  obtain ⟨pea, pec, rfl, -, -⟩ := hpe
  obtain ⟨PN, hPN⟩ : ∃ n, n = p.n.length := ⟨_, rfl⟩
  obtain ⟨PE, hPE⟩ : ∃ n, n = p.e.length := ⟨_, rfl⟩
  rw [← hPN] at hpn0 ⊢; rw [← hPE] at hpe0 ⊢
  obtain ⟨BL, hBL⟩ : ∃ n, n = body.length := ⟨_, rfl⟩
  have hblk := fun w5 => hM body b bc { p with c := S.C.length } (.slice pna PN pnc) (.slice pea PE pec) { S with C := S.C ++ [(nm, p.c)] } (k + 1) w5 hcm hbd hbl hok (by
    have h4 := hs.mono (m' := 10 * (k + 1)) (k' := k + 1) (by omega) (by omega)
    refine ⟨h4.n, h4.a, ?_, h4.l, h4.at', h4.kt, h4.nn, fun q hq => ?_⟩
    · have := hs.c; simp; omega
    · rcases List.mem_append.1 hq with hq | hq
      · exact h4.cc q hq
      · rw [List.mem_singleton.1 hq]; exact ⟨hn, hp.1, by have := hp.2.1; show p.c ≤ _; omega⟩)
    ⟨by show (-1 : Int) ≤ (S.C.length : Int); omega, by have := hs.c; show (S.C.length : Int) ≤ _; omega, hp.2.2.1.mono (by omega), hp.2.2.2.mono (by omega)⟩ (by omega)
  rw [← hBL] at hblk ⊢
  obtain ⟨w2, hw2⟩ : ∃ w2, w2 = (w.alloc (.cells #[.int .i64 5, .string nm, .slice r Rn rc, .slice a An ac, .slice b BL bc] 56)).alloc (.cells #[.int .i64 p.c, .slice pna PN pnc, .slice pea PE pec] 91) := ⟨_, rfl⟩
  have x2 : Ext w w2 := by rw [hw2]; exact ((Ext.refl _).alloc _).alloc _
  have hs2 : w2.heap[w.heap.size]? = some (.cells #[.int .i64 5, .string nm, .slice r Rn rc, .slice a An ac, .slice b BL bc] 56 (0, 0)) := by rw [hw2]; exact At.heap_ext (heap_alloc_new w _) ((Ext.refl _).alloc _)
  have hp2 : w2.heap[w.heap.size + 1]? = some (.cells #[.int .i64 p.c, .slice pna PN pnc, .slice pea PE pec] 91 (0, 0)) := by
    have h := heap_alloc_new (w.alloc (.cells #[.int .i64 5, .string nm, .slice r Rn rc, .slice a An ac, .slice b BL bc] 56)) (.cells #[.int .i64 p.c, .slice pna PN pnc, .slice pea PE pec] 91)
    rw [World.size_alloc] at h
    rw [hw2]; exact h
  have h2 := h.ext x2
  have hC := hs.c; have hN := hs.n
  have hcl := fun (w5 : World) (x : Ext w2 w5) => clusD_any nm w5 (h2.ext x) (by omega)
  have hnd := fun (w5 : World) (x : Ext w2 w5) => nodeD_any nm w5 (h2.ext x) (by omega)
  obtain ⟨tk, htk⟩ : ∃ t, t = S.taken nm := ⟨_, rfl⟩
  obtain ⟨ix, hix⟩ : ∃ i, i = S.idx nm := ⟨_, rfl⟩
  rw [← htk, ← hix] at hR
  rw [← htk] at hcl
  rw [← hix] at hnd
  have s1 : w2.cell? ⟨w.heap.size, 1, none⟩ = some (.string nm) := by rw [Lib.cell_of_heap hs2]; rfl
  have HR := Lib.hid hR; have HB := Lib.hid h2; have HBK := Lib.hid hblk; have HS2 := Lib.hid hs2; have HP2 := Lib.hid hp2; have HX2 := Lib.hid x2; have HPN := Lib.hid (hpn0.ext x2); have HPE := Lib.hid (hpe0.ext x2); have HW2 := Lib.hid hw2
  have HCL := Lib.hid hcl; have HND := Lib.hid hnd
  have hC2 : S.C.length ≤ 512 := by omega
  clear hR h h2 hblk hs2 hp2 x2 hpn0 hpe0 hw2 hPN hPE htk hix hBL hM hbd hbl hcm hok hs hp hk hC hN hcl hnd
  go_enter Tryz.func80, Tryz.ntmps80
  go_wp2_with fail
  rw [← HW2.out]
  clear HW2
  cases tk with
  | true =>
    have hr : Hid (R = .error 6) := Lib.hid (by rw [HR.out, if_pos (.inr rfl)])
    clear HR HBK HND
    go_wp2_with (go_at_call 122; refine Calls.mono (by with_reducible exact HCL.out _ (Ext.refl _)) ?_; rintro e w3 ⟨rfl, x3⟩; have D3 := Lib.hid (HB.out.ext x3); have d7 := D3.out.cells.2.2.2.2.2.2; have df := D3.out.fz 7)
    go_returns
    rw [hr.out]
    exact ⟨rfl, ⟨by decide, _, _, _, _, _, _, _, (D3.out.setE 6).1⟩, (KeepD.of (HX2.out.trans x3)).trans (D3.out.setE 6).2⟩
  | false =>
    cases ix with
    | some v =>
      have hr : Hid (R = .error 6) := Lib.hid (by rw [HR.out, if_pos (.inl rfl)])
      have HND := HND
      dsimp only [oI] at HND
      have hv0 : (0 : Int) ≤ (v : Int) := by omega
      clear HR HBK
      go_wp2_with (first
        | (go_at_call 122; refine Calls.mono (by with_reducible exact HCL.out _ (Ext.refl _)) ?_; rintro e w3 ⟨rfl, x3⟩; have X3 := Lib.hid x3; have s1' := x3.cell s1)
        | (go_at_call 123; refine Calls.mono (by with_reducible exact HND.out _ X3.out) ?_; rintro e w4 ⟨rfl, x4⟩; have D4 := Lib.hid (HB.out.ext (X3.out.trans x4)); have d7 := D4.out.cells.2.2.2.2.2.2; have df := D4.out.fz 7))
      go_returns
      rw [hr.out]
      exact ⟨rfl, ⟨by decide, _, _, _, _, _, _, _, (D4.out.setE 6).1⟩, (KeepD.of (HX2.out.trans (X3.out.trans x4))).trans (D4.out.setE 6).2⟩
    | none =>
      have hr : Hid (R = blkL { p with c := S.C.length } { S with C := S.C ++ [(nm, p.c)] } body) := Lib.hid (by rw [HR.out, if_neg (by simp)])
      have HND := HND
      dsimp only [oI] at HND
      clear HR
      obtain ⟨ca, cc, rfl, -, -⟩ := row_val HB.out.C
      obtain ⟨j0, hj, hjz0, hjz1, hjz2⟩ := info_parts info_clu
      have hw1 : IntKind.i64.wrap (S.C.length : Int) = (S.C.length : Int) := by rw [IntKind.wrap_i64]; omega
      have hw2 : IntKind.i64.wrap (((S.C.length + 1 : Nat) : Int) - 1) = (S.C.length : Int) := by rw [IntKind.wrap_i64]; omega
      go_wp2_with (first
        | (go_at_call 122; refine Calls.mono (by with_reducible exact HCL.out _ (Ext.refl _)) ?_; rintro e w3 ⟨rfl, x3⟩; have X3 := Lib.hid x3; have s1' := x3.cell s1)
        | (go_at_call 123; refine Calls.mono (by with_reducible exact HND.out _ X3.out) ?_; rintro e w6 ⟨rfl, x6⟩; have X6 := Lib.hid (X3.out.trans x6); have HB6 := Lib.hid (HB.out.ext X6.out); have HS6 := Lib.hid (At.heap_ext HS2.out X6.out); have HP6 := Lib.hid (At.heap_ext HP2.out X6.out); clear x6))
      have c4 := HB6.out.cells.2.2.2.1
      have c4a := fun ob => (HB6.out.ext ((Ext.refl w6).alloc ob)).cells.2.2.2.1
      have t1 : w6.cell? ⟨w.heap.size, 1, none⟩ = some (.string nm) := by rw [Lib.cell_of_heap HS6.out]; rfl
      have t1a := fun ob => ((Ext.refl w6).alloc ob).cell t1
      have p0 : w6.cell? ⟨w.heap.size + 1, 0, none⟩ = some (.int .i64 p.c) := by rw [Lib.cell_of_heap HP6.out]; rfl
      have p0a := fun ob => ((Ext.refl w6).alloc ob).cell p0
      clear s1 s1' x3 X3 HCL HND HS2 HP2
      refine wp_region_K (S := fun w' => w'.cell? ⟨bb, 4, none⟩ = some (.slice ca S.C.length cc) ∧ w'.cell? ⟨w.heap.size, 1, none⟩ = some (.string nm) ∧ w'.cell? ⟨w.heap.size + 1, 0, none⟩ = some (.int .i64 p.c)) (n := 16) (by kernel_rfl) (by exact ⟨Ext.cell ((Ext.refl w6).drew) c4, Ext.cell ((Ext.refl w6).drew) t1, Ext.cell ((Ext.refl w6).drew) p0⟩) (fun hHeld => ?_)
      refine wpAnyK_take (n := 16) (i := 0) (oi := _) (v := ?_) rfl (by kernel_rfl) (by kernel_rfl) (by kernel_rfl) (by kernel_rfl) (fun _ _ _ h => h) (Or.inl ⟨by rfl, ?_⟩) hHeld ?_
      rotate_left
      · (intro w' hSw; (try dsimp only at hSw); go_simp <;> with_reducible rfl)
      (try simp only [Act.put, List.setIfInBounds_toArray, List.set_cons_zero, List.set_cons_succ])
      refine wpAnyK_take (n := 16) (i := 1) (oi := _) (v := ?_) rfl (by kernel_rfl) (by kernel_rfl) (by kernel_rfl) (by kernel_rfl) (fun _ _ _ h => h) (Or.inl ⟨by rfl, ?_⟩) hHeld ?_
      rotate_left
      · (intro w' hSw; (try dsimp only at hSw); go_simp <;> with_reducible rfl)
      (try simp only [Act.put, List.setIfInBounds_toArray, List.set_cons_zero, List.set_cons_succ])
      refine wpAnyK_take (n := 16) (i := 2) (oi := _) (v := ?_) rfl (by kernel_rfl) (by kernel_rfl) (by kernel_rfl) (by kernel_rfl) (fun _ _ _ h => h) (Or.inl ⟨by rfl, ?_⟩) hHeld ?_
      rotate_left
      · (intro w' hSw; (try dsimp only at hSw); go_simp <;> with_reducible rfl)
      (try simp only [Act.put, List.setIfInBounds_toArray, List.set_cons_zero, List.set_cons_succ])
      refine wpAnyK_take (n := 16) (i := 3) (oi := _) (v := ?_) rfl (by kernel_rfl) (by kernel_rfl) (by kernel_rfl) (by kernel_rfl) (fun _ _ _ h => h) (Or.inl ⟨by rfl, ?_⟩) hHeld ?_
      rotate_left
      · (intro w' hSw; (try dsimp only at hSw); go_simp <;> with_reducible rfl)
      (try simp only [Act.put, List.setIfInBounds_toArray, List.set_cons_zero, List.set_cons_succ])
      refine wpAnyK_take (n := 16) (i := 4) (oi := _) (v := ?_) rfl (by kernel_rfl) (by kernel_rfl) (by kernel_rfl) (by kernel_rfl) (fun _ _ _ h => h) (Or.inl ⟨by rfl, ?_⟩) hHeld ?_
      rotate_left
      · (intro w' hSw; (try dsimp only at hSw); go_simp <;> with_reducible rfl)
      (try simp only [Act.put, List.setIfInBounds_toArray, List.set_cons_zero, List.set_cons_succ])
      refine wpAnyK_take (n := 16) (i := 5) (oi := _) (v := ?_) rfl (by kernel_rfl) (by kernel_rfl) (by kernel_rfl) (by kernel_rfl) (fun _ _ _ h => h) (Or.inl ⟨by rfl, ?_⟩) hHeld ?_
      rotate_left
      · (intro w' hSw; (try dsimp only at hSw); go_simp <;> with_reducible rfl)
      (try simp only [Act.put, List.setIfInBounds_toArray, List.set_cons_zero, List.set_cons_succ])
      refine wpAnyK_take (n := 16) (i := 6) (oi := _) (v := ?_) rfl (by kernel_rfl) (by kernel_rfl) (by kernel_rfl) (by kernel_rfl) (fun _ _ _ h => h) (Or.inl ⟨by rfl, ?_⟩) hHeld ?_
      rotate_left
      · (intro w' hSw; (try dsimp only at hSw); go_simp <;> with_reducible rfl)
      (try simp only [Act.put, List.setIfInBounds_toArray, List.set_cons_zero, List.set_cons_succ])
      refine wpAnyK_take (n := 16) (i := 7) (oi := _) (v := ?_) rfl (by kernel_rfl) (by kernel_rfl) (by kernel_rfl) (by kernel_rfl) (fun _ _ _ h => h) (Or.inl ⟨by rfl, ?_⟩) hHeld ?_
      rotate_left
      · (intro w' hSw; (try dsimp only at hSw); go_simp <;> with_reducible rfl)
      (try simp only [Act.put, List.setIfInBounds_toArray, List.set_cons_zero, List.set_cons_succ])
      refine wpAnyK_take (n := 16) (i := 8) (oi := _) (v := ?_) rfl (by kernel_rfl) (by kernel_rfl) (by kernel_rfl) (by kernel_rfl) (fun _ _ _ h => h) (Or.inl ⟨by rfl, ?_⟩) hHeld ?_
      rotate_left
      · (intro w' hSw; (try dsimp only at hSw); go_simp <;> with_reducible rfl)
      (try simp only [Act.put, List.setIfInBounds_toArray, List.set_cons_zero, List.set_cons_succ])
      refine wpAnyK_take (n := 16) (i := 9) (oi := _) (v := ?_) rfl (by kernel_rfl) (by kernel_rfl) (by kernel_rfl) (by kernel_rfl) (fun _ _ _ h => h) (Or.inl ⟨by rfl, ?_⟩) hHeld ?_
      rotate_left
      · (intro w' hSw; (try dsimp only at hSw); go_simp <;> with_reducible rfl)
      (try simp only [Act.put, List.setIfInBounds_toArray, List.set_cons_zero, List.set_cons_succ])
      refine wpAnyK_take (n := 16) (i := 10) (oi := _) (v := ?_) rfl (by kernel_rfl) (by kernel_rfl) (by kernel_rfl) (by kernel_rfl) (fun _ _ _ h => h) (Or.inl ⟨by rfl, ?_⟩) hHeld ?_
      rotate_left
      · (intro w' hSw; (try dsimp only at hSw); go_simp <;> with_reducible rfl)
      (try simp only [Act.put, List.setIfInBounds_toArray, List.set_cons_zero, List.set_cons_succ])
      refine wpAnyK_step (o := _) (i := 11) rfl (by kernel_rfl) (fun KK hKK => ?_)
      go_simp
      refine hKK.out _ _ (fun _ => ?_) (fun hH => ?_)
      · (exact ⟨Ext.cell (((Ext.refl w6).drew).alloc _) c4, Ext.cell (((Ext.refl w6).drew).alloc _) t1, Ext.cell (((Ext.refl w6).drew).alloc _) p0⟩)
      have hHeld2 := hH
      clear hKK KK hHeld hH
      have hHeld := hHeld2 (by decide)
      clear hHeld2
      (try dsimp only at hHeld)
      (try simp only [Act.put, List.setIfInBounds_toArray, List.set_cons_zero, List.set_cons_succ])
      refine wpAnyK_step (o := _) (i := 12) rfl (by kernel_rfl) (fun KK hKK => ?_)
      refine step_append_lies _ (by rfl) _ _ 29 (by rfl) B 42 j0 _ 2 24 Tryz.underlying29 hj hjz0 hjz1 hjz2 rfl (by decide) _ _ _ (by rfl) (At.own_ext HB6.out.C (((Ext.refl w6).drew).alloc _)) ⟨w6.heap.size, 0, none⟩ 1 1 [.string nm, .int .i64 p.c] (by rfl) (by rfl) (World.news_of_block (cs := #[.string nm, .int .i64 p.c]) (t := 42) (fr := (0, 0)) (heap_alloc_new w6.drew _)) (by intro u hu; simp at hu; rcases hu with rfl | rfl <;> rfl) (by omega) (by unfold maxLen; omega) (by omega) (by have := HB6.out.Z; simp; omega) _ rfl ?_
      intro g7 c7 w7 hown1 hgrow hat2 hlt2
      have HB7 := Lib.hid (HB6.out.ext (((Ext.refl w6).drew).alloc (.cells #[.string nm, .int .i64 p.c] 42)))
      have hrt := row_ty HB7.out.C
      have hS7 := cel_keep HB7.out.blk hgrow hrt (nope (by decide))
      have e7 : w7.cell? ⟨bb, 4, none⟩ = some (.slice ca S.C.length cc) := by rw [Lib.cell_of_heap hS7]; rfl
      have f7 : w7.frozen? ⟨bb, 4, none⟩ = false := Lib.frozen_of_heap hS7 4
      have sb7 := cel_keep (At.heap_ext HS6.out (((Ext.refl w6).drew).alloc (.cells #[.string nm, .int .i64 p.c] 42))) hgrow hrt (nope (by decide))
      have pb7 := cel_keep (At.heap_ext HP6.out (((Ext.refl w6).drew).alloc (.cells #[.string nm, .int .i64 p.c] 42))) hgrow hrt (nope (by decide))
      have HS7 := Lib.hid (show w7.cell? ⟨bb, 4, none⟩ = some (.slice ca S.C.length cc) ∧ w7.cell? ⟨w.heap.size, 1, none⟩ = some (.string nm) ∧ w7.cell? ⟨w.heap.size + 1, 0, none⟩ = some (.int .i64 p.c) from ⟨e7, by rw [Lib.cell_of_heap sb7]; rfl, by rw [Lib.cell_of_heap pb7]; rfl⟩)
      have FIN := Lib.hid (HB7.out.appC (nm, p.c) rfl hown1 hgrow)
      clear hown1 hgrow hat2 hlt2 hS7 hrt sb7 pb7
      refine hKK.out _ _ (fun _ => ?_) (fun hH => ?_)
      · (exact HS7.out)
      have hHeld2 := hH
      clear hKK KK hHeld hH
      have hHeld := hHeld2 (by decide)
      clear hHeld2
      (try dsimp only at hHeld)
      (try simp only [Act.put, List.setIfInBounds_toArray, List.set_cons_zero, List.set_cons_succ])
      refine wpAnyK_step (o := _) (i := 13) rfl (by kernel_rfl) (fun KK hKK => ?_)
      go_simp
      refine hKK.out _ _ (fun _ => ?_) (fun hH => ?_)
      · (exact hHeld)
      have hHeld2 := hH
      clear hKK KK hHeld hH
      have hHeld := hHeld2 (by decide)
      clear hHeld2
      (try dsimp only at hHeld)
      (try simp only [Act.put, List.setIfInBounds_toArray, List.set_cons_zero, List.set_cons_succ])
      refine wpAnyK_step (o := _) (i := 14) rfl (by kernel_rfl) (fun KK hKK => ?_)
      go_simp
      refine hKK.out _ _ (fun _ => ?_) (fun hH => ?_)
      · (exact hHeld)
      have hHeld2 := hH
      clear hKK KK hHeld hH
      have hHeld := hHeld2 (by decide)
      clear hHeld2
      (try dsimp only at hHeld)
      (try simp only [Act.put, List.setIfInBounds_toArray, List.set_cons_zero, List.set_cons_succ])
      refine wpAnyK_step (o := _) (i := 15) rfl (by kernel_rfl) (fun KK hKK => ?_)
      go_simp
      refine hKK.out _ _ (fun _ => ?_) (fun hH => ?_)
      · (exact hHeld)
      have hHeld2 := hH
      clear hKK KK hHeld hH
      have hHeld := hHeld2 (by decide)
      clear hHeld2
      (try dsimp only at hHeld)
      (try simp only [Act.put, List.setIfInBounds_toArray, List.set_cons_zero, List.set_cons_succ])
      refine wpAnyK_step (o := _) (i := 16) rfl (by kernel_rfl) (fun KK hKK => ?_)
      go_simp
      refine hKK.out _ _ (fun h => absurd rfl h) (fun _ => ?_)
      clear hKK KK
      (try simp only [Act.put, List.setIfInBounds_toArray, List.set_cons_zero, List.set_cons_succ])
      refine wpAnyK_done (by kernel_rfl) ?_ _
      simp only [Exit.then]
      have HPN6 := Lib.hid ((((KeepD.of (X6.out.trans (((Ext.refl w6).drew).alloc (.cells #[.string nm, .int .i64 p.c] 42))))).trans FIN.out.2).atL HPN.out)
      have HPE6 := Lib.hid ((((KeepD.of (X6.out.trans (((Ext.refl w6).drew).alloc (.cells #[.string nm, .int .i64 p.c] 42))))).trans FIN.out.2).atL HPE.out)
      have HK8 := Lib.hid ((KeepD.of (HX2.out.trans (X6.out.trans (((Ext.refl w6).drew).alloc (.cells #[.string nm, .int .i64 p.c] 42))))).trans FIN.out.2)
      have HKS := Lib.hid ((KeepD.of (((Ext.refl w6).drew).alloc (.cells #[.string nm, .int .i64 p.c] 42))).trans FIN.out.2)
      have HS8 := Lib.hid (HKS.out.blk _ _ _ _ HS6.out (by decide) (by decide) (by decide) (by decide) (by decide))
      have HP8 := Lib.hid (HKS.out.blk _ _ _ _ HP6.out (by decide) (by decide) (by decide) (by decide) (by decide))
      have HD8 := Lib.hid FIN.out.1
      obtain ⟨w8, hw8⟩ : ∃ w8, w8 = w7.setCell ⟨bb, 4, none⟩ (.slice (some ⟨g7, 0, none⟩) (S.C.length + 1) c7) := ⟨_, rfl⟩
      rw [← hw8] at HPN6 HPE6 HK8 HS8 HP8 HD8 ⊢
      clear hw8 FIN HS7 e7 f7 c4 c4a t1 t1a p0 p0a HB7 HB6 HS6 HP6 HKS hHeld
      have k4 := HD8.out.cells.2.2.2.1
      have z4 : w8.cell? ⟨w.heap.size, 4, none⟩ = some (.slice b BL bc) := by rw [Lib.cell_of_heap HS8.out]; rfl
      have z1 : w8.cell? ⟨w.heap.size + 1, 1, none⟩ = some (.slice pna PN pnc) := by rw [Lib.cell_of_heap HP8.out]; rfl
      have z2 : w8.cell? ⟨w.heap.size + 1, 2, none⟩ = some (.slice pea PE pec) := by rw [Lib.cell_of_heap HP8.out]; rfl
      have hblk := fun (w9 : World) (x : Ext w8 w9) => HBK.out w9 ⟨_, _, _, _, _, _, HD8.out.ext x⟩ (HPN6.out.ext x) (HPE6.out.ext x)
      have HBK8 := Lib.hid hblk
      clear hblk HBK
      go_wp2_with fail
      go_region_law (go_simp; go_at_call 32; refine Calls.mono (by with_reducible exact HBK8.out _ (by first | exact (Ext.refl _).drew | exact Ext.refl _)) ?_; rintro e w10 ⟨rfl, hds, k10⟩)
      all_goals go_wp2
      all_goals go_returns
      all_goals rw [hr.out]
      all_goals first
        | exact ⟨rfl, hds, (HK8.out.ext (Ext.refl _).drew).trans k10⟩
        | exact ⟨rfl, hds, HK8.out.trans k10⟩
end Go.Proofs.YtnancphlkbfglaaGreatDoor.Nm
