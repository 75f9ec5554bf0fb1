/- Packed texts: TreVisC, TreAttrs -/
import Derived.Test.YtmallladeidkpaaGreatDoorPw16
import Derived.Test.YtmallladeidkpaaGreatDoorPw03
set_option linter.unusedVariables false
set_option linter.unusedSimpArgs false
/- Walking a tree: visit with the closure of Count. -/
namespace Go.Proofs.YtmallladeidkpaaGreatDoor.Tr
open Go.RowKit Go.Sort Go.Lib Go.Shelf Fx Lx

set_option maxHeartbeats 4000000 in
theorem closC_any (kind : Int) (nm : ByteArray) (r a b : Option Addr) (R A B rc ac bc : Nat) (lev : Int) (acc : Int) (c : Nat) (T : TypeId) (w : World) (h : w.heap[c]? = some (.cells #[.int .i64 acc] T (0, 0))) :
    Calls Tryz.prog 54 #[.agg #[.int .i64 kind, .string nm, .slice r R rc, .slice a A ac, .slice b B bc], .int .i64 lev, .pointer (some ⟨c, 0, none⟩)] w fun e w' => e = .returned (.bool true) ∧ w'.heap[c]? = some (.cells #[.int .i64 (wrap64 (acc + 1))] T (0, 0)) ∧ But c w w' := by
  have hcw : c < w.heap.size := (Array.getElem?_eq_some_iff.1 h).1
  have h1 : ∀ o, (w.alloc o).heap[c]? = some (.cells #[.int .i64 acc] T (0, 0)) := fun o => (Lib.alloc_old w o c hcw).trans h
  have hc : ∀ o, (w.alloc o).cell? ⟨c, 0, none⟩ = some (.int .i64 acc) := fun o => by rw [Lib.cell_of_heap (h1 o)]; rfl
  have hf : ∀ o, (w.alloc o).frozen? ⟨c, 0, none⟩ = false := fun o => Lib.frozen_of_heap (h1 o) 0
  have H1 := Lib.hid h1
  clear h1 h hcw
  go_enter Tryz.func54, Tryz.ntmps54
  go_wp2
  go_ret
  exact ⟨rfl, setOne (H1.out _) 0 _, ((But.refl c w).alloc _).setCell ⟨c, 0, none⟩ rfl _⟩
set_option maxHeartbeats 4000000 in
set_option maxRecDepth 100000 in
theorem visitC_any : ∀ (M : Nat) (L : List Stm) (b : Option Addr) (cap lev : Nat) (acc : Int) (n c : Nat) (w : World), sizeL L ≤ M → M ≤ maxLen → lev + M ≤ 9223372036854775806 → StmsAt n w b L → n ≤ c → w.heap[c]? = some (.cells #[.int .i64 acc] 3 (0, 0)) →
    Calls Tryz.prog 39 #[.slice b L.length cap, .int .i64 lev, .func (.func 54) #[] #[.pointer (some ⟨c, 0, none⟩)]] w fun e w' => e = .returned (.bool (runA stepC acc (flatL lev L)).2) ∧ w'.heap[c]? = some (.cells #[.int .i64 (runA stepC acc (flatL lev L)).1] 3 (0, 0)) ∧ But c w w' := by
  intro M
  induction M using Nat.strongRecOn with
  | _ M ih =>
  intro L b cap lev acc n c w hM hmax hlev h hnc hc
  obtain ⟨V, hV⟩ : ∃ V, V = runA stepC acc (flatL lev L) := ⟨_, rfl⟩
  rw [← hV]
  have HV : Hid (V = runA stepC acc (flatL lev (L.drop 0))) := Lib.hid hV
  obtain ⟨N, hN⟩ : ∃ N, N = L.length := ⟨_, rfl⟩
  have hNM : N ≤ 9223372036854775807 := by have := sizeL_len L; unfold maxLen at hmax; omega
  have hl1 : lev ≤ 9223372036854775806 := by omega
  rw [← hN]
  have HN := Lib.hid hN; have HI := Lib.hid h; have HM := Lib.hid hM; have HIH := Lib.hid ih; have HMX := Lib.hid hmax; have HLV := Lib.hid hlev
  have HCW : Hid (c < w.heap.size) := Lib.hid (Array.getElem?_eq_some_iff.1 hc).1
  have HNC := Lib.hid hnc
  have HC0 := Lib.hid hc
  clear hV hN h hM ih hmax hlev hnc hc
  go_enter Tryz.func39, Tryz.ntmps39
  go_wp2
  go_loopw [12] (fun i' wr => ∃ (k : Nat) (ac : Int), k ≤ N ∧ i' = .int .i64 k ∧ But c w wr ∧ Hid (wr.heap[c]? = some (.cells #[.int .i64 ac] 3 (0, 0))) ∧ Hid (V = runA stepC ac (flatL lev (L.drop k)))) (fun i' _ => N - (RowKit.intOf i').toNat)
  case atStart => exact ⟨0, acc, by omega, rfl, But.refl _ _, HC0, HV⟩
  case round =>
    obtain ⟨k, ac, hk, rfl, hx, hcc, hb⟩ := hrel
    clear HV HC0
    by_cases hlt : k < N
    · have hkl : k < L.length := by rw [← HN.out]; exact hlt
      have hin := StmsAt.below (hx.below HNC.out (by have := HCW.out; have := HNC.out; omega)) L HI.out
      obtain ⟨g, o, rfl, hg, hst⟩ := StmsAt.at L hin k hkl
      have hsz : sizeS L[k] ≤ M := Nat.le_trans (sizeL_at L k hkl) HM.out
      have hbb := hb.out
      rw [List.drop_eq_getElem_cons hkl, flatL_cons] at hbb
      obtain ⟨s, hs⟩ : ∃ s, s = L[k] := ⟨_, rfl⟩
      rw [← hs] at hst hsz hbb
      clear hs hb hin
      obtain ⟨kind, nm, rs, al, body⟩ := s
      have hbd := sizeS_body (.mk kind nm rs al body)
      simp only [Stm.body, Stm.name, Stm.refs, Stm.attrs] at hbd
      rw [flatS_mk, List.cons_append, runA, runA_app] at hbb
      rw [StmAt] at hst
      obtain ⟨r, rc, a, atc, b', bc, c0, c1, c2, c3, c4, hr, ha, hbs, hl1', hl2, hl3, hl4, hl5⟩ := hst
      have hwl : c < wr.heap.size := Nat.lt_of_lt_of_le HCW.out hx.size
      have hne : wr.heap.size ≠ c := by omega
      have hxa : Ext wr (wr.alloc (.cells #[.int .i64 kind, .string nm, .slice r rs.length rc, .slice a al.length atc, .slice b' body.length bc] 44)) := (Ext.refl _).alloc _
      have hcl := stm_cells wr kind nm r a b' rs.length al.length body.length rc atc bc
      have hcc2 := (hxa.block c hwl).trans hcc.out
      have hclo := closC_any kind nm r a b' rs.length al.length body.length rc atc bc lev ac c 3 (wr.alloc (.cells #[.int .i64 kind, .string nm, .slice r rs.length rc, .slice a al.length atc, .slice b' body.length bc] 44)) hcc2
      replace hclo : Calls Tryz.prog 54 #[.agg #[.int .i64 kind, .string nm, .slice r rs.length rc, .slice a al.length atc, .slice b' body.length bc], .int .i64 lev, .pointer (some ⟨c, 0, none⟩)] (wr.alloc (.cells #[.int .i64 kind, .string nm, .slice r rs.length rc, .slice a al.length atc, .slice b' body.length bc] 44)) fun e w' => e = .returned (.bool (stepC ac (.mk kind nm rs al body, lev)).2) ∧ w'.heap[c]? = some (.cells #[.int .i64 (stepC ac (.mk kind nm rs al body, lev)).1] 3 (0, 0)) ∧ But c (wr.alloc (.cells #[.int .i64 kind, .string nm, .slice r rs.length rc, .slice a al.length atc, .slice b' body.length bc] 44)) w' := hclo
      have hrec : ∀ w1 acc1, But c wr w1 → w1.heap[c]? = some (.cells #[.int .i64 acc1] 3 (0, 0)) →
          Calls Tryz.prog 39 #[.slice b' body.length bc, .int .i64 (if kind = 5 then (lev : Int) + 1 else lev), .func (.func 54) #[] #[.pointer (some ⟨c, 0, none⟩)]] w1 fun e w' => e = .returned (.bool (runA stepC acc1 (flatL (if kind = 5 then lev + 1 else lev) body)).2) ∧ w'.heap[c]? = some (.cells #[.int .i64 (runA stepC acc1 (flatL (if kind = 5 then lev + 1 else lev) body)).1] 3 (0, 0)) ∧ But c w1 w' := fun w1 acc1 x1 h1 => by
        have hcast : (if kind = 5 then (lev : Int) + 1 else lev) = ((if kind = 5 then lev + 1 else lev : Nat) : Int) := by split <;> simp
        rw [hcast]
        exact HIH.out (sizeL body) (by omega) body b' bc _ acc1 n c w1 (Nat.le_refl _) (by have := HMX.out; omega) (by have := HLV.out; split <;> omega) (StmsAt.below (x1.below HNC.out (by have := HNC.out; omega)) body hbs) HNC.out h1
      have hx' : But c w (wr.alloc (.cells #[.int .i64 kind, .string nm, .slice r rs.length rc, .slice a al.length atc, .slice b' body.length bc] 44)) := hx.alloc _
      obtain ⟨fl, hfl⟩ : ∃ fl, fl = flatL (if kind = 5 then lev + 1 else lev) body := ⟨_, rfl⟩
      rw [← hfl] at hrec hbb
      obtain ⟨p, q, hpq⟩ : ∃ p q, stepC ac (.mk kind nm rs al body, lev) = (p, q) := ⟨_, _, rfl⟩
      rw [hpq] at hclo hbb
      obtain ⟨u, v, huv⟩ : ∃ u v, runA stepC p fl = (u, v) := ⟨_, _, rfl⟩
      have hrec' := fun w1 => hrec w1 p
      rw [huv] at hrec' hbb
      dsimp only at hclo hbb hrec'
      have HCLO := Lib.hid hclo; have HREC := Lib.hid hrec'; have HCL := Lib.hid hcl
      clear hclo hrec hrec' hcl hr ha hbs hl1' hl2 hl3 hl4 hl5 hbd hsz hpq huv hfl hcc2 hcc hg hwl
      have HXA := Lib.hid hxa
      have HNE := Lib.hid hne
      clear hxa hne
      generalize rs.length = R at *
      generalize al.length = A at *
      generalize body.length = B at *
      cases q
      · rw [if_neg (by decide)] at hbb
        have hf := Lib.hid hbb
        clear hbb
        go_wp2_with (go_at_call 54; refine HCLO.out.mono ?_; rintro e w1 ⟨rfl, h1, x1⟩; replace h1 := Lib.hid h1)
        go_returns
        rw [hf.out]
        exact ⟨rfl, h1.out, hx'.trans x1⟩
      rw [if_pos rfl] at hbb
      by_cases h5 : kind = 5
      · subst h5
        rw [if_pos rfl] at HREC
        cases v
        · rw [if_neg (by decide)] at hbb
          have hf := Lib.hid hbb
          clear hbb
          go_wp2_with (first | (go_at_call 54; refine HCLO.out.mono ?_; rintro e w1 ⟨rfl, h1, x1⟩; replace h1 := Lib.hid h1; have k0 := x1.cell (p := ⟨wr.heap.size, 0, none⟩) HNE.out (HCL.out _ (Ext.refl _)).1; have k4 := x1.cell (p := ⟨wr.heap.size, 4, none⟩) HNE.out (HCL.out _ (Ext.refl _)).2.2.2.2) | (go_at_call 39; refine (HREC.out _ ((But.of HXA.out).trans x1) h1.out).mono ?_; rintro e w2 ⟨rfl, h2, x2⟩; replace h2 := Lib.hid h2))
          go_returns
          rw [hf.out]
          exact ⟨rfl, h2.out, (hx'.trans x1).trans x2⟩
        · rw [if_pos rfl] at hbb
          have hf := Lib.hid hbb
          clear hbb
          go_wp2_with (first | (go_at_call 54; refine HCLO.out.mono ?_; rintro e w1 ⟨rfl, h1, x1⟩; replace h1 := Lib.hid h1; have k0 := x1.cell (p := ⟨wr.heap.size, 0, none⟩) HNE.out (HCL.out _ (Ext.refl _)).1; have k4 := x1.cell (p := ⟨wr.heap.size, 4, none⟩) HNE.out (HCL.out _ (Ext.refl _)).2.2.2.2) | (go_at_call 39; refine (HREC.out _ ((But.of HXA.out).trans x1) h1.out).mono ?_; rintro e w2 ⟨rfl, h2, x2⟩; replace h2 := Lib.hid h2))
          go_roundw
          case rel => exact ⟨k + 1, u, by omega, by go_num, (hx'.trans x1).trans x2, h2, hf⟩
          case measure => simp [RowKit.intOf]; omega
      · obtain ⟨f5, f5'⟩ := ne_facts h5
        rw [if_neg h5] at HREC
        clear h5
        cases v
        · rw [if_neg (by decide)] at hbb
          have hf := Lib.hid hbb
          clear hbb
          go_wp2_with (first | (go_at_call 54; refine HCLO.out.mono ?_; rintro e w1 ⟨rfl, h1, x1⟩; replace h1 := Lib.hid h1; have k0 := x1.cell (p := ⟨wr.heap.size, 0, none⟩) HNE.out (HCL.out _ (Ext.refl _)).1; have k4 := x1.cell (p := ⟨wr.heap.size, 4, none⟩) HNE.out (HCL.out _ (Ext.refl _)).2.2.2.2) | (go_at_call 39; refine (HREC.out _ ((But.of HXA.out).trans x1) h1.out).mono ?_; rintro e w2 ⟨rfl, h2, x2⟩; replace h2 := Lib.hid h2))
          go_returns
          rw [hf.out]
          exact ⟨rfl, h2.out, (hx'.trans x1).trans x2⟩
        · rw [if_pos rfl] at hbb
          have hf := Lib.hid hbb
          clear hbb
          go_wp2_with (first | (go_at_call 54; refine HCLO.out.mono ?_; rintro e w1 ⟨rfl, h1, x1⟩; replace h1 := Lib.hid h1; have k0 := x1.cell (p := ⟨wr.heap.size, 0, none⟩) HNE.out (HCL.out _ (Ext.refl _)).1; have k4 := x1.cell (p := ⟨wr.heap.size, 4, none⟩) HNE.out (HCL.out _ (Ext.refl _)).2.2.2.2) | (go_at_call 39; refine (HREC.out _ ((But.of HXA.out).trans x1) h1.out).mono ?_; rintro e w2 ⟨rfl, h2, x2⟩; replace h2 := Lib.hid h2))
          go_roundw
          case rel => exact ⟨k + 1, u, by omega, by go_num, (hx'.trans x1).trans x2, h2, hf⟩
          case measure => simp [RowKit.intOf]; omega
    · have hf : Hid (V = (ac, true)) := Lib.hid (by rw [hb.out, List.drop_eq_nil_of_le (by rw [← HN.out]; omega), flatL_nil]; rfl)
      clear hb
      go_wp2
      go_returns
      rw [hf.out]
      exact ⟨rfl, hcc.out, hx⟩
end Go.Proofs.YtmallladeidkpaaGreatDoor.Tr

/- What the tree's attrs returns. -/
namespace Go.Proofs.YtmallladeidkpaaGreatDoor.Tr
open Go.RowKit Go.Sort Go.Lib Go.Shelf Fx Lx

theorem atr_cells (w : World) (k v : ByteArray) : ∀ w1, Ext (w.alloc (.cells #[.string k, .string v] 61)) w1 →
    w1.cell? ⟨w.heap.size, 0, none⟩ = some (.string k) ∧ w1.cell? ⟨w.heap.size, 1, none⟩ = some (.string v) := fun w1 x => by
  have hb := heap_alloc_new w (.cells #[.string k, .string v] 61)
  refine ⟨x.cell ?_, x.cell ?_⟩ <;> rw [Lib.cell_of_heap hb] <;> rfl
theorem attrsGo_cons (kind : Int) (q : Two) (r done : List Two) : attrsGo kind (q :: r) done =
    if kind ≠ 4 ∧ nameB q.1.data.toList = false then 5 else if hasA done q.1 = true then 6 else if 32 < q.2.size then 2 else if q.2.data.toList.all okT = false then 7 else attrsGo kind r (done ++ [q]) := by
  rw [attrsGo]; rfl
set_option maxHeartbeats 4000000 in
set_option maxRecDepth 100000 in
theorem attrs_name (kind : Int) (nm : ByteArray) (r a b : Option Addr) (R B rc ac bc : Nat) (al : List Two) (w : World) (hkd : kind ≠ 4) (h : TwoIn w a al) (hcap : al.length ≤ ac) (hs : ∀ q ∈ al, q.1.size ≤ 9223372036854775807 ∧ q.2.size ≤ 9223372036854775807) (h16 : al.length ≤ 16) :
    Calls Tryz.prog 57 #[.agg #[.int .i64 kind, .string nm, .slice r R rc, .slice a al.length ac, .slice b B bc]] w fun e w' => e = .returned (.int .i64 (attrsGo kind al [])) ∧ Ext w w' := by
  obtain ⟨V, hV⟩ : ∃ V, V = attrsGo kind al [] := ⟨_, rfl⟩
  rw [← hV]
  have HV : Hid (V = attrsGo kind (al.drop 0) (al.take 0)) := Lib.hid hV
  obtain ⟨f4, f4'⟩ := ne_facts hkd
  have HKD := Lib.hid hkd
  obtain ⟨N, hN⟩ : ∃ N, N = al.length := ⟨_, rfl⟩
  have hx0 : Ext w (w.alloc (.cells #[.int .i64 kind, .string nm, .slice r R rc, .slice a al.length ac, .slice b B bc] 44)) := (Ext.refl _).alloc _
  have hcl := stm_cells w kind nm r a b R al.length B rc ac bc
  rw [← hN] at h16 hcap hcl hx0 ⊢
  have HCL := Lib.hid hcl
  have HN := Lib.hid hN; have HI := Lib.hid h; have HS := Lib.hid hs
  clear hV hN h hs hcl hkd
  go_enter Tryz.func57, Tryz.ntmps57
  go_wp2
  go_loopw [13] (fun i' wr => ∃ k : Nat, k ≤ N ∧ i' = .int .i64 k ∧ Ext (w.alloc (.cells #[.int .i64 kind, .string nm, .slice r R rc, .slice a N ac, .slice b B bc] 44)) wr ∧ Hid (V = attrsGo kind (al.drop k) (al.take k))) (fun i' _ => N - (RowKit.intOf i').toNat)
  case atStart => exact ⟨0, by omega, rfl, Ext.refl _, HV⟩
  case round =>
    obtain ⟨k, hk, rfl, hx, ha⟩ := hrel
    clear HV
    by_cases hlt : k < N
    · have hkl : k < al.length := by rw [← HN.out]; exact hlt
      have hin := HI.out.ext (hx0.trans hx)
      obtain ⟨g, o, rfl, c0, c1⟩ := hin k hkl
      obtain ⟨n, d, hq⟩ : ∃ n d, al[k] = (n, d) := ⟨_, _, rfl⟩
      rw [hq] at c0 c1
      have hst := ha.out
      rw [List.drop_eq_getElem_cons hkl, attrsGo_cons, hq] at hst
      have htk : al.take k ++ [(n, d)] = al.take (k + 1) := by rw [List.take_succ_eq_append_getElem hkl, hq]
      rw [htk] at hst
      dsimp only at hst
      have hds : n.size ≤ 9223372036854775807 ∧ d.size ≤ 9223372036854775807 := by have h := HS.out _ (List.getElem_mem hkl); rw [hq] at h; exact h
      have hxb : Ext wr (wr.alloc (.cells #[.string n, .string d] 61)) := (Ext.refl _).alloc _
      have hlk : (al.take k).length = k := by rw [List.length_take]; omega
      have s0 := (HCL.out wr hx).1; have s3 := (HCL.out wr hx).2.2.2.1
      have t0 := (HCL.out _ (hx.trans hxb)).1; have t3 := (HCL.out _ (hx.trans hxb)).2.2.2.1
      have hnm := fun w => isName_any n hds.1 w
      have hge : Calls Tryz.prog 71 #[.slice (some ⟨g, o, none⟩) k ac, .func (.func 72) #[] #[.pointer (some ⟨wr.heap.size, 0, none⟩)]] (wr.alloc (.cells #[.string n, .string d] 61)) fun e w' => e = .returned (.bool (hasA (al.take k) n)) ∧ Ext (wr.alloc (.cells #[.string n, .string d] 61)) w' := by
        have hi2 : TwoIn (wr.alloc (.cells #[.string n, .string d] 61)) (some ⟨g, o, none⟩) (al.take k) := fun j hj => by
          have hj2 : j < al.length := by rw [hlk] at hj; omega
          obtain ⟨g', o', e1, d0, d1⟩ := (hin.ext hxb) j hj2
          rw [List.getElem_take]
          exact ⟨g', o', e1, d0, d1⟩
        have h := hasA_any (some ⟨g, o, none⟩) (al.take k) ac n ⟨wr.heap.size, 0, none⟩ _ hi2 (atr_cells wr n d _ (Ext.refl _)).1 (by rw [hlk]; omega)
        rw [hlk] at h
        exact h
      have hat := atr_cells wr n d
      have hdz := hds.2
      generalize nameB n.data.toList = p at hst hnm
      generalize hasA (al.take k) n = t at hst hge
      obtain ⟨q, hq'⟩ : ∃ q, q = d.data.toList.all okT := ⟨_, rfl⟩
      rw [← hq'] at hst
      have HQ : Hid (q = (d.data.toList.drop 0).all okT) := Lib.hid (by rw [List.drop_zero]; exact hq')
      have HGE := Lib.hid hge; have HNM := Lib.hid hnm; have HAT := Lib.hid hat
      clear hge htk hq ha hds hlk hin hat hnm hq'
      cases p
      · rw [if_pos ⟨HKD.out, rfl⟩] at hst
        have hf := Lib.hid hst
        clear hst
        go_wp2_with (first | (go_at_call 37; refine (HNM.out _).mono ?_; rintro e w3 ⟨rfl, rfl⟩) | (go_at_call 71; refine HGE.out.mono ?_; rintro e w3 ⟨rfl, x3⟩; have e0 := (HAT.out _ x3).1; have e1 := (HAT.out _ x3).2; have u0 := (HCL.out _ ((hx.trans hxb).trans x3)).1; have u3 := (HCL.out _ ((hx.trans hxb).trans x3)).2.2.2.1))
        go_returns
        exact ⟨by rw [hf.out]; rfl, (hx0.trans hx).trans hxb⟩
      rw [if_neg (fun h => absurd h.2 (by decide))] at hst
      cases t
      · rw [if_neg (by decide)] at hst
        by_cases h32 : 32 < d.size
        · rw [if_pos h32] at hst
          have hf := Lib.hid hst
          have g1 : decide ((32 : Int) < d.size) = true := decide_eq_true (by omega)
          clear hst
          go_wp2_with (first | (go_at_call 37; refine (HNM.out _).mono ?_; rintro e w3 ⟨rfl, rfl⟩) | (go_at_call 71; refine HGE.out.mono ?_; rintro e w3 ⟨rfl, x3⟩; have e0 := (HAT.out _ x3).1; have e1 := (HAT.out _ x3).2; have u0 := (HCL.out _ ((hx.trans hxb).trans x3)).1; have u3 := (HCL.out _ ((hx.trans hxb).trans x3)).2.2.2.1))
          go_returns
          exact ⟨by rw [hf.out]; rfl, ((hx0.trans hx).trans hxb).trans x3⟩
        · rw [if_neg h32] at hst
          have g1 : decide ((32 : Int) < d.size) = false := decide_eq_false (by omega)
          have HST := Lib.hid hst
          clear hst
          go_wp2_with (first | (go_at_call 37; refine (HNM.out _).mono ?_; rintro e w3 ⟨rfl, rfl⟩) | (go_at_call 71; refine HGE.out.mono ?_; rintro e w3 ⟨rfl, x3⟩; have e0 := (HAT.out _ x3).1; have e1 := (HAT.out _ x3).2; have u0 := (HCL.out _ ((hx.trans hxb).trans x3)).1; have u3 := (HCL.out _ ((hx.trans hxb).trans x3)).2.2.2.1))
          go_loop [43] (fun j' => ∃ j : Nat, j ≤ d.size ∧ j' = .int .i64 j ∧ Hid (q = (d.data.toList.drop j).all okT)) (fun j' => d.size - (RowKit.intOf j').toNat)
          case atStart => exact ⟨0, by omega, rfl, HQ⟩
          case round =>
            obtain ⟨j, hj, rfl, hb⟩ := hrel
            clear HQ
            by_cases hjd : j < d.size
            · have hb' := hb.out
              have hd : d.data.toList.drop j = d[j] :: d.data.toList.drop (j + 1) := by
                rw [List.drop_eq_getElem_cons (by rw [← size_len]; exact hjd)]; rfl
              rw [hd, List.all_cons] at hb'
              clear hb hd
              by_cases k1 : 32 ≤ d[j].toNat
              · by_cases k2 : d[j].toNat ≤ 126
                · have hf : Hid (q = (d.data.toList.drop (j + 1)).all okT) := Lib.hid (by
                    rw [hb']; unfold okT; rw [decide_eq_true k1, decide_eq_true k2]; rfl)
                  have g2 : decide ((126 : Int) < d[j].toNat) = false := decide_eq_false (by omega)
                  have g3 : decide ((d[j].toNat : Int) < 32) = false := decide_eq_false (by omega)
                  clear hb'
                  go_wp2
                  go_round
                  case rel => exact ⟨j + 1, by omega, by go_num, hf⟩
                  case measure => simp [RowKit.intOf]; omega
                · have hf : Hid (q = false) := Lib.hid (by
                    rw [hb']; unfold okT; rw [decide_eq_false k2]; simp)
                  have g2 : decide ((126 : Int) < d[j].toNat) = true := decide_eq_true (by omega)
                  have g3 : decide ((d[j].toNat : Int) < 32) = false := decide_eq_false (by omega)
                  clear hb'
                  go_wp2
                  go_returns
                  exact ⟨ret_int (by rw [HST.out, hf.out]; rfl), ((hx0.trans hx).trans hxb).trans x3⟩
              · have hf : Hid (q = false) := Lib.hid (by
                  rw [hb']; unfold okT; rw [decide_eq_false k1]; simp)
                have g3 : decide ((d[j].toNat : Int) < 32) = true := decide_eq_true (by omega)
                clear hb'
                go_wp2
                go_returns
                exact ⟨ret_int (by rw [HST.out, hf.out]; rfl), ((hx0.trans hx).trans hxb).trans x3⟩
            · have hf : Hid (V = attrsGo kind (al.drop (k + 1)) (al.take (k + 1))) := Lib.hid (by
                rw [HST.out, hb.out, List.drop_eq_nil_of_le (by rw [← size_len]; omega)]; rfl)
              clear hb
              go_wp2
              go_roundw
              case rel => exact ⟨k + 1, by omega, by go_num, (hx.trans hxb).trans x3, hf⟩
              case measure => simp [RowKit.intOf]; omega
      · rw [if_pos rfl] at hst
        have hf := Lib.hid hst
        clear hst
        go_wp2_with (first | (go_at_call 37; refine (HNM.out _).mono ?_; rintro e w3 ⟨rfl, rfl⟩) | (go_at_call 71; refine HGE.out.mono ?_; rintro e w3 ⟨rfl, x3⟩; have e0 := (HAT.out _ x3).1; have e1 := (HAT.out _ x3).2; have u0 := (HCL.out _ ((hx.trans hxb).trans x3)).1; have u3 := (HCL.out _ ((hx.trans hxb).trans x3)).2.2.2.1))
        go_returns
        exact ⟨by rw [hf.out]; rfl, ((hx0.trans hx).trans hxb).trans x3⟩
    · have hf : Hid (V = 0) := Lib.hid (by rw [ha.out, List.drop_eq_nil_of_le (by rw [← HN.out]; omega)]; rfl)
      clear ha
      go_wp2
      go_returns
      exact ⟨by rw [hf.out]; rfl, hx0.trans hx⟩
set_option maxHeartbeats 4000000 in
set_option maxRecDepth 100000 in
theorem attrs_four (kind : Int) (nm : ByteArray) (r a b : Option Addr) (R B rc ac bc : Nat) (al : List Two) (w : World) (hkd : kind = 4) (h : TwoIn w a al) (hcap : al.length ≤ ac) (hs : ∀ q ∈ al, q.1.size ≤ 9223372036854775807 ∧ q.2.size ≤ 9223372036854775807) (h16 : al.length ≤ 16) :
    Calls Tryz.prog 57 #[.agg #[.int .i64 kind, .string nm, .slice r R rc, .slice a al.length ac, .slice b B bc]] w fun e w' => e = .returned (.int .i64 (attrsGo kind al [])) ∧ Ext w w' := by
  obtain ⟨V, hV⟩ : ∃ V, V = attrsGo kind al [] := ⟨_, rfl⟩
  rw [← hV]
  have HV : Hid (V = attrsGo kind (al.drop 0) (al.take 0)) := Lib.hid hV
  obtain ⟨f4, f4'⟩ := eq_facts hkd
  have HKD := Lib.hid hkd
  obtain ⟨N, hN⟩ : ∃ N, N = al.length := ⟨_, rfl⟩
  have hx0 : Ext w (w.alloc (.cells #[.int .i64 kind, .string nm, .slice r R rc, .slice a al.length ac, .slice b B bc] 44)) := (Ext.refl _).alloc _
  have hcl := stm_cells w kind nm r a b R al.length B rc ac bc
  rw [← hN] at h16 hcap hcl hx0 ⊢
  have HCL := Lib.hid hcl
  have HN := Lib.hid hN; have HI := Lib.hid h; have HS := Lib.hid hs
  clear hV hN h hs hcl hkd
  go_enter Tryz.func57, Tryz.ntmps57
  go_wp2
  go_loopw [13] (fun i' wr => ∃ k : Nat, k ≤ N ∧ i' = .int .i64 k ∧ Ext (w.alloc (.cells #[.int .i64 kind, .string nm, .slice r R rc, .slice a N ac, .slice b B bc] 44)) wr ∧ Hid (V = attrsGo kind (al.drop k) (al.take k))) (fun i' _ => N - (RowKit.intOf i').toNat)
  case atStart => exact ⟨0, by omega, rfl, Ext.refl _, HV⟩
  case round =>
    obtain ⟨k, hk, rfl, hx, ha⟩ := hrel
    clear HV
    by_cases hlt : k < N
    · have hkl : k < al.length := by rw [← HN.out]; exact hlt
      have hin := HI.out.ext (hx0.trans hx)
      obtain ⟨g, o, rfl, c0, c1⟩ := hin k hkl
      obtain ⟨n, d, hq⟩ : ∃ n d, al[k] = (n, d) := ⟨_, _, rfl⟩
      rw [hq] at c0 c1
      have hst := ha.out
      rw [List.drop_eq_getElem_cons hkl, attrsGo_cons, hq] at hst
      have htk : al.take k ++ [(n, d)] = al.take (k + 1) := by rw [List.take_succ_eq_append_getElem hkl, hq]
      rw [htk] at hst
      dsimp only at hst
      have hds : n.size ≤ 9223372036854775807 ∧ d.size ≤ 9223372036854775807 := by have h := HS.out _ (List.getElem_mem hkl); rw [hq] at h; exact h
      have hxb : Ext wr (wr.alloc (.cells #[.string n, .string d] 61)) := (Ext.refl _).alloc _
      have hlk : (al.take k).length = k := by rw [List.length_take]; omega
      have s0 := (HCL.out wr hx).1; have s3 := (HCL.out wr hx).2.2.2.1
      have t0 := (HCL.out _ (hx.trans hxb)).1; have t3 := (HCL.out _ (hx.trans hxb)).2.2.2.1
      have hnm := fun w => isName_any n hds.1 w
      have hge : Calls Tryz.prog 71 #[.slice (some ⟨g, o, none⟩) k ac, .func (.func 72) #[] #[.pointer (some ⟨wr.heap.size, 0, none⟩)]] (wr.alloc (.cells #[.string n, .string d] 61)) fun e w' => e = .returned (.bool (hasA (al.take k) n)) ∧ Ext (wr.alloc (.cells #[.string n, .string d] 61)) w' := by
        have hi2 : TwoIn (wr.alloc (.cells #[.string n, .string d] 61)) (some ⟨g, o, none⟩) (al.take k) := fun j hj => by
          have hj2 : j < al.length := by rw [hlk] at hj; omega
          obtain ⟨g', o', e1, d0, d1⟩ := (hin.ext hxb) j hj2
          rw [List.getElem_take]
          exact ⟨g', o', e1, d0, d1⟩
        have h := hasA_any (some ⟨g, o, none⟩) (al.take k) ac n ⟨wr.heap.size, 0, none⟩ _ hi2 (atr_cells wr n d _ (Ext.refl _)).1 (by rw [hlk]; omega)
        rw [hlk] at h
        exact h
      have hat := atr_cells wr n d
      have hdz := hds.2
      generalize nameB n.data.toList = p at hst hnm
      generalize hasA (al.take k) n = t at hst hge
      obtain ⟨q, hq'⟩ : ∃ q, q = d.data.toList.all okT := ⟨_, rfl⟩
      rw [← hq'] at hst
      have HQ : Hid (q = (d.data.toList.drop 0).all okT) := Lib.hid (by rw [List.drop_zero]; exact hq')
      have HGE := Lib.hid hge; have HNM := Lib.hid hnm; have HAT := Lib.hid hat
      clear hge htk hq ha hds hlk hin hat hnm hq'
      rw [if_neg (fun h => absurd HKD.out h.1)] at hst
      clear HNM
      cases t
      · rw [if_neg (by decide)] at hst
        by_cases h32 : 32 < d.size
        · rw [if_pos h32] at hst
          have hf := Lib.hid hst
          have g1 : decide ((32 : Int) < d.size) = true := decide_eq_true (by omega)
          clear hst
          go_wp2_with (first | (go_at_call 37; refine (HNM.out _).mono ?_; rintro e w3 ⟨rfl, rfl⟩) | (go_at_call 71; refine HGE.out.mono ?_; rintro e w3 ⟨rfl, x3⟩; have e0 := (HAT.out _ x3).1; have e1 := (HAT.out _ x3).2; have u0 := (HCL.out _ ((hx.trans hxb).trans x3)).1; have u3 := (HCL.out _ ((hx.trans hxb).trans x3)).2.2.2.1))
          go_returns
          exact ⟨by rw [hf.out]; rfl, ((hx0.trans hx).trans hxb).trans x3⟩
        · rw [if_neg h32] at hst
          have g1 : decide ((32 : Int) < d.size) = false := decide_eq_false (by omega)
          have HST := Lib.hid hst
          clear hst
          go_wp2_with (first | (go_at_call 37; refine (HNM.out _).mono ?_; rintro e w3 ⟨rfl, rfl⟩) | (go_at_call 71; refine HGE.out.mono ?_; rintro e w3 ⟨rfl, x3⟩; have e0 := (HAT.out _ x3).1; have e1 := (HAT.out _ x3).2; have u0 := (HCL.out _ ((hx.trans hxb).trans x3)).1; have u3 := (HCL.out _ ((hx.trans hxb).trans x3)).2.2.2.1))
          go_loop [43] (fun j' => ∃ j : Nat, j ≤ d.size ∧ j' = .int .i64 j ∧ Hid (q = (d.data.toList.drop j).all okT)) (fun j' => d.size - (RowKit.intOf j').toNat)
          case atStart => exact ⟨0, by omega, rfl, HQ⟩
          case round =>
            obtain ⟨j, hj, rfl, hb⟩ := hrel
            clear HQ
            by_cases hjd : j < d.size
            · have hb' := hb.out
              have hd : d.data.toList.drop j = d[j] :: d.data.toList.drop (j + 1) := by
                rw [List.drop_eq_getElem_cons (by rw [← size_len]; exact hjd)]; rfl
              rw [hd, List.all_cons] at hb'
              clear hb hd
              by_cases k1 : 32 ≤ d[j].toNat
              · by_cases k2 : d[j].toNat ≤ 126
                · have hf : Hid (q = (d.data.toList.drop (j + 1)).all okT) := Lib.hid (by
                    rw [hb']; unfold okT; rw [decide_eq_true k1, decide_eq_true k2]; rfl)
                  have g2 : decide ((126 : Int) < d[j].toNat) = false := decide_eq_false (by omega)
                  have g3 : decide ((d[j].toNat : Int) < 32) = false := decide_eq_false (by omega)
                  clear hb'
                  go_wp2
                  go_round
                  case rel => exact ⟨j + 1, by omega, by go_num, hf⟩
                  case measure => simp [RowKit.intOf]; omega
                · have hf : Hid (q = false) := Lib.hid (by
                    rw [hb']; unfold okT; rw [decide_eq_false k2]; simp)
                  have g2 : decide ((126 : Int) < d[j].toNat) = true := decide_eq_true (by omega)
                  have g3 : decide ((d[j].toNat : Int) < 32) = false := decide_eq_false (by omega)
                  clear hb'
                  go_wp2
                  go_returns
                  exact ⟨ret_int (by rw [HST.out, hf.out]; rfl), ((hx0.trans hx).trans hxb).trans x3⟩
              · have hf : Hid (q = false) := Lib.hid (by
                  rw [hb']; unfold okT; rw [decide_eq_false k1]; simp)
                have g3 : decide ((d[j].toNat : Int) < 32) = true := decide_eq_true (by omega)
                clear hb'
                go_wp2
                go_returns
                exact ⟨ret_int (by rw [HST.out, hf.out]; rfl), ((hx0.trans hx).trans hxb).trans x3⟩
            · have hf : Hid (V = attrsGo kind (al.drop (k + 1)) (al.take (k + 1))) := Lib.hid (by
                rw [HST.out, hb.out, List.drop_eq_nil_of_le (by rw [← size_len]; omega)]; rfl)
              clear hb
              go_wp2
              go_roundw
              case rel => exact ⟨k + 1, by omega, by go_num, (hx.trans hxb).trans x3, hf⟩
              case measure => simp [RowKit.intOf]; omega
      · rw [if_pos rfl] at hst
        have hf := Lib.hid hst
        clear hst
        go_wp2_with (first | (go_at_call 37; refine (HNM.out _).mono ?_; rintro e w3 ⟨rfl, rfl⟩) | (go_at_call 71; refine HGE.out.mono ?_; rintro e w3 ⟨rfl, x3⟩; have e0 := (HAT.out _ x3).1; have e1 := (HAT.out _ x3).2; have u0 := (HCL.out _ ((hx.trans hxb).trans x3)).1; have u3 := (HCL.out _ ((hx.trans hxb).trans x3)).2.2.2.1))
        go_returns
        exact ⟨by rw [hf.out]; rfl, ((hx0.trans hx).trans hxb).trans x3⟩
    · have hf : Hid (V = 0) := Lib.hid (by rw [ha.out, List.drop_eq_nil_of_le (by rw [← HN.out]; omega)]; rfl)
      clear ha
      go_wp2
      go_returns
      exact ⟨by rw [hf.out]; rfl, hx0.trans hx⟩
set_option maxHeartbeats 4000000 in
/-- The program's attrs. -/
theorem attrs_any (kind : Int) (nm : ByteArray) (rs al : List Two) (body : List Stm) (r a b : Option Addr) (rc ac bc : Nat) (w : World) (h : TwoIn w a al) (hcap : al.length ≤ ac) (hs : ∀ q ∈ al, q.1.size ≤ 9223372036854775807 ∧ q.2.size ≤ 9223372036854775807) :
    Calls Tryz.prog 57 #[.agg #[.int .i64 kind, .string nm, .slice r rs.length rc, .slice a al.length ac, .slice b body.length bc]] w fun e w' => e = .returned (.int .i64 (attrsE (.mk kind nm rs al body))) ∧ Ext w w' := by
  rw [show attrsE (.mk kind nm rs al body) = if 16 < al.length then 2 else attrsGo kind al [] from rfl]
  by_cases h16 : 16 < al.length
  · rw [if_pos h16]
    have g1 : decide ((16 : Int) < al.length) = true := decide_eq_true (by omega)
    clear h hs hcap h16
    generalize al.length = N at *
    generalize rs.length = R at *
    generalize body.length = B at *
    go_enter Tryz.func57, Tryz.ntmps57
    go_wp2
    go_ret
    exact ⟨rfl, (Ext.refl _).alloc _⟩
  · rw [if_neg h16]
    by_cases h4 : kind = 4
    · exact attrs_four kind nm r a b _ _ rc ac bc al w h4 h hcap hs (by omega)
    · exact attrs_name kind nm r a b _ _ rc ac bc al w h4 h hcap hs (by omega)
end Go.Proofs.YtmallladeidkpaaGreatDoor.Tr
