/- Packed texts: TreStr, TreVisC, TreVisV -/
import Derived.Test.YtnjnfkfmkbnkhaaGreatDoorPa25
import Derived.Test.YtnjnfkfmkbnkhaaGreatDoorPa14
import Derived.Test.YtnjnfkfmkbnkhaaGreatDoorPa23
import Derived.Test.YtnjnfkfmkbnkhaaGreatDoorPa18
set_option linter.unusedVariables false
set_option linter.unusedSimpArgs false
/- The text of the printer's writer. -/
namespace Go.Proofs.YtnjnfkfmkbnkhaaGreatDoor.Tr
open Go.RowKit Go.Sort Go.Lib Go.Shelf Fx Lx

set_option maxHeartbeats 1000000 in
set_option maxRecDepth 100000 in
theorem strOf_any (B b : Nat) (ar : ByteArray) (lev : Int) (l : List UInt8) (w : World) (h : Wr B b ar lev l w) (h0 : l ≠ []) :
    Calls Tryz.prog 23 #[.pointer (some ⟨b, 0, none⟩)] w fun e w' => e = .returned (.string ⟨l.toArray⟩) ∧ Below B w w' := by
  obtain ⟨p, hAt⟩ : ∃ p, WrAt B b p ar lev (Lib.byteCells l) w := by
    rcases h with h | h
    · exact ⟨_, h⟩
    · exact ⟨_, h⟩
  obtain ⟨hB, v, hbk, hown, hne⟩ := hAt
  have hl0 : l.length ≠ 0 := by simpa using h0
  rw [Lib.byteCells_length] at hown
  obtain ⟨g, cap, cur, fz, rfl, hbg, hg, hfz, hnc, hcm, hcs, htake⟩ : ∃ g cap cur fz, v = .slice (some ⟨g, 0, none⟩) l.length cap ∧ B ≤ g ∧ w.heap[g]? = some (.cells cur 5 fz) ∧ fz.2 ≤ l.length * 1 ∧ l.length ≤ cap ∧ cap ≤ maxLen ∧ cur.size = cap * 1 ∧ cur.toList.take (l.length * 1) = Lib.byteCells l := by
    rcases hown.2 with ⟨_, hz⟩ | ⟨g, cap, cur, fz, hv, r⟩
    · exact absurd hz hl0
    · exact ⟨g, cap, cur, fz, hv, r⟩
  have c1 : w.drew.cell? ⟨b, 1, none⟩ = some (.slice (some ⟨g, 0, none⟩) l.length cap) := by
    have : w.drew.heap[b]? = some (.cells #[p, .slice (some ⟨g, 0, none⟩) l.length cap, .string ar, .int .i64 lev] 58 (0, 0)) := hbk
    rw [Lib.cell_of_heap this]; rfl
  have hSD : (Builtin.unsafeSliceData_ #[54] 78 #[.slice (some ⟨g, 0, none⟩) l.length cap]).run Tryz.prog w.drew = .ok (.pointer (some ⟨g, 0, none⟩)) w.drew :=
    Lib.run_unsafeSliceData_row _ _ _ _ _ _ (by omega)
  have hUS : (Builtin.unsafeString_ #[78, 3] 9 #[.pointer (some ⟨g, 0, none⟩), .int .i64 l.length]).run Tryz.prog w.drew = .ok (.string ⟨l.toArray⟩) (w.drew.freeze ⟨g, 0, none⟩ l.length) := by
    refine Lib.run_unsafeString_row w.drew 78 3 9 5 Tryz.underlying78 Tryz.Builder_Extra_169.cellsByte g cur.size (by have hg' : w.drew.heap[g]? = some (.cells cur 5 fz) := hg; simp [World.shape?, hg']) l h0 (by omega) (by unfold maxLen at hcm; omega) ?_
    intro j x hx
    have := hown.cells (g := g) rfl j (.int .u8 x.toNat) (by simp [Lib.byteCells, hx])
    exact this
  have mixed : Tryz.prog.follows Departure.mixedOrders = true := by kernel_rfl
  go_enter Tryz.func23, Tryz.ntmps23
  go_wp2
  go_region_o
  all_goals (go_wp2; go_ret; exact ⟨rfl, Lib.below_freeze (Below.drew (Below.refl B w)) (p := ⟨g, 0, none⟩) hbg _⟩)
end Go.Proofs.YtnjnfkfmkbnkhaaGreatDoor.Tr

/- Walking a tree: visit with the closure of Count. -/
namespace Go.Proofs.YtnjnfkfmkbnkhaaGreatDoor.Tr
open Go.RowKit Go.Sort Go.Lib Go.Shelf Fx Lx

set_option maxHeartbeats 4000000 in
theorem closC_any (kind : Int) (nm : ByteArray) (r a b : Option Addr) (R A B rc ac bc : Nat) (lev : Int) (acc : Int) (c : Nat) (T : TypeId) (w : World) (h : w.heap[c]? = some (.cells #[.int .i64 acc] T (0, 0))) :
    Calls Tryz.prog 64 #[.agg #[.int .i64 kind, .string nm, .slice r R rc, .slice a A ac, .slice b B bc], .int .i64 lev, .pointer (some ⟨c, 0, none⟩)] w fun e w' => e = .returned (.bool true) ∧ w'.heap[c]? = some (.cells #[.int .i64 (wrap64 (acc + 1))] T (0, 0)) ∧ But c w w' := by
  have hcw : c < w.heap.size := (Array.getElem?_eq_some_iff.1 h).1
  have h1 : ∀ o, (w.alloc o).heap[c]? = some (.cells #[.int .i64 acc] T (0, 0)) := fun o => (Lib.alloc_old w o c hcw).trans h
  have hc : ∀ o, (w.alloc o).cell? ⟨c, 0, none⟩ = some (.int .i64 acc) := fun o => by rw [Lib.cell_of_heap (h1 o)]; rfl
  have hf : ∀ o, (w.alloc o).frozen? ⟨c, 0, none⟩ = false := fun o => Lib.frozen_of_heap (h1 o) 0
  have H1 := Lib.hid h1
  clear h1 h hcw
  go_enter Tryz.func64, Tryz.ntmps64
  go_wp2
  go_ret
  exact ⟨rfl, setOne (H1.out _) 0 _, ((But.refl c w).alloc _).setCell ⟨c, 0, none⟩ rfl _⟩
set_option maxHeartbeats 4000000 in
set_option maxRecDepth 100000 in
theorem visitC_any : ∀ (M : Nat) (L : List Stm) (b : Option Addr) (cap lev : Nat) (acc : Int) (n c : Nat) (w : World), sizeL L ≤ M → M ≤ maxLen → lev + M ≤ 9223372036854775806 → StmsAt n w b L → n ≤ c → w.heap[c]? = some (.cells #[.int .i64 acc] 3 (0, 0)) →
    Calls Tryz.prog 36 #[.slice b L.length cap, .int .i64 lev, .func (.func 64) #[] #[.pointer (some ⟨c, 0, none⟩)]] w fun e w' => e = .returned (.bool (runA stepC acc (flatL lev L)).2) ∧ w'.heap[c]? = some (.cells #[.int .i64 (runA stepC acc (flatL lev L)).1] 3 (0, 0)) ∧ But c w w' := by
  intro M
  induction M using Nat.strongRecOn with
  | _ M ih =>
  intro L b cap lev acc n c w hM hmax hlev h hnc hc
  obtain ⟨V, hV⟩ : ∃ V, V = runA stepC acc (flatL lev L) := ⟨_, rfl⟩
  rw [← hV]
  have HV : Hid (V = runA stepC acc (flatL lev (L.drop 0))) := Lib.hid hV
  obtain ⟨N, hN⟩ : ∃ N, N = L.length := ⟨_, rfl⟩
  have hNM : N ≤ 9223372036854775807 := by have := sizeL_len L; unfold maxLen at hmax; omega
  have hl1 : lev ≤ 9223372036854775806 := by omega
  rw [← hN]
  have HN := Lib.hid hN; have HI := Lib.hid h; have HM := Lib.hid hM; have HIH := Lib.hid ih; have HMX := Lib.hid hmax; have HLV := Lib.hid hlev
  have HCW : Hid (c < w.heap.size) := Lib.hid (Array.getElem?_eq_some_iff.1 hc).1
  have HNC := Lib.hid hnc
  have HC0 := Lib.hid hc
  clear hV hN h hM ih hmax hlev hnc hc
  go_enter Tryz.func36, Tryz.ntmps36
  go_wp2
  go_loopw [12] (fun i' wr => ∃ (k : Nat) (ac : Int), k ≤ N ∧ i' = .int .i64 k ∧ But c w wr ∧ Hid (wr.heap[c]? = some (.cells #[.int .i64 ac] 3 (0, 0))) ∧ Hid (V = runA stepC ac (flatL lev (L.drop k)))) (fun i' _ => N - (RowKit.intOf i').toNat)
  case atStart => exact ⟨0, acc, by omega, rfl, But.refl _ _, HC0, HV⟩
  case round =>
    obtain ⟨k, ac, hk, rfl, hx, hcc, hb⟩ := hrel
    clear HV HC0
    by_cases hlt : k < N
    · have hkl : k < L.length := by rw [← HN.out]; exact hlt
      have hin := StmsAt.below (hx.below HNC.out (by have := HCW.out; have := HNC.out; omega)) L HI.out
      obtain ⟨g, o, rfl, hg, hst⟩ := StmsAt.at L hin k hkl
      have hsz : sizeS L[k] ≤ M := Nat.le_trans (sizeL_at L k hkl) HM.out
      have hbb := hb.out
      rw [List.drop_eq_getElem_cons hkl, flatL_cons] at hbb
      obtain ⟨s, hs⟩ : ∃ s, s = L[k] := ⟨_, rfl⟩
      rw [← hs] at hst hsz hbb
      clear hs hb hin
      obtain ⟨kind, nm, rs, al, body⟩ := s
      have hbd := sizeS_body (.mk kind nm rs al body)
      simp only [Stm.body, Stm.name, Stm.refs, Stm.attrs] at hbd
      rw [flatS_mk, List.cons_append, runA, runA_app] at hbb
      rw [StmAt] at hst
      obtain ⟨r, rc, a, atc, b', bc, c0, c1, c2, c3, c4, hr, ha, hbs, hl1', hl2, hl3, hl4, hl5⟩ := hst
      have hwl : c < wr.heap.size := Nat.lt_of_lt_of_le HCW.out hx.size
      have hne : wr.heap.size ≠ c := by omega
      have hxa : Ext wr (wr.alloc (.cells #[.int .i64 kind, .string nm, .slice r rs.length rc, .slice a al.length atc, .slice b' body.length bc] 47)) := (Ext.refl _).alloc _
      have hcl := stm_cells wr kind nm r a b' rs.length al.length body.length rc atc bc
      have hcc2 := (hxa.block c hwl).trans hcc.out
      have hclo := closC_any kind nm r a b' rs.length al.length body.length rc atc bc lev ac c 3 (wr.alloc (.cells #[.int .i64 kind, .string nm, .slice r rs.length rc, .slice a al.length atc, .slice b' body.length bc] 47)) hcc2
      replace hclo : Calls Tryz.prog 64 #[.agg #[.int .i64 kind, .string nm, .slice r rs.length rc, .slice a al.length atc, .slice b' body.length bc], .int .i64 lev, .pointer (some ⟨c, 0, none⟩)] (wr.alloc (.cells #[.int .i64 kind, .string nm, .slice r rs.length rc, .slice a al.length atc, .slice b' body.length bc] 47)) fun e w' => e = .returned (.bool (stepC ac (.mk kind nm rs al body, lev)).2) ∧ w'.heap[c]? = some (.cells #[.int .i64 (stepC ac (.mk kind nm rs al body, lev)).1] 3 (0, 0)) ∧ But c (wr.alloc (.cells #[.int .i64 kind, .string nm, .slice r rs.length rc, .slice a al.length atc, .slice b' body.length bc] 47)) w' := hclo
      have hrec : ∀ w1 acc1, But c wr w1 → w1.heap[c]? = some (.cells #[.int .i64 acc1] 3 (0, 0)) →
          Calls Tryz.prog 36 #[.slice b' body.length bc, .int .i64 (if kind = 5 then (lev : Int) + 1 else lev), .func (.func 64) #[] #[.pointer (some ⟨c, 0, none⟩)]] w1 fun e w' => e = .returned (.bool (runA stepC acc1 (flatL (if kind = 5 then lev + 1 else lev) body)).2) ∧ w'.heap[c]? = some (.cells #[.int .i64 (runA stepC acc1 (flatL (if kind = 5 then lev + 1 else lev) body)).1] 3 (0, 0)) ∧ But c w1 w' := fun w1 acc1 x1 h1 => by
        have hcast : (if kind = 5 then (lev : Int) + 1 else lev) = ((if kind = 5 then lev + 1 else lev : Nat) : Int) := by split <;> simp
        rw [hcast]
        exact HIH.out (sizeL body) (by omega) body b' bc _ acc1 n c w1 (Nat.le_refl _) (by have := HMX.out; omega) (by have := HLV.out; split <;> omega) (StmsAt.below (x1.below HNC.out (by have := HNC.out; omega)) body hbs) HNC.out h1
      have hx' : But c w (wr.alloc (.cells #[.int .i64 kind, .string nm, .slice r rs.length rc, .slice a al.length atc, .slice b' body.length bc] 47)) := hx.alloc _
      obtain ⟨fl, hfl⟩ : ∃ fl, fl = flatL (if kind = 5 then lev + 1 else lev) body := ⟨_, rfl⟩
      rw [← hfl] at hrec hbb
      obtain ⟨p, q, hpq⟩ : ∃ p q, stepC ac (.mk kind nm rs al body, lev) = (p, q) := ⟨_, _, rfl⟩
      rw [hpq] at hclo hbb
      obtain ⟨u, v, huv⟩ : ∃ u v, runA stepC p fl = (u, v) := ⟨_, _, rfl⟩
      have hrec' := fun w1 => hrec w1 p
      rw [huv] at hrec' hbb
      dsimp only at hclo hbb hrec'
      have HCLO := Lib.hid hclo; have HREC := Lib.hid hrec'; have HCL := Lib.hid hcl
      clear hclo hrec hrec' hcl hr ha hbs hl1' hl2 hl3 hl4 hl5 hbd hsz hpq huv hfl hcc2 hcc hg hwl
      have HXA := Lib.hid hxa
      have HNE := Lib.hid hne
      clear hxa hne
      generalize rs.length = R at *
      generalize al.length = A at *
      generalize body.length = B at *
      cases q
      · rw [if_neg (by decide)] at hbb
        have hf := Lib.hid hbb
        clear hbb
        go_wp2_with (go_at_call 64; refine HCLO.out.mono ?_; rintro e w1 ⟨rfl, h1, x1⟩; replace h1 := Lib.hid h1)
        go_returns
        rw [hf.out]
        exact ⟨rfl, h1.out, hx'.trans x1⟩
      rw [if_pos rfl] at hbb
      by_cases h5 : kind = 5
      · subst h5
        rw [if_pos rfl] at HREC
        cases v
        · rw [if_neg (by decide)] at hbb
          have hf := Lib.hid hbb
          clear hbb
          go_wp2_with (first | (go_at_call 64; refine HCLO.out.mono ?_; rintro e w1 ⟨rfl, h1, x1⟩; replace h1 := Lib.hid h1; have k0 := x1.cell (p := ⟨wr.heap.size, 0, none⟩) HNE.out (HCL.out _ (Ext.refl _)).1; have k4 := x1.cell (p := ⟨wr.heap.size, 4, none⟩) HNE.out (HCL.out _ (Ext.refl _)).2.2.2.2) | (go_at_call 36; refine (HREC.out _ ((But.of HXA.out).trans x1) h1.out).mono ?_; rintro e w2 ⟨rfl, h2, x2⟩; replace h2 := Lib.hid h2))
          go_returns
          rw [hf.out]
          exact ⟨rfl, h2.out, (hx'.trans x1).trans x2⟩
        · rw [if_pos rfl] at hbb
          have hf := Lib.hid hbb
          clear hbb
          go_wp2_with (first | (go_at_call 64; refine HCLO.out.mono ?_; rintro e w1 ⟨rfl, h1, x1⟩; replace h1 := Lib.hid h1; have k0 := x1.cell (p := ⟨wr.heap.size, 0, none⟩) HNE.out (HCL.out _ (Ext.refl _)).1; have k4 := x1.cell (p := ⟨wr.heap.size, 4, none⟩) HNE.out (HCL.out _ (Ext.refl _)).2.2.2.2) | (go_at_call 36; refine (HREC.out _ ((But.of HXA.out).trans x1) h1.out).mono ?_; rintro e w2 ⟨rfl, h2, x2⟩; replace h2 := Lib.hid h2))
          go_roundw
          case rel => exact ⟨k + 1, u, by omega, by go_num, (hx'.trans x1).trans x2, h2, hf⟩
          case measure => simp [RowKit.intOf]; omega
      · obtain ⟨f5, f5'⟩ := ne_facts h5
        rw [if_neg h5] at HREC
        clear h5
        cases v
        · rw [if_neg (by decide)] at hbb
          have hf := Lib.hid hbb
          clear hbb
          go_wp2_with (first | (go_at_call 64; refine HCLO.out.mono ?_; rintro e w1 ⟨rfl, h1, x1⟩; replace h1 := Lib.hid h1; have k0 := x1.cell (p := ⟨wr.heap.size, 0, none⟩) HNE.out (HCL.out _ (Ext.refl _)).1; have k4 := x1.cell (p := ⟨wr.heap.size, 4, none⟩) HNE.out (HCL.out _ (Ext.refl _)).2.2.2.2) | (go_at_call 36; refine (HREC.out _ ((But.of HXA.out).trans x1) h1.out).mono ?_; rintro e w2 ⟨rfl, h2, x2⟩; replace h2 := Lib.hid h2))
          go_returns
          rw [hf.out]
          exact ⟨rfl, h2.out, (hx'.trans x1).trans x2⟩
        · rw [if_pos rfl] at hbb
          have hf := Lib.hid hbb
          clear hbb
          go_wp2_with (first | (go_at_call 64; refine HCLO.out.mono ?_; rintro e w1 ⟨rfl, h1, x1⟩; replace h1 := Lib.hid h1; have k0 := x1.cell (p := ⟨wr.heap.size, 0, none⟩) HNE.out (HCL.out _ (Ext.refl _)).1; have k4 := x1.cell (p := ⟨wr.heap.size, 4, none⟩) HNE.out (HCL.out _ (Ext.refl _)).2.2.2.2) | (go_at_call 36; refine (HREC.out _ ((But.of HXA.out).trans x1) h1.out).mono ?_; rintro e w2 ⟨rfl, h2, x2⟩; replace h2 := Lib.hid h2))
          go_roundw
          case rel => exact ⟨k + 1, u, by omega, by go_num, (hx'.trans x1).trans x2, h2, hf⟩
          case measure => simp [RowKit.intOf]; omega
    · have hf : Hid (V = (ac, true)) := Lib.hid (by rw [hb.out, List.drop_eq_nil_of_le (by rw [← HN.out]; omega), flatL_nil]; rfl)
      clear hb
      go_wp2
      go_returns
      rw [hf.out]
      exact ⟨rfl, hcc.out, hx⟩
end Go.Proofs.YtnjnfkfmkbnkhaaGreatDoor.Tr

/- Walking a tree: visit with the closure of Valid. -/
namespace Go.Proofs.YtnjnfkfmkbnkhaaGreatDoor.Tr
open Go.RowKit Go.Sort Go.Lib Go.Shelf Fx Lx

theorem ChkIn.ext {kind : Int} {nm : ByteArray} {rs al : List Two} {body : List Stm} {r a b : Option Addr} {rc ac bc : Nat} {w w' : World} (h : ChkIn kind nm rs al body r a b rc ac bc w) (x : Ext w w') : ChkIn kind nm rs al body r a b rc ac bc w' :=
  ⟨h.hr.ext x, h.ha.ext x, h.hac, h.hrl, h.hn, h.hs, h.ht⟩
set_option maxHeartbeats 4000000 in
theorem closV_any (kind : Int) (nm : ByteArray) (rs al : List Two) (body : List Stm) (r a b : Option Addr) (rc ac bc lev : Nat) (acc : Int) (c : Nat) (T : TypeId) (w : World) (h : w.heap[c]? = some (.cells #[.int .i64 acc] T (0, 0))) (hk : ChkIn kind nm rs al body r a b rc ac bc w) :
    Calls Tryz.prog 37 #[.agg #[.int .i64 kind, .string nm, .slice r rs.length rc, .slice a al.length ac, .slice b body.length bc], .int .i64 lev, .pointer (some ⟨c, 0, none⟩)] w fun e w' => e = .returned (.bool (stepV acc (.mk kind nm rs al body, lev)).2) ∧ w'.heap[c]? = some (.cells #[.int .i64 (stepV acc (.mk kind nm rs al body, lev)).1] T (0, 0)) ∧ But c w w' := by
  have hcw : c < w.heap.size := (Array.getElem?_eq_some_iff.1 h).1
  have hx0 : ∀ o, Ext w (w.alloc o) := fun o => (Ext.refl w).alloc o
  have h1 : ∀ o w1, Ext (w.alloc o) w1 → w1.heap[c]? = some (.cells #[.int .i64 acc] T (0, 0)) := fun o w1 x => (x.block c (by simp; omega)).trans ((Lib.alloc_old w o c hcw).trans h)
  have hch := fun o => check_any kind nm rs al body r a b rc ac bc lev _ (hk.ext (hx0 o))
  unfold stepV
  dsimp only
  generalize stmE (.mk kind nm rs al body, lev) = E at *
  generalize rs.length = R at *
  generalize al.length = A at *
  generalize body.length = B at *
  have HCH := Lib.hid hch
  have H1 := Lib.hid h1
  clear hk hch h1 h hcw
  go_enter Tryz.func37, Tryz.ntmps37
  go_wp2_with (go_at_call 38; refine (HCH.out _).mono ?_; rintro e w1 ⟨rfl, x1⟩; have q0 : w1.cell? ⟨c, 0, none⟩ = some (.int .i64 acc) := (by rw [Lib.cell_of_heap (H1.out _ _ x1)]; rfl); have q1 : w1.frozen? ⟨c, 0, none⟩ = false := Lib.frozen_of_heap (H1.out _ _ x1) 0; have q2 : ∀ v, (w1.setCell ⟨c, 0, none⟩ v).cell? ⟨c, 0, none⟩ = some v := fun v => by rw [Lib.cell_of_heap (setOne (H1.out _ _ x1) 0 v)]; rfl)
  go_ret
  exact ⟨ret_bool (by rw [Bool.eq_iff_iff, beq_iff_eq, decide_eq_true_eq]), setOne (H1.out _ _ x1) 0 _, (((But.refl c w).alloc _).ext x1).setCell ⟨c, 0, none⟩ rfl _⟩
set_option maxHeartbeats 4000000 in
set_option maxRecDepth 100000 in
theorem visitV_any : ∀ (M : Nat) (L : List Stm) (b : Option Addr) (cap lev : Nat) (acc : Int) (n c : Nat) (w : World), sizeL L ≤ M → M ≤ maxLen → lev + M ≤ 9223372036854775806 → StmsAt n w b L → n ≤ c → w.heap[c]? = some (.cells #[.int .i64 acc] 33 (0, 0)) →
    Calls Tryz.prog 36 #[.slice b L.length cap, .int .i64 lev, .func (.func 37) #[] #[.pointer (some ⟨c, 0, none⟩)]] w fun e w' => e = .returned (.bool (runA stepV acc (flatL lev L)).2) ∧ w'.heap[c]? = some (.cells #[.int .i64 (runA stepV acc (flatL lev L)).1] 33 (0, 0)) ∧ But c w w' := by
  intro M
  induction M using Nat.strongRecOn with
  | _ M ih =>
  intro L b cap lev acc n c w hM hmax hlev h hnc hc
  obtain ⟨V, hV⟩ : ∃ V, V = runA stepV acc (flatL lev L) := ⟨_, rfl⟩
  rw [← hV]
  have HV : Hid (V = runA stepV acc (flatL lev (L.drop 0))) := Lib.hid hV
  obtain ⟨N, hN⟩ : ∃ N, N = L.length := ⟨_, rfl⟩
  have hNM : N ≤ 9223372036854775807 := by have := sizeL_len L; unfold maxLen at hmax; omega
  have hl1 : lev ≤ 9223372036854775806 := by omega
  rw [← hN]
  have HN := Lib.hid hN; have HI := Lib.hid h; have HM := Lib.hid hM; have HIH := Lib.hid ih; have HMX := Lib.hid hmax; have HLV := Lib.hid hlev
  have HCW : Hid (c < w.heap.size) := Lib.hid (Array.getElem?_eq_some_iff.1 hc).1
  have HNC := Lib.hid hnc
  have HC0 := Lib.hid hc
  clear hV hN h hM ih hmax hlev hnc hc
  go_enter Tryz.func36, Tryz.ntmps36
  go_wp2
  go_loopw [12] (fun i' wr => ∃ (k : Nat) (ac : Int), k ≤ N ∧ i' = .int .i64 k ∧ But c w wr ∧ Hid (wr.heap[c]? = some (.cells #[.int .i64 ac] 33 (0, 0))) ∧ Hid (V = runA stepV ac (flatL lev (L.drop k)))) (fun i' _ => N - (RowKit.intOf i').toNat)
  case atStart => exact ⟨0, acc, by omega, rfl, But.refl _ _, HC0, HV⟩
  case round =>
    obtain ⟨k, ac, hk, rfl, hx, hcc, hb⟩ := hrel
    clear HV HC0
    by_cases hlt : k < N
    · have hkl : k < L.length := by rw [← HN.out]; exact hlt
      have hin := StmsAt.below (hx.below HNC.out (by have := HCW.out; have := HNC.out; omega)) L HI.out
      obtain ⟨g, o, rfl, hg, hst⟩ := StmsAt.at L hin k hkl
      have hsz : sizeS L[k] ≤ M := Nat.le_trans (sizeL_at L k hkl) HM.out
      have hbb := hb.out
      rw [List.drop_eq_getElem_cons hkl, flatL_cons] at hbb
      obtain ⟨s, hs⟩ : ∃ s, s = L[k] := ⟨_, rfl⟩
      rw [← hs] at hst hsz hbb
      clear hs hb hin
      obtain ⟨kind, nm, rs, al, body⟩ := s
      have hbd := sizeS_body (.mk kind nm rs al body)
      simp only [Stm.body, Stm.name, Stm.refs, Stm.attrs] at hbd
      rw [flatS_mk, List.cons_append, runA, runA_app] at hbb
      rw [StmAt] at hst
      obtain ⟨r, rc, a, atc, b', bc, c0, c1, c2, c3, c4, hr, ha, hbs, hl1', hl2, hl3, hl4, hl5⟩ := hst
      have hwl : c < wr.heap.size := Nat.lt_of_lt_of_le HCW.out hx.size
      have hne : wr.heap.size ≠ c := by omega
      have hxa : Ext wr (wr.alloc (.cells #[.int .i64 kind, .string nm, .slice r rs.length rc, .slice a al.length atc, .slice b' body.length bc] 47)) := (Ext.refl _).alloc _
      have hcl := stm_cells wr kind nm r a b' rs.length al.length body.length rc atc bc
      have hcc2 := (hxa.block c hwl).trans hcc.out
      have hs1 : ∀ q ∈ al, q.1.size ≤ 9223372036854775807 ∧ q.2.size ≤ 9223372036854775807 := fun q hq => by have := sizeTwo_at al q hq; have := HMX.out; unfold maxLen at this; omega
      have ht1 : ∀ q ∈ rs, q.1.size ≤ 9223372036854775807 ∧ q.2.size ≤ 9223372036854775807 := fun q hq => by have := sizeTwo_at rs q hq; have := HMX.out; unfold maxLen at this; omega
      have hclo := closV_any kind nm rs al body r a b' rc atc bc lev ac c 33 (wr.alloc (.cells #[.int .i64 kind, .string nm, .slice r rs.length rc, .slice a al.length atc, .slice b' body.length bc] 47)) hcc2 ⟨hr.in.ext hxa, ha.in.ext hxa, hl2, by omega, by have := HMX.out; unfold maxLen at this; omega, hs1, ht1⟩
      clear hs1 ht1
      have hrec : ∀ w1 acc1, But c wr w1 → w1.heap[c]? = some (.cells #[.int .i64 acc1] 33 (0, 0)) →
          Calls Tryz.prog 36 #[.slice b' body.length bc, .int .i64 (if kind = 5 then (lev : Int) + 1 else lev), .func (.func 37) #[] #[.pointer (some ⟨c, 0, none⟩)]] w1 fun e w' => e = .returned (.bool (runA stepV acc1 (flatL (if kind = 5 then lev + 1 else lev) body)).2) ∧ w'.heap[c]? = some (.cells #[.int .i64 (runA stepV acc1 (flatL (if kind = 5 then lev + 1 else lev) body)).1] 33 (0, 0)) ∧ But c w1 w' := fun w1 acc1 x1 h1 => by
        have hcast : (if kind = 5 then (lev : Int) + 1 else lev) = ((if kind = 5 then lev + 1 else lev : Nat) : Int) := by split <;> simp
        rw [hcast]
        exact HIH.out (sizeL body) (by omega) body b' bc _ acc1 n c w1 (Nat.le_refl _) (by have := HMX.out; omega) (by have := HLV.out; split <;> omega) (StmsAt.below (x1.below HNC.out (by have := HNC.out; omega)) body hbs) HNC.out h1
      have hx' : But c w (wr.alloc (.cells #[.int .i64 kind, .string nm, .slice r rs.length rc, .slice a al.length atc, .slice b' body.length bc] 47)) := hx.alloc _
      obtain ⟨fl, hfl⟩ : ∃ fl, fl = flatL (if kind = 5 then lev + 1 else lev) body := ⟨_, rfl⟩
      rw [← hfl] at hrec hbb
      obtain ⟨p, q, hpq⟩ : ∃ p q, stepV ac (.mk kind nm rs al body, lev) = (p, q) := ⟨_, _, rfl⟩
      rw [hpq] at hclo hbb
      obtain ⟨u, v, huv⟩ : ∃ u v, runA stepV p fl = (u, v) := ⟨_, _, rfl⟩
      have hrec' := fun w1 => hrec w1 p
      rw [huv] at hrec' hbb
      dsimp only at hclo hbb hrec'
      have HCLO := Lib.hid hclo; have HREC := Lib.hid hrec'; have HCL := Lib.hid hcl
      clear hclo hrec hrec' hcl hr ha hbs hl1' hl2 hl3 hl4 hl5 hbd hsz hpq huv hfl hcc2 hcc hg hwl
      have HXA := Lib.hid hxa
      have HNE := Lib.hid hne
      clear hxa hne
      generalize rs.length = R at *
      generalize al.length = A at *
      generalize body.length = B at *
      cases q
      · rw [if_neg (by decide)] at hbb
        have hf := Lib.hid hbb
        clear hbb
        go_wp2_with (go_at_call 37; refine HCLO.out.mono ?_; rintro e w1 ⟨rfl, h1, x1⟩; replace h1 := Lib.hid h1)
        go_returns
        rw [hf.out]
        exact ⟨rfl, h1.out, hx'.trans x1⟩
      rw [if_pos rfl] at hbb
      by_cases h5 : kind = 5
      · subst h5
        rw [if_pos rfl] at HREC
        cases v
        · rw [if_neg (by decide)] at hbb
          have hf := Lib.hid hbb
          clear hbb
          go_wp2_with (first | (go_at_call 37; refine HCLO.out.mono ?_; rintro e w1 ⟨rfl, h1, x1⟩; replace h1 := Lib.hid h1; have k0 := x1.cell (p := ⟨wr.heap.size, 0, none⟩) HNE.out (HCL.out _ (Ext.refl _)).1; have k4 := x1.cell (p := ⟨wr.heap.size, 4, none⟩) HNE.out (HCL.out _ (Ext.refl _)).2.2.2.2) | (go_at_call 36; refine (HREC.out _ ((But.of HXA.out).trans x1) h1.out).mono ?_; rintro e w2 ⟨rfl, h2, x2⟩; replace h2 := Lib.hid h2))
          go_returns
          rw [hf.out]
          exact ⟨rfl, h2.out, (hx'.trans x1).trans x2⟩
        · rw [if_pos rfl] at hbb
          have hf := Lib.hid hbb
          clear hbb
          go_wp2_with (first | (go_at_call 37; refine HCLO.out.mono ?_; rintro e w1 ⟨rfl, h1, x1⟩; replace h1 := Lib.hid h1; have k0 := x1.cell (p := ⟨wr.heap.size, 0, none⟩) HNE.out (HCL.out _ (Ext.refl _)).1; have k4 := x1.cell (p := ⟨wr.heap.size, 4, none⟩) HNE.out (HCL.out _ (Ext.refl _)).2.2.2.2) | (go_at_call 36; refine (HREC.out _ ((But.of HXA.out).trans x1) h1.out).mono ?_; rintro e w2 ⟨rfl, h2, x2⟩; replace h2 := Lib.hid h2))
          go_roundw
          case rel => exact ⟨k + 1, u, by omega, by go_num, (hx'.trans x1).trans x2, h2, hf⟩
          case measure => simp [RowKit.intOf]; omega
      · obtain ⟨f5, f5'⟩ := ne_facts h5
        rw [if_neg h5] at HREC
        clear h5
        cases v
        · rw [if_neg (by decide)] at hbb
          have hf := Lib.hid hbb
          clear hbb
          go_wp2_with (first | (go_at_call 37; refine HCLO.out.mono ?_; rintro e w1 ⟨rfl, h1, x1⟩; replace h1 := Lib.hid h1; have k0 := x1.cell (p := ⟨wr.heap.size, 0, none⟩) HNE.out (HCL.out _ (Ext.refl _)).1; have k4 := x1.cell (p := ⟨wr.heap.size, 4, none⟩) HNE.out (HCL.out _ (Ext.refl _)).2.2.2.2) | (go_at_call 36; refine (HREC.out _ ((But.of HXA.out).trans x1) h1.out).mono ?_; rintro e w2 ⟨rfl, h2, x2⟩; replace h2 := Lib.hid h2))
          go_returns
          rw [hf.out]
          exact ⟨rfl, h2.out, (hx'.trans x1).trans x2⟩
        · rw [if_pos rfl] at hbb
          have hf := Lib.hid hbb
          clear hbb
          go_wp2_with (first | (go_at_call 37; refine HCLO.out.mono ?_; rintro e w1 ⟨rfl, h1, x1⟩; replace h1 := Lib.hid h1; have k0 := x1.cell (p := ⟨wr.heap.size, 0, none⟩) HNE.out (HCL.out _ (Ext.refl _)).1; have k4 := x1.cell (p := ⟨wr.heap.size, 4, none⟩) HNE.out (HCL.out _ (Ext.refl _)).2.2.2.2) | (go_at_call 36; refine (HREC.out _ ((But.of HXA.out).trans x1) h1.out).mono ?_; rintro e w2 ⟨rfl, h2, x2⟩; replace h2 := Lib.hid h2))
          go_roundw
          case rel => exact ⟨k + 1, u, by omega, by go_num, (hx'.trans x1).trans x2, h2, hf⟩
          case measure => simp [RowKit.intOf]; omega
    · have hf : Hid (V = (ac, true)) := Lib.hid (by rw [hb.out, List.drop_eq_nil_of_le (by rw [← HN.out]; omega), flatL_nil]; rfl)
      clear hb
      go_wp2
      go_returns
      rw [hf.out]
      exact ⟨rfl, hcc.out, hx⟩
end Go.Proofs.YtnjnfkfmkbnkhaaGreatDoor.Tr
