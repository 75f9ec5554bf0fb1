/- Packed texts: PrtLawD, PrtFinD, PrtEnds -/
import Derived.Test.YtaipcpdncmnelaaPu21
import Derived.Test.YtaipcpdncmnelaaPu22
import Derived.Test.YtaipcpdncmnelaaPu12
import Derived.Deep.RegionLaw
set_option linter.unusedVariables false
set_option linter.unusedSimpArgs false
/- The law of turned arcs, walked. -/
namespace Go.Proofs.Ytaipcpdncmnelaa.Pt
open Go.RowKit Go.Sort Go.Lib Fx Tp

theorem info_arc : (Try.prog.info? 37).map (fun i => (i.zero.map (fun z => z.cells.size), i.size, i.bytes)) = some (some 2, 2, 16) := by kernel_rfl
theorem compP_len {N : Nat} {A : Arcs} (ok : Ok N A) : (compP N A).length ≤ N := by rw [comp_eq ok]; exact compR_len
/-- What the four functions hand back. -/
structure Four (w : World) (N : Nat) (a : Option Addr) (M cap : Nat) (R : List (List Int)) (S T : List Int) (Q : List (List Int)) : Prop where
  comp : ∀ w1, Ext w w1 → Calls Try.prog 11 #[.agg #[.int .i64 (N : Int), .slice a M cap]] w1 fun e w' => ∃ b c, e = .returned (.slice b R.length c) ∧ Tp.RowsIn w' b R ∧ Ext w1 w'
  brid : ∀ w1, Ext w w1 → Calls Try.prog 16 #[.agg #[.int .i64 (N : Int), .slice a M cap]] w1 fun e w' => ∃ b c, e = .returned (.slice b S.length c) ∧ IntIn w' b S ∧ Ext w1 w'
  cuts : ∀ w1, Ext w w1 → Calls Try.prog 18 #[.agg #[.int .i64 (N : Int), .slice a M cap]] w1 fun e w' => ∃ b c, e = .returned (.slice b T.length c) ∧ IntIn w' b T ∧ Ext w1 w'
  blks : ∀ w1, Ext w w1 → Calls Try.prog 22 #[.agg #[.int .i64 (N : Int), .slice a M cap]] w1 fun e w' => ∃ b c, e = .returned (.slice b Q.length c) ∧ Tp.RowsIn w' b Q ∧ Ext w1 w'
theorem four_of (VIS : Vis) (N : Nat) (a : Option Addr) (A : Arcs) (cap : Nat) (w : World) (hN : N ≤ 64) (h : ArcIn w a (zarc A)) (hA : A.length ≤ 256) (ok : Ok N A) :
    Four w N a A.length cap ((compP N A).map zl) (zl (bridgesT N A)) (zl (cutsT N A)) ((blocksT N A).map zl) := by
  refine ⟨fun w1 x => ?_, fun w1 x => ?_, fun w1 x => ?_, fun w1 x => ?_⟩
  · rw [List.length_map]
    refine (comp_any N a A cap w1 hN (h.ext x) hA ok).mono ?_
    rintro e w' ⟨⟨fv, rfl, hr⟩, y⟩
    obtain ⟨b, c, rfl, hr2⟩ := hr.rows
    exact ⟨b, c, rfl, hr2, y⟩
  · rw [zl_len]
    refine (bridges_of VIS N a A cap w1 hN (h.ext x) hA ok).mono ?_
    rintro e w' ⟨⟨b, c, rfl, hr⟩, y⟩
    exact ⟨b, c, rfl, hr, y⟩
  · rw [zl_len]
    refine (cuts_of VIS N a A cap w1 hN (h.ext x) hA ok).mono ?_
    rintro e w' ⟨⟨b, c, rfl, hr⟩, y⟩
    exact ⟨b, c, rfl, hr, y⟩
  · rw [List.length_map]
    refine (blocks_of VIS N a A cap w1 hN (h.ext x) hA ok).mono ?_
    rintro e w' ⟨⟨b, c, rfl, hr⟩, y⟩
    exact ⟨b, c, rfl, hr.rows, y⟩
/-- The arcs' cells. -/
def arcC (A : Arcs) : List Value := A.flatMap (fun p => [.int .i64 (p.1 : Int), .int .i64 (p.2 : Int)])
theorem arcC_app (A B : Arcs) : arcC (A ++ B) = arcC A ++ arcC B := by unfold arcC; rw [List.flatMap_append]
theorem arcC_len : ∀ A : Arcs, (arcC A).length = A.length * 2
  | [] => rfl
  | p :: A => by
    have := arcC_len A
    unfold arcC at *
    rw [List.flatMap_cons, List.length_append, this, List.length_cons]
    simp; omega
theorem arcC_at : ∀ (A : Arcs) (k : Nat) (h : k < A.length), (arcC A)[k * 2]? = some (.int .i64 (A[k].1 : Int)) ∧ (arcC A)[k * 2 + 1]? = some (.int .i64 (A[k].2 : Int))
  | p :: A, 0, _ => ⟨rfl, rfl⟩
  | p :: A, k + 1, h => by
    have := arcC_at A k (by simpa using h)
    have e : arcC (p :: A) = .int .i64 (p.1 : Int) :: .int .i64 (p.2 : Int) :: arcC A := rfl
    have e1 : (k + 1) * 2 = k * 2 + 1 + 1 := by omega
    rw [e, e1, List.getElem?_cons_succ, List.getElem?_cons_succ, List.getElem?_cons_succ, List.getElem?_cons_succ]
    exact this
theorem own_arcs {w : World} {B : Nat} {v : Value} {A : Arcs} (h : w.ownsRow B 37 2 v A.length (arcC A)) : ∃ a c, v = .slice a A.length c ∧ ArcIn w a (zarc A) := by
  rcases h.2 with ⟨rfl, h3⟩ | ⟨g, cap, cur, rfl, _⟩
  · exact ⟨none, 0, by rw [h3], fun k hk => absurd hk (by rw [zarc_len, h3]; exact Nat.not_lt_zero k)⟩
  · refine ⟨_, _, rfl, fun k hk => ?_⟩
    have hk' : k < A.length := by rw [zarc_len] at hk; exact hk
    obtain ⟨h1, h2⟩ := arcC_at A k hk'
    have c0 := h.cells (g := g) rfl _ _ h1
    have c1 := h.cells (g := g) rfl _ _ h2
    rw [add_at] at c0 c1
    rw [zarc_at A k hk']
    refine ⟨g, 0, rfl, ?_, ?_⟩
    · rw [Nat.zero_add]; exact c0
    · rw [Nat.zero_add]; exact c1
set_option maxHeartbeats 16000000 in
set_option maxRecDepth 100000 in
theorem turns_in (VIS : Vis) (N : Nat) (a : Option Addr) (A : Arcs) (cap : Nat) (ta : Option Addr) (TT : List Bool) (tc : Nat) (w : World) (hN : N ≤ 64) (h : ArcIn w a (zarc A)) (hA : A.length ≤ 100) (ok : Ok N A) (hb : BoolIn w ta TT) (hbl : TT.length ≤ maxLen) :
    Calls Try.prog 7 #[.agg #[.int .i64 (N : Int), .slice a A.length cap], .slice ta TT.length tc] w fun e w' => e = .returned (.bool true) ∧ Ext w w' := by
  have hval := fun w1 (x : Ext w w1) => validR_any N a (zarc A) cap w1 (by omega) (by omega) (h.ext x) (zarc_ok hN ok) (by rw [zarc_len]; omega)
  rw [valid_ok hN (by omega) ok, zarc_len] at hval
  obtain ⟨M, hM⟩ : ∃ M, M = A.length := ⟨_, rfl⟩
  obtain ⟨tl, htl⟩ : ∃ tl, tl = TT.length := ⟨_, rfl⟩
  unfold maxLen at hbl
  rw [← hM] at hA hval ⊢
  rw [← htl] at hbl ⊢
  have HV := Lib.hid hval; have HI := Lib.hid h; have HM := Lib.hid hM; have HOK := Lib.hid ok; have HB := Lib.hid hb; have HTL := Lib.hid htl; have V := Lib.hid VIS
  clear h hM hval ok hb htl VIS
  have hle : ¬ (100 : Int) < (M : Int) := by omega
  go_enter Try.func7, Try.ntmps7
  go_wp2_with (go_at_call 24; refine (HV.out _ ((Ext.refl _).alloc _)).mono ?_; rintro e w1 ⟨rfl, x1⟩; have b1 := box_two x1; have b10 := b1.1; have b11 := b1.2)
  obtain ⟨i0, hi0⟩ : ∃ i, Try.prog.info? 37 = some i := by
    have := info_arc
    cases h : Try.prog.info? 37 with
    | none => rw [h] at this; simp at this
    | some i => exact ⟨i, rfl⟩
  have hif := info_arc
  rw [hi0] at hif
  obtain ⟨z0, hz0⟩ : ∃ z, i0.zero = some z := by
    cases h : i0.zero with
    | none => simp [h] at hif
    | some z => exact ⟨z, rfl⟩
  have hz1 : i0.size = 2 := by simp [hz0] at hif; exact hif.2.1
  have hz2 : i0.bytes = 16 := by simp [hz0] at hif; exact hif.2.2
  have hz3 : z0.cells.size = 2 := by simp [hz0] at hif; exact hif.1
  clear hif b1
  have y1 : Hid (Ext w w1) := Lib.hid (((Ext.refl _).alloc _).trans x1)
  have X1 := Lib.hid x1
  obtain ⟨hb0, hhb⟩ : ∃ b, b = w1.heap.size := ⟨_, rfl⟩
  have hwl : Hid (w.heap.size < hb0) := Lib.hid (by have := x1.size; simp at this; omega)
  have HH : Hid ((w1.alloc (.cells #[.int .i64 N, .slice none 0 0] 24)).heap[hb0]? = some (.cells #[.int .i64 N, .slice none 0 0] 24 (0, 0))) := Lib.hid (by rw [hhb]; exact heap_alloc_new _ _)
  rw [← hhb]
  have HHB := Lib.hid hhb
  clear x1 b10 b11 hhb
  go_loopw [6] (fun i' wr => ∃ (k : Nat) (sl : Value), k ≤ M ∧ i' = .int .i64 k ∧ Hid (wr.heap[hb0]? = some (.cells #[.int .i64 N, sl] 24 (0, 0))) ∧ Hid (wr.ownsRow (hb0 + 1) 37 2 sl k (arcC (turnA A TT k))) ∧ Ext w1 wr) (fun i' _ => M - (RowKit.intOf i').toNat)
  case atStart => exact ⟨0, _, Nat.zero_le _, rfl, HH, Lib.hid ⟨rfl, .inl ⟨rfl, rfl⟩⟩, (Ext.refl _).alloc _⟩
  case round =>
    clear HH
    obtain ⟨k, sl, hk, rfl, hH, hown, hx⟩ := hrel
    obtain ⟨b10, b11⟩ := box_two (X1.out.trans hx)
    by_cases hlt : k < M
    · have hkA : k < A.length := by rw [← HM.out]; exact hlt
      obtain ⟨g, o, rfl, d0, d1⟩ := (HI.out.ext (y1.out.trans hx)) k (by rw [zarc_len]; exact hkA)
      rw [zarc_at A k hkA] at d0 d1
      have hak : arcN A k = A[k] := by unfold arcN; rw [List.getD_eq_getElem?_getD, List.getElem?_eq_getElem hkA]; rfl
      have hst := turnA_succ A TT k
      obtain ⟨x, hxe⟩ : ∃ x, x = A[k].1 := ⟨_, rfl⟩
      obtain ⟨y, hye⟩ : ∃ x, x = A[k].2 := ⟨_, rfl⟩
      rw [← hxe] at d0; rw [← hye] at d1
      have HAK : Hid (arcN A k = (x, y)) := Lib.hid (by rw [hak, hxe, hye])
      have HST := Lib.hid hst
      have hbs : hb0 < wr.heap.size := by
        by_cases h : hb0 < wr.heap.size
        · exact h
        · have := hH.out; rw [Array.getElem?_eq_none (by omega)] at this; cases this
      have b0 : (0 : Int) ≤ (k : Int) := by omega
      have b1 : (k : Int) < (M : Int) := by omega
      have q0 : wr.cell? ⟨hb0, 0, none⟩ = some (.int .i64 N) := by rw [Lib.cell_of_heap hH.out]; rfl
      have q1 : wr.cell? ⟨hb0, 1, none⟩ = some sl := by rw [Lib.cell_of_heap hH.out]; rfl
      clear hak hxe hye hst
      by_cases hkt : k < tl
      · have hkT : k < TT.length := by rw [← HTL.out]; exact hkt
        obtain ⟨g2, o2, rfl, t0⟩ := (HB.out.ext (y1.out.trans hx)) k hkT
        have htg : TT[k] = TT.getD k false := by rw [List.getD_eq_getElem?_getD, List.getElem?_eq_getElem hkT]; rfl
        rw [htg] at t0
        have b3 : (k : Int) < (tl : Int) := by omega
        clear htg hkT
        by_cases hT : TT.getD k false = true
        · rw [hT] at t0
          have hS : Hid (turnA A TT (k + 1) = turnA A TT k ++ [(y, x)]) := Lib.hid (by rw [HST.out]; unfold turn1; rw [if_pos hT, HAK.out])
          clear hT
          have t1 := ((Ext.refl wr).alloc (.cells #[.int .i64 x, .int .i64 y] 37)).cell t0
          have ax := arc_box wr (.int .i64 x) (.int .i64 y) 37
          obtain ⟨a0, a1⟩ := ax
          go_wp2_with (at_builtin; refine wpList_append_lies _ rfl _ _ 22 rfl (hb0 + 1) 37 i0 z0 2 16 Try.underlying22 hi0 hz0 hz1 hz2 hz3 (by decide) sl k (arcC (turnA A TT k)) rfl ((hown.out.alloc _).alloc _) ⟨wr.heap.size + 1, 0, none⟩ 1 1 [.int .i64 y, .int .i64 x] rfl rfl (new_cells' _ [_, _] _ _ (by simp)) ?c2 (by decide) ?c3 ?c4 ?c5 _ rfl ?_)
          case c2 => simp [Value.oneCell']
          case c3 => unfold maxLen; omega
          case c4 => omega
          case c5 => first | omega | (simp; omega)
          intro gg cc w3 hown3 hgrow3 _ _
          have hH3 := heap_grown (heap_ext hH.out (((Ext.refl _).alloc _).alloc _)) hgrow3 (fun e => by have := (hown.out.lt hb0 e.symm).1; omega)
          have r1 : w3.cell? ⟨hb0, 1, none⟩ = some sl := by rw [Lib.cell_of_heap hH3]; rfl
          have fz1 := Lib.frozen_of_heap hH3 1
          have hx3 : Ext w1 w3 := Below.grown ((hx.alloc _).alloc _) hgrow3 (by have := hx.size; simp; omega) (fun q hq => by have := (hown.out.lt q hq).1; have := HHB.out; omega)
          have HH4 : Hid ((w3.setCell ⟨hb0, 1, none⟩ (.slice (some ⟨gg, 0, none⟩) (k + 1) cc)).heap[hb0]? = some (.cells #[.int .i64 N, (.slice (some ⟨gg, 0, none⟩) (k + 1) cc)] 24 (0, 0))) := Lib.hid (by have := Go.heap_setCell_same w3 hb0 1 _ _ (.slice (some ⟨gg, 0, none⟩) (k + 1) cc) hH3; simpa using this)
          have hown4 : Hid ((w3.setCell ⟨hb0, 1, none⟩ (.slice (some ⟨gg, 0, none⟩) (k + 1) cc)).ownsRow (hb0 + 1) 37 2 (.slice (some ⟨gg, 0, none⟩) (k + 1) cc) (k + 1) (arcC (turnA A TT (k + 1)))) := Lib.hid (own_keep (by rw [hS.out, arcC_app]; exact hown3) (keep_set w3 hb0 1 _) (fun q hq e => by have := (hown3.lt q hq).1; omega))
          have hx4 : Hid (Ext w1 (w3.setCell ⟨hb0, 1, none⟩ (.slice (some ⟨gg, 0, none⟩) (k + 1) cc))) := Lib.hid (hx3.setCell (by show w1.heap.size ≤ hb0; rw [HHB.out]; exact Nat.le_refl _) _)
          clear hown3 hgrow3
          go_wp2
          go_roundw
          case rel => exact ⟨k + 1, _, by omega, by go_num, HH4, hown4, hx4.out⟩
          case measure => simp [RowKit.intOf]; omega
        · have hTf : TT.getD k false = false := by simpa using hT
          rw [hTf] at t0
          have hS : Hid (turnA A TT (k + 1) = turnA A TT k ++ [(x, y)]) := Lib.hid (by rw [HST.out]; unfold turn1; rw [if_neg hT, HAK.out])
          clear hT hTf
          have t1 := ((Ext.refl wr).alloc (.cells #[.int .i64 x, .int .i64 y] 37)).cell t0
          have ax := arc_box wr (.int .i64 x) (.int .i64 y) 37
          obtain ⟨a0, a1⟩ := ax
          go_wp2_with (at_builtin; refine wpList_append_lies _ rfl _ _ 22 rfl (hb0 + 1) 37 i0 z0 2 16 Try.underlying22 hi0 hz0 hz1 hz2 hz3 (by decide) sl k (arcC (turnA A TT k)) rfl ((hown.out.alloc _).alloc _) ⟨wr.heap.size + 1, 0, none⟩ 1 1 [.int .i64 x, .int .i64 y] rfl rfl (new_cells' _ [_, _] _ _ (by simp)) ?c2 (by decide) ?c3 ?c4 ?c5 _ rfl ?_)
          case c2 => simp [Value.oneCell']
          case c3 => unfold maxLen; omega
          case c4 => omega
          case c5 => first | omega | (simp; omega)
          intro gg cc w3 hown3 hgrow3 _ _
          have hH3 := heap_grown (heap_ext hH.out (((Ext.refl _).alloc _).alloc _)) hgrow3 (fun e => by have := (hown.out.lt hb0 e.symm).1; omega)
          have r1 : w3.cell? ⟨hb0, 1, none⟩ = some sl := by rw [Lib.cell_of_heap hH3]; rfl
          have fz1 := Lib.frozen_of_heap hH3 1
          have hx3 : Ext w1 w3 := Below.grown ((hx.alloc _).alloc _) hgrow3 (by have := hx.size; simp; omega) (fun q hq => by have := (hown.out.lt q hq).1; have := HHB.out; omega)
          have HH4 : Hid ((w3.setCell ⟨hb0, 1, none⟩ (.slice (some ⟨gg, 0, none⟩) (k + 1) cc)).heap[hb0]? = some (.cells #[.int .i64 N, (.slice (some ⟨gg, 0, none⟩) (k + 1) cc)] 24 (0, 0))) := Lib.hid (by have := Go.heap_setCell_same w3 hb0 1 _ _ (.slice (some ⟨gg, 0, none⟩) (k + 1) cc) hH3; simpa using this)
          have hown4 : Hid ((w3.setCell ⟨hb0, 1, none⟩ (.slice (some ⟨gg, 0, none⟩) (k + 1) cc)).ownsRow (hb0 + 1) 37 2 (.slice (some ⟨gg, 0, none⟩) (k + 1) cc) (k + 1) (arcC (turnA A TT (k + 1)))) := Lib.hid (own_keep (by rw [hS.out, arcC_app]; exact hown3) (keep_set w3 hb0 1 _) (fun q hq e => by have := (hown3.lt q hq).1; omega))
          have hx4 : Hid (Ext w1 (w3.setCell ⟨hb0, 1, none⟩ (.slice (some ⟨gg, 0, none⟩) (k + 1) cc))) := Lib.hid (hx3.setCell (by show w1.heap.size ≤ hb0; rw [HHB.out]; exact Nat.le_refl _) _)
          clear hown3 hgrow3
          go_wp2
          go_roundw
          case rel => exact ⟨k + 1, _, by omega, by go_num, HH4, hown4, hx4.out⟩
          case measure => simp [RowKit.intOf]; omega
      · have hTf : TT.getD k false = false := by rw [List.getD_eq_getElem?_getD, List.getElem?_eq_none (by rw [← HTL.out]; omega)]; rfl
        have hS : Hid (turnA A TT (k + 1) = turnA A TT k ++ [(x, y)]) := Lib.hid (by rw [HST.out]; unfold turn1; rw [if_neg (by rw [hTf]; decide), HAK.out])
        clear hTf
        have ax := arc_box wr (.int .i64 x) (.int .i64 y) 37
        obtain ⟨a0, a1⟩ := ax
        go_wp2_with (at_builtin; refine wpList_append_lies _ rfl _ _ 22 rfl (hb0 + 1) 37 i0 z0 2 16 Try.underlying22 hi0 hz0 hz1 hz2 hz3 (by decide) sl k (arcC (turnA A TT k)) rfl ((hown.out.alloc _).alloc _) ⟨wr.heap.size + 1, 0, none⟩ 1 1 [.int .i64 x, .int .i64 y] rfl rfl (new_cells' _ [_, _] _ _ (by simp)) ?c2 (by decide) ?c3 ?c4 ?c5 _ rfl ?_)
        case c2 => simp [Value.oneCell']
        case c3 => unfold maxLen; omega
        case c4 => omega
        case c5 => first | omega | (simp; omega)
        intro gg cc w3 hown3 hgrow3 _ _
        have hH3 := heap_grown (heap_ext hH.out (((Ext.refl _).alloc _).alloc _)) hgrow3 (fun e => by have := (hown.out.lt hb0 e.symm).1; omega)
        have r1 : w3.cell? ⟨hb0, 1, none⟩ = some sl := by rw [Lib.cell_of_heap hH3]; rfl
        have fz1 := Lib.frozen_of_heap hH3 1
        have hx3 : Ext w1 w3 := Below.grown ((hx.alloc _).alloc _) hgrow3 (by have := hx.size; simp; omega) (fun q hq => by have := (hown.out.lt q hq).1; have := HHB.out; omega)
        have HH4 : Hid ((w3.setCell ⟨hb0, 1, none⟩ (.slice (some ⟨gg, 0, none⟩) (k + 1) cc)).heap[hb0]? = some (.cells #[.int .i64 N, (.slice (some ⟨gg, 0, none⟩) (k + 1) cc)] 24 (0, 0))) := Lib.hid (by have := Go.heap_setCell_same w3 hb0 1 _ _ (.slice (some ⟨gg, 0, none⟩) (k + 1) cc) hH3; simpa using this)
        have hown4 : Hid ((w3.setCell ⟨hb0, 1, none⟩ (.slice (some ⟨gg, 0, none⟩) (k + 1) cc)).ownsRow (hb0 + 1) 37 2 (.slice (some ⟨gg, 0, none⟩) (k + 1) cc) (k + 1) (arcC (turnA A TT (k + 1)))) := Lib.hid (own_keep (by rw [hS.out, arcC_app]; exact hown3) (keep_set w3 hb0 1 _) (fun q hq e => by have := (hown3.lt q hq).1; omega))
        have hx4 : Hid (Ext w1 (w3.setCell ⟨hb0, 1, none⟩ (.slice (some ⟨gg, 0, none⟩) (k + 1) cc))) := Lib.hid (hx3.setCell (by show w1.heap.size ≤ hb0; rw [HHB.out]; exact Nat.le_refl _) _)
        clear hown3 hgrow3
        go_wp2
        go_roundw
        case rel => exact ⟨k + 1, _, by omega, by go_num, HH4, hown4, hx4.out⟩
        case measure => simp [RowKit.intOf]; omega
    · have hkM : k = A.length := by have := HM.out; omega
      rw [hkM] at hown
      have hown2 : wr.ownsRow (hb0 + 1) 37 2 sl (turnA A TT A.length).length (arcC (turnA A TT A.length)) := by rw [turnA_len]; exact hown.out
      obtain ⟨a2, c2, hsl, hin2⟩ := own_arcs hown2
      rw [turnA_len, ← HM.out] at hsl
      subst hsl
      have XW : Ext w wr := y1.out.trans hx
      have hbB : ArcIn wr a2 (zarc (turnA A TT A.length)) := hin2
      have okB := (turnA_turn A TT).ok HOK.out
      have FAo := four_of V.out N a A cap w hN HI.out (by rw [← HM.out]; omega) HOK.out
      have FBo := four_of V.out N a2 (turnA A TT A.length) c2 wr hN hbB (by rw [turnA_len, ← HM.out]; omega) okB
      rw [turnA_len, (turnA_turn A TT).comp, (turnA_turn A TT).bridges, (turnA_turn A TT).cuts, (turnA_turn A TT).blocks] at FBo
      have hlR : ((compP N A).map zl).length ≤ 256 := by rw [List.length_map]; have := compP_len HOK.out; omega
      have hlRr : ∀ r ∈ (compP N A).map zl, r.length ≤ 256 := fun r hr => by
        obtain ⟨q, hq, rfl⟩ := List.mem_map.1 hr
        rw [zl_len]; rw [comp_eq HOK.out] at hq; have := compR_row hq; omega
      have hlS : (zl (bridgesT N A)).length ≤ 256 := by rw [zl_len, bridges_eq HOK.out]; have : (bridgesR N A).length ≤ A.length := brRK_len N A A.length; rw [← HM.out] at this; omega
      have hlT : (zl (cutsT N A)).length ≤ 256 := by rw [zl_len, cuts_eq HOK.out]; have : (cutsR N A).length ≤ N := cutRK_len N A N; omega
      have hlQ : ((blocksT N A).map zl).length ≤ 256 := by rw [List.length_map, blocks_eq HOK.out]; have := blocksR_len N A; rw [← HM.out] at this; omega
      have hlQr : ∀ r ∈ (blocksT N A).map zl, r.length ≤ 256 := fun r hr => by
        obtain ⟨q, hq, rfl⟩ := List.mem_map.1 hr
        rw [zl_len]; rw [blocks_eq HOK.out] at hq; have := blocksR_row hq; rw [← HM.out] at this; omega
      rw [← HM.out] at FAo FBo
      obtain ⟨R, hR⟩ : ∃ R, R = (compP N A).map zl := ⟨_, rfl⟩
      obtain ⟨S, hS⟩ : ∃ S, S = zl (bridgesT N A) := ⟨_, rfl⟩
      obtain ⟨T, hT⟩ : ∃ T, T = zl (cutsT N A) := ⟨_, rfl⟩
      obtain ⟨Q, hQ⟩ : ∃ Q, Q = (blocksT N A).map zl := ⟨_, rfl⟩
      rw [← hR] at hlR hlRr FAo FBo; rw [← hS] at hlS FAo FBo; rw [← hT] at hlT FAo FBo; rw [← hQ] at hlQ hlQr FAo FBo
      have HH0 : wr.cell? ⟨hb0, 0, none⟩ = some (.int .i64 N) := by rw [Lib.cell_of_heap hH.out]; rfl
      have HH1 : wr.cell? ⟨hb0, 1, none⟩ = some (.slice a2 M c2) := by rw [Lib.cell_of_heap hH.out]; rfl
      have HR := Lib.hid hlR; have HRR := Lib.hid hlRr; have HS := Lib.hid hlS; have HT := Lib.hid hlT; have HQ := Lib.hid hlQ; have HQR := Lib.hid hlQr
      have FA := Lib.hid FAo; have FB := Lib.hid FBo
      clear hR hS hT hQ hlR hlRr hlS hlT hlQ hlQr FAo FBo hbB okB hin2 hown hown2 hH hkM hx HI HB HOK HM HTL hi0 hz0 hz1 hz2 hz3 hwl X1 y1 HHB
      go_wp2_with fail
      go_region_held3 (fun w' => w'.cell? ⟨w.heap.size, 0, none⟩ = some (.int .i64 N) ∧ w'.cell? ⟨w.heap.size, 1, none⟩ = some (.slice a M cap) ∧ w'.cell? ⟨hb0, 0, none⟩ = some (.int .i64 N) ∧ w'.cell? ⟨hb0, 1, none⟩ = some (.slice a2 M c2))
        (refine ⟨Ext.cell (w := wr) ?_ b10, Ext.cell (w := wr) ?_ b11, Ext.cell (w := wr) ?_ HH0, Ext.cell (w := wr) ?_ HH1⟩ <;> (repeat (first | assumption | exact Ext.refl _ | refine Ext.alloc ?_ _ | refine Ext.drew ?_)))
        (first
          | (go_at_call 11; with_reducible refine (FA.out.comp _ ?_).mono ?_; (focus (repeat (first | assumption | exact Ext.refl _ | refine Ext.alloc ?_ _ | refine Ext.drew ?_))); rintro e w11 ⟨q11, k11, rfl, i11, x11⟩; have X11 := Ext.trans (a := wr) (by (repeat (first | assumption | exact Ext.refl _ | refine Ext.alloc ?_ _ | refine Ext.drew ?_))) x11; have Y11 := Ext.trans (a := w) (by (repeat (first | assumption | exact Ext.refl _ | refine Ext.alloc ?_ _ | refine Ext.drew ?_))) x11)
          | (go_at_call 11; with_reducible refine (FB.out.comp _ ?_).mono ?_; (focus (repeat (first | assumption | exact Ext.refl _ | refine Ext.alloc ?_ _ | refine Ext.drew ?_))); rintro e w12 ⟨q12, k12, rfl, i12, x12⟩; have X12 := Ext.trans (a := wr) (by (repeat (first | assumption | exact Ext.refl _ | refine Ext.alloc ?_ _ | refine Ext.drew ?_))) x12; have Y12 := Ext.trans (a := w) (by (repeat (first | assumption | exact Ext.refl _ | refine Ext.alloc ?_ _ | refine Ext.drew ?_))) x12)
          | (go_at_call 10; with_reducible refine (lists_eq rfl HR.out HRR.out ?_ ?_).mono ?_; (focus first | exact i11 | exact i11.ext x12); (focus first | exact i12 | exact i12.ext x11); rintro e w13 ⟨rfl, x13⟩; have X13 := Ext.trans (a := wr) (by (repeat (first | assumption | exact Ext.refl _ | refine Ext.alloc ?_ _ | refine Ext.drew ?_))) x13; have Y13 := Ext.trans (a := w) (by (repeat (first | assumption | exact Ext.refl _ | refine Ext.alloc ?_ _ | refine Ext.drew ?_))) x13)
          | (go_at_call 16; with_reducible refine (FA.out.brid _ ?_).mono ?_; (focus (repeat (first | assumption | exact Ext.refl _ | refine Ext.alloc ?_ _ | refine Ext.drew ?_))); rintro e w14 ⟨q14, k14, rfl, i14, x14⟩; have X14 := Ext.trans (a := wr) (by (repeat (first | assumption | exact Ext.refl _ | refine Ext.alloc ?_ _ | refine Ext.drew ?_))) x14; have Y14 := Ext.trans (a := w) (by (repeat (first | assumption | exact Ext.refl _ | refine Ext.alloc ?_ _ | refine Ext.drew ?_))) x14)
          | (go_at_call 16; with_reducible refine (FB.out.brid _ ?_).mono ?_; (focus (repeat (first | assumption | exact Ext.refl _ | refine Ext.alloc ?_ _ | refine Ext.drew ?_))); rintro e w15 ⟨q15, k15, rfl, i15, x15⟩; have X15 := Ext.trans (a := wr) (by (repeat (first | assumption | exact Ext.refl _ | refine Ext.alloc ?_ _ | refine Ext.drew ?_))) x15; have Y15 := Ext.trans (a := w) (by (repeat (first | assumption | exact Ext.refl _ | refine Ext.alloc ?_ _ | refine Ext.drew ?_))) x15)
          | (go_at_call 15; with_reducible refine (same_eq rfl HS.out ?_ ?_).mono ?_; (focus first | exact i14 | exact i14.ext x15); (focus first | exact i15 | exact i15.ext x14); rintro e w16 ⟨rfl, x16⟩; have X16 := Ext.trans (a := wr) (by (repeat (first | assumption | exact Ext.refl _ | refine Ext.alloc ?_ _ | refine Ext.drew ?_))) x16; have Y16 := Ext.trans (a := w) (by (repeat (first | assumption | exact Ext.refl _ | refine Ext.alloc ?_ _ | refine Ext.drew ?_))) x16)
          | (go_at_call 18; with_reducible refine (FA.out.cuts _ ?_).mono ?_; (focus (repeat (first | assumption | exact Ext.refl _ | refine Ext.alloc ?_ _ | refine Ext.drew ?_))); rintro e w17 ⟨q17, k17, rfl, i17, x17⟩; have X17 := Ext.trans (a := wr) (by (repeat (first | assumption | exact Ext.refl _ | refine Ext.alloc ?_ _ | refine Ext.drew ?_))) x17; have Y17 := Ext.trans (a := w) (by (repeat (first | assumption | exact Ext.refl _ | refine Ext.alloc ?_ _ | refine Ext.drew ?_))) x17)
          | (go_at_call 18; with_reducible refine (FB.out.cuts _ ?_).mono ?_; (focus (repeat (first | assumption | exact Ext.refl _ | refine Ext.alloc ?_ _ | refine Ext.drew ?_))); rintro e w18 ⟨q18, k18, rfl, i18, x18⟩; have X18 := Ext.trans (a := wr) (by (repeat (first | assumption | exact Ext.refl _ | refine Ext.alloc ?_ _ | refine Ext.drew ?_))) x18; have Y18 := Ext.trans (a := w) (by (repeat (first | assumption | exact Ext.refl _ | refine Ext.alloc ?_ _ | refine Ext.drew ?_))) x18)
          | (go_at_call 15; with_reducible refine (same_eq rfl HT.out ?_ ?_).mono ?_; (focus first | exact i17 | exact i17.ext x18); (focus first | exact i18 | exact i18.ext x17); rintro e w19 ⟨rfl, x19⟩; have X19 := Ext.trans (a := wr) (by (repeat (first | assumption | exact Ext.refl _ | refine Ext.alloc ?_ _ | refine Ext.drew ?_))) x19; have Y19 := Ext.trans (a := w) (by (repeat (first | assumption | exact Ext.refl _ | refine Ext.alloc ?_ _ | refine Ext.drew ?_))) x19)
          | (go_at_call 22; with_reducible refine (FA.out.blks _ ?_).mono ?_; (focus (repeat (first | assumption | exact Ext.refl _ | refine Ext.alloc ?_ _ | refine Ext.drew ?_))); rintro e w20 ⟨q20, k20, rfl, i20, x20⟩; have X20 := Ext.trans (a := wr) (by (repeat (first | assumption | exact Ext.refl _ | refine Ext.alloc ?_ _ | refine Ext.drew ?_))) x20; have Y20 := Ext.trans (a := w) (by (repeat (first | assumption | exact Ext.refl _ | refine Ext.alloc ?_ _ | refine Ext.drew ?_))) x20)
          | (go_at_call 22; with_reducible refine (FB.out.blks _ ?_).mono ?_; (focus (repeat (first | assumption | exact Ext.refl _ | refine Ext.alloc ?_ _ | refine Ext.drew ?_))); rintro e w21 ⟨q21, k21, rfl, i21, x21⟩; have X21 := Ext.trans (a := wr) (by (repeat (first | assumption | exact Ext.refl _ | refine Ext.alloc ?_ _ | refine Ext.drew ?_))) x21; have Y21 := Ext.trans (a := w) (by (repeat (first | assumption | exact Ext.refl _ | refine Ext.alloc ?_ _ | refine Ext.drew ?_))) x21)
          | (go_at_call 10; with_reducible refine (lists_eq rfl HQ.out HQR.out ?_ ?_).mono ?_; (focus first | exact i20 | exact i20.ext x21); (focus first | exact i21 | exact i21.ext x20); rintro e w22 ⟨rfl, x22⟩; have X22 := Ext.trans (a := wr) (by (repeat (first | assumption | exact Ext.refl _ | refine Ext.alloc ?_ _ | refine Ext.drew ?_))) x22; have Y22 := Ext.trans (a := w) (by (repeat (first | assumption | exact Ext.refl _ | refine Ext.alloc ?_ _ | refine Ext.drew ?_))) x22)
          | (go_at_call 9; refine (awake_any V.out _).mono ?_; rintro e w4 ⟨rfl, x4⟩; have X4 := Ext.trans (a := wr) (by (repeat (first | assumption | exact Ext.refl _ | refine Ext.alloc ?_ _ | refine Ext.drew ?_))) x4; have Y4 := Ext.trans (a := w) (by (repeat (first | assumption | exact Ext.refl _ | refine Ext.alloc ?_ _ | refine Ext.drew ?_))) x4))
      all_goals (
        go_wp2_with fail
        go_ret
        exact ⟨rfl, Y4⟩)
end Go.Proofs.Ytaipcpdncmnelaa.Pt

/- The law of turned arcs, for every argument. -/
namespace Go.Proofs.Ytaipcpdncmnelaa.Pt
open Go.RowKit Go.Sort Go.Lib Fx Tp

set_option maxHeartbeats 4000000 in
theorem turns_card (g t : Value) (w : World) (hg : DigArg w g) (ht : BoolsArg w t) : Calls Try.prog 7 #[g, t] w fun e w' => e = .returned (.bool true) ∧ Ext w w' := by
  obtain ⟨n, a, L, cap, rfl, hn0, hn1, h, hk, hL⟩ := hg
  obtain ⟨ta, TT, tc, rfl, hb, hbl⟩ := ht
  have hval := fun w1 (x : Ext w w1) => validR_any n a L cap w1 hn0 hn1 (h.ext x) hk hL
  by_cases hv : validL n L = true
  · by_cases h100 : L.length ≤ 100
    · obtain ⟨N, A, rfl, hN, hz, hA, ok⟩ := valid_nat hv
      have hz : L = zarc A := hz
      subst hz
      rw [zarc_len] at h100 ⊢
      exact turns_in vis N a A cap ta TT tc w hN h h100 ok hb hbl
    · rw [hv] at hval
      obtain ⟨M, hM⟩ : ∃ M, M = L.length := ⟨_, rfl⟩
      rw [← hM] at hL hval h100 ⊢
      have HV := Lib.hid hval
      have hgt : (100 : Int) < (M : Int) := by omega
      clear h hM hval hk hv hb hbl
      go_enter Try.func7, Try.ntmps7
      go_wp2_with (first
        | (go_at_call 24; refine (HV.out _ ((Ext.refl _).alloc _)).mono ?_; rintro e w1 ⟨rfl, x1⟩; have b1 := box_two x1; have b10 := b1.1; have b11 := b1.2)
        | (go_at_call 9; refine (awake_any vis _).mono ?_; rintro e w4 ⟨rfl, x4⟩))
      go_ret
      exact ⟨rfl, (((Ext.refl _).alloc _).trans x1).trans x4⟩
  · have hv : validL n L = false := by simpa using hv
    rw [hv] at hval
    obtain ⟨M, hM⟩ : ∃ M, M = L.length := ⟨_, rfl⟩
    rw [← hM] at hL hval ⊢
    have HV := Lib.hid hval
    clear h hM hval hk hv hb hbl
    go_enter Try.func7, Try.ntmps7
    go_wp2_with (first
      | (go_at_call 24; refine (HV.out _ ((Ext.refl _).alloc _)).mono ?_; rintro e w1 ⟨rfl, x1⟩; have b1 := box_two x1; have b10 := b1.1; have b11 := b1.2)
      | (go_at_call 9; refine (awake_any vis _).mono ?_; rintro e w4 ⟨rfl, x4⟩))
    go_ret
    exact ⟨rfl, (((Ext.refl _).alloc _).trans x1).trans x4⟩
end Go.Proofs.Ytaipcpdncmnelaa.Pt

/- ends: the vertices of a block. -/
namespace Go.Proofs.Ytaipcpdncmnelaa.Pt
open Go.RowKit Go.Sort Go.Lib Fx Tp

def endS (A : Arcs) (l : List Bool) (e : Nat) : List Bool := (l.set (arcN A e).1 true).set (arcN A e).2 true
def endsK (N : Nat) (A : Arcs) (C : List Nat) (k : Nat) : List Bool := (C.take k).foldl (endS A) (List.replicate N false)
/-- For each vertex whether an edge of the block ends there. -/
def endsT (N : Nat) (A : Arcs) (C : List Nat) : List Bool := endsK N A C C.length
theorem endsK_succ (N : Nat) (A : Arcs) (C : List Nat) (k : Nat) (h : k < C.length) : endsK N A C (k + 1) = endS A (endsK N A C k) C[k] := by
  unfold endsK; rw [List.take_succ_eq_append_getElem h, List.foldl_append]; rfl
theorem endS_len (A : Arcs) (l : List Bool) (e : Nat) : (endS A l e).length = l.length := by unfold endS; simp
theorem endsK_len (N : Nat) (A : Arcs) (C : List Nat) : ∀ k, k ≤ C.length → (endsK N A C k).length = N
  | 0, _ => by simp [endsK]
  | k + 1, h => by rw [endsK_succ N A C k (by omega), endS_len]; exact endsK_len N A C k (by omega)
theorem endsT_len (N : Nat) (A : Arcs) (C : List Nat) : (endsT N A C).length = N := endsK_len N A C C.length (Nat.le_refl _)
theorem endF_at {A : Arcs} (v : Nat) : ∀ (C : List Nat) (l : List Bool), v < l.length → ((C.foldl (endS A) l).getD v false = true ↔ l.getD v false = true ∨ v ∈ vertsOf A C)
  | [], l, _ => by simp [vertsOf]
  | e :: C, l, hv => by
    rw [List.foldl_cons, endF_at v C (endS A l e) (by rw [endS_len]; exact hv)]
    have h1 : v ∈ vertsOf A (e :: C) ↔ v = (arcN A e).1 ∨ v = (arcN A e).2 ∨ v ∈ vertsOf A C := by
      unfold vertsOf
      rw [List.flatMap_cons, List.mem_append, List.mem_cons, List.mem_singleton, or_assoc]
    rw [h1]
    unfold endS
    rw [getD_set, getD_set]
    by_cases a : (arcN A e).2 = v
    · rw [if_pos ⟨a, by rw [List.length_set, a]; exact hv⟩]
      exact ⟨fun _ => .inr (.inr (.inl a.symm)), fun _ => .inl rfl⟩
    · rw [if_neg (fun h => a h.1)]
      by_cases b : (arcN A e).1 = v
      · rw [if_pos ⟨b, by rw [b]; exact hv⟩]
        exact ⟨fun _ => .inr (.inl b.symm), fun _ => .inl rfl⟩
      · rw [if_neg (fun h => b h.1)]
        constructor
        · rintro (h | h)
          · exact .inl h
          · exact .inr (.inr (.inr h))
        · rintro (h | h | h | h)
          · exact .inl h
          · exact absurd h.symm b
          · exact absurd h.symm a
          · exact .inr h
theorem endsT_at {N : Nat} {A : Arcs} {C : List Nat} {v : Nat} (hv : v < N) : (endsT N A C).getD v false = true ↔ v ∈ vertsOf A C := by
  unfold endsT endsK
  rw [List.take_length, endF_at v C _ (by simpa using hv)]
  rw [List.getD_eq_getElem?_getD, List.getElem?_replicate_of_lt hv]
  simp
theorem BlkB.boolIn {w : World} {b : Nat} {L : List Bool} (h : BlkB w b L) : BoolIn w (some ⟨b, 0, none⟩) L := fun k hk => by
  refine ⟨b, 0, rfl, ?_⟩
  rw [h.cell0 hk, List.getD_eq_getElem?_getD, List.getElem?_eq_getElem hk]; rfl

set_option maxHeartbeats 8000000 in
set_option maxRecDepth 100000 in
theorem ends_any (N : Nat) (a : Option Addr) (A : Arcs) (cap : Nat) (ba : Option Addr) (C : List Nat) (bc : Nat) (w : World) (hN : N ≤ 64) (h : ArcIn w a (zarc A)) (hA : A.length ≤ 256) (ok : Ok N A) (hC : IntIn w ba (zl C)) (hl : C.length ≤ 256) (hlt : ∀ e ∈ C, e < A.length) :
    Calls Try.prog 25 #[.agg #[.int .i64 (N : Int), .slice a A.length cap], .slice ba C.length bc] w fun e w' => (∃ b, e = .returned (.tuple #[.slice (some ⟨b, 0, none⟩) N N, .bool true]) ∧ BlkB w' b (endsT N A C)) ∧ Ext w w' := by
  have hfin : endsT N A C = endsK N A C C.length := rfl
  obtain ⟨M, hM⟩ : ∃ M, M = A.length := ⟨_, rfl⟩
  obtain ⟨K, hK⟩ : ∃ K, K = C.length := ⟨_, rfl⟩
  rw [← hM] at hA ⊢
  rw [← hK] at hl hfin ⊢
  have hmk := run_make_row' (P := Try.prog) 33 4 (.bool false) 1 Try.underlying33 info_bool rfl .i64 .i64 N (by omega) (by omega)
  have HI := Lib.hid h; have HM := Lib.hid hM; have HOK := Lib.hid ok; have HCI := Lib.hid hC; have HK := Lib.hid hK; have HLT := Lib.hid hlt; have HFIN := Lib.hid hfin
  clear h hM ok hC hK hlt hfin
  go_enter Try.func25, Try.ntmps25
  go_wp2
  obtain ⟨w1, hw1⟩ : ∃ w1, w1 = w.alloc (.cells #[.int .i64 N, .slice a M cap] 24) := ⟨_, rfl⟩
  have X1 : Hid (Ext (w.alloc (.cells #[.int .i64 N, .slice a M cap] 24)) w1) := Lib.hid (by rw [hw1]; exact Ext.refl _)
  have hw1s : Hid (w1.heap.size = w.heap.size + 1) := Lib.hid (by rw [hw1]; simp)
  rw [← hw1]
  have XW : Hid (Ext w w1) := Lib.hid (((Ext.refl _).alloc _).trans X1.out)
  clear hw1 hmk
  rw [← hw1s.out]
  obtain ⟨bm, hbm⟩ : ∃ bm, bm = w1.heap.size := ⟨_, rfl⟩
  rw [← hbm]
  have HBM := Lib.hid hbm
  clear hbm
  go_loopw [7] (fun i' wr => ∃ k : Nat, k ≤ K ∧ i' = .int .i64 k ∧ Hid (BlkB wr bm (endsK N A C k)) ∧ Ext w1 wr) (fun i' _ => K - (RowKit.intOf i').toNat)
  case atStart => exact ⟨0, Nat.zero_le _, rfl, Lib.hid (by rw [HBM.out]; exact BlkB.made w1 N), (Ext.refl _).alloc _⟩
  case round =>
    obtain ⟨k, hk, rfl, hblk, hx⟩ := hrel
    obtain ⟨b10, b11⟩ := box_two (X1.out.trans hx)
    by_cases hlk : k < K
    · have hkC : k < C.length := by rw [← HK.out]; exact hlk
      have hst := endsK_succ N A C k hkC
      have hsl := endsK_len N A C k (by omega)
      obtain ⟨L, hL⟩ : ∃ L, L = endsK N A C k := ⟨_, rfl⟩
      rw [← hL] at hblk hst hsl
      obtain ⟨g, o, rfl, c0⟩ := (HCI.out.ext (XW.out.trans hx)) k (by rw [zl_len]; exact hkC)
      rw [zl_at _ _ hkC] at c0
      have heA := HLT.out _ (List.getElem_mem hkC)
      obtain ⟨e, he⟩ : ∃ e, e = C[k] := ⟨_, rfl⟩
      rw [← he] at c0 hst heA
      obtain ⟨g2, o2, rfl, d0, d1⟩ := (HI.out.ext (XW.out.trans hx)) e (by rw [zarc_len]; exact heA)
      rw [zarc_at A e heA] at d0 d1
      have hok := HOK.out _ (List.getElem_mem heA)
      have hak : arcN A e = A[e] := by unfold arcN; rw [List.getD_eq_getElem?_getD, List.getElem?_eq_getElem heA]; rfl
      obtain ⟨x, hxe⟩ : ∃ x, x = A[e].1 := ⟨_, rfl⟩
      obtain ⟨y, hye⟩ : ∃ x, x = A[e].2 := ⟨_, rfl⟩
      rw [← hxe] at d0 hok; rw [← hye] at d1 hok
      have HST : Hid (endsK N A C (k + 1) = (L.set x true).set y true) := Lib.hid (by rw [hst]; unfold endS; rw [hak, hxe, hye])
      have heM : e < M := by rw [HM.out]; exact heA
      have b0 : (0 : Int) ≤ (k : Int) := by omega
      have b1 : (k : Int) < (K : Int) := by omega
      have b2 : (0 : Int) ≤ (e : Int) := by omega
      have b3 : (e : Int) < (M : Int) := by omega
      have b4 : ¬ (e : Int) < 0 := by omega
      have b5 : ¬ (M : Int) ≤ (e : Int) := by omega
      have d4 : decide ((e : Int) < 0) = false := decide_eq_false b4
      have d5 : decide ((M : Int) ≤ (e : Int)) = false := decide_eq_false b5
      have b6 : (0 : Int) ≤ (x : Int) := by omega
      have b7 : (x : Int) < (N : Int) := by omega
      have b8 : (0 : Int) ≤ (y : Int) := by omega
      have b9 : (y : Int) < (N : Int) := by omega
      have hbl := hblk.out.lt
      clear hst hL he hak hxe hye
      go_wp2_with fail
      go_quiet (fail)
      have x9 : Ext wr (wr.drewN nq) := (Ext.refl _).drewN _
      obtain ⟨w9, hw9⟩ : ∃ w9, w9 = wr.drewN nq := ⟨_, rfl⟩
      rw [← hw9] at x9 ⊢
      clear hw9
      have hblk9 := Lib.hid (hblk.out.ext x9)
      have hx9 := hx.trans x9
      have c9 := x9.cell c0; have d90 := x9.cell d0; have d91 := x9.cell d1; have b90 := x9.cell b10; have b91 := x9.cell b11
      have hb9 := hblk9.out.lt
      have c9a := fun ob => ((Ext.refl w9).alloc ob).cell c9
      have d9a := fun ob => ((Ext.refl w9).alloc ob).cell d90
      have d9b := fun ob => ((Ext.refl w9).alloc ob).cell d91
      have b9a := fun ob => ((Ext.refl w9).alloc ob).cell b90
      have b9b := fun ob => ((Ext.refl w9).alloc ob).cell b91
      clear hblk hx x9 c0 d0 d1 b10 b11 hbl
      go_wp2_with fail
      go_region
      have xA : Ext w9 (w9.alloc (.cells #[.int .i64 x, .int .i64 y] 37)).drew := ((Ext.refl _).alloc _).drew
      have ax := arc_box w9 (.int .i64 x) (.int .i64 y) 37
      have A0 := (Ext.drew (Ext.refl _)).cell ax.1
      have A1 := (Ext.drew (Ext.refl _)).cell ax.2
      obtain ⟨wA, hwA⟩ : ∃ wA, wA = (w9.alloc (.cells #[.int .i64 x, .int .i64 y] 37)).drew := ⟨_, rfl⟩
      rw [← hwA] at xA A0 A1 ⊢
      clear hwA ax c9a d9a d9b b9a b9b c9 d90 d91 b90 b91
      have hblkA := hblk9.out.ext xA
      have hxA := hx9.trans xA
      have hne : w9.heap.size ≠ bm := by omega
      have hblkB := hblkA.set x true
      have hblkC := Lib.hid (hblkB.set y true)
      have m0 := hblkA.cellD (j := x) (by rw [hsl]; exact hok.1)
      have f0 := hblkA.frozen x
      have m1 := hblkB.cellD (j := y) (by rw [List.length_set, hsl]; exact hok.2)
      have f1 := hblkB.frozen y
      have A3 := (keep_cell (b := bm) wA x (.bool true) hne (i := 1) (v := .int .i64 y)).1 A1
      have A2 := (keep_cell (b := bm) wA x (.bool true) hne (i := 0) (v := .int .i64 x)).1 A0
      have hxC : Hid (Ext w1 ((wA.setCell ⟨bm, x, none⟩ (.bool true)).setCell ⟨bm, y, none⟩ (.bool true))) := Lib.hid ((hxA.setCell (by show w1.heap.size ≤ bm; rw [HBM.out]; exact Nat.le_refl _) _).setCell (by show w1.heap.size ≤ bm; rw [HBM.out]; exact Nat.le_refl _) _)
      clear hblk9 hx9 hblkA hblkB hxA xA
      go_wp2
      go_roundw
      case rel => exact ⟨k + 1, by omega, by go_num, by rw [HST.out]; exact hblkC, hxC.out⟩
      case measure => simp [RowKit.intOf]; omega
    · have hkK : k = K := by omega
      rw [hkK, ← HFIN.out] at hblk
      clear hkK
      go_wp2
      go_ret2
      exact ⟨⟨_, rfl, hblk.out⟩, XW.out.trans hx⟩
end Go.Proofs.Ytaipcpdncmnelaa.Pt
