/- Packed texts: PrtLab, TopKeep, PrtRows, PrtVis -/
import Derived.Test.YtaipcpdncmnelaaPu02
import Derived.StillTailTactics
import Derived.Test.YtaipcpdncmnelaaPu01
set_option linter.unusedVariables false
set_option linter.unusedSimpArgs false
/- The document's Labels: the row of labels, as labT computes it. -/
namespace Go.Proofs.Ytaipcpdncmnelaa.Pt
open Go.RowKit Go.Sort Go.Lib Fx Tp

theorem labR_take (e x : Int) : ∀ (A : Arcs) (i k : Nat) (s : List Int × Bool) (h : k < A.length), labR e x i (A.take (k + 1)) s = labS e x (i + k) A[k] (labR e x i (A.take k) s)
  | p :: A, i, 0, s, _ => by simp [labR]
  | p :: A, i, k + 1, s, h => by
    simp only [List.take_succ_cons, labR, List.getElem_cons_succ]
    rw [labR_take e x A (i + 1) k _ (by simpa using h)]
    congr 1; omega
theorem labS_len (e x : Int) (i : Nat) (p : Nat × Nat) (s : List Int × Bool) : (labS e x i p s).1.length = s.1.length := by
  unfold labS; split
  · simp
  · rfl
theorem labR_len (e x : Int) : ∀ (A : Arcs) (i : Nat) (s : List Int × Bool), (labR e x i A s).1.length = s.1.length
  | [], _, _ => rfl
  | p :: A, i, s => by rw [labR, labR_len e x A (i + 1), labS_len]
theorem lab0_len (N : Nat) (x : Int) : (lab0 N x).length = N := by simp [lab0]
theorem labN_len (A : Arcs) (e x : Int) : ∀ (n : Nat) (l : List Int), (labN A e x n l).length = l.length
  | 0, _ => rfl
  | n + 1, l => by
    unfold labN; dsimp only; split
    · rw [labN_len A e x n, labR_len]
    · rw [labR_len]
theorem labT_len (N : Nat) (A : Arcs) (e x : Int) : (labT N A e x).length = N := by unfold labT; rw [labN_len, lab0_len]
theorem lab0_take (N : Nat) (x : Int) (k : Nat) (h : k < N) : (lab0 N x).take (k + 1) = (lab0 N x).take k ++ [if (k : Int) = x then -1 else (k : Int)] := by
  rw [List.take_succ_eq_append_getElem (by rw [lab0_len]; exact h)]
  simp [lab0]
/-- What the labels may be. -/
def LabOk (N : Nat) (l : List Int) : Prop := l.length = N ∧ ∀ j, -1 ≤ l.getD j 0 ∧ l.getD j 0 < 64
theorem labOk_set {N : Nat} {l : List Int} (h : LabOk N l) (i : Nat) (v : Int) (hv : -1 ≤ v ∧ v < 64) : LabOk N (l.set i v) := by
  refine ⟨by rw [List.length_set]; exact h.1, fun j => ?_⟩
  rw [getD_set]; split
  · exact hv
  · exact h.2 j
theorem labOk_S {N : Nat} {s : List Int × Bool} (h : LabOk N s.1) (e x : Int) (i : Nat) (p : Nat × Nat) : LabOk N (labS e x i p s).1 := by
  unfold labS; split
  · have h1 := h.2 p.1; have h2 := h.2 p.2
    exact labOk_set (labOk_set h _ _ (by omega)) _ _ (by omega)
  · exact h
theorem labOk_R {N : Nat} (e x : Int) : ∀ (A : Arcs) (i : Nat) (s : List Int × Bool), LabOk N s.1 → LabOk N (labR e x i A s).1
  | [], _, _, h => h
  | p :: A, i, s, h => labOk_R e x A (i + 1) _ (labOk_S h e x i p)
theorem labOk_0 (N : Nat) (x : Int) (hN : N ≤ 64) : LabOk N (lab0 N x) := by
  refine ⟨lab0_len N x, fun j => ?_⟩
  unfold lab0
  rw [List.getD_eq_getElem?_getD, List.getElem?_map]
  by_cases hj : j < N
  · rw [List.getElem?_range hj]
    simp only [Option.map_some, Option.getD_some]
    split <;> omega
  · rw [List.getElem?_eq_none (by simpa using hj)]; simp
theorem iv_set (L : List Int) (j : Nat) (x : Int) : (iv L).set j (.int .i64 x) = iv (L.set j x) := by simp [iv, List.map_set]
theorem iv_get {L : List Int} {j : Nat} (h : j < L.length) : (iv L)[j]? = some (.int .i64 (L.getD j 0)) := by
  unfold iv; rw [List.getElem?_map, List.getD_eq_getElem?_getD, List.getElem?_eq_getElem h]; rfl
theorem own_form {w : World} {B : Nat} {e : TypeId} {sz : Nat} {v : Value} {n : Nat} {xs : List Value} (h : w.ownsRow B e sz v n xs) (hn : 0 < n) : ∃ g c, v = .slice (some ⟨g, 0, none⟩) n c ∧ B ≤ g := by
  rcases h.2 with ⟨_, h2⟩ | ⟨g, cap, cur, rfl, hb, _⟩
  · omega
  · exact ⟨g, cap, rfl, hb⟩
theorem keep_cell {b c : Nat} (w : World) (j : Nat) (u : Value) (h : c ≠ b) {i : Nat} {v : Value} : (w.cell? ⟨c, i, none⟩ = some v → (w.setCell ⟨b, j, none⟩ u).cell? ⟨c, i, none⟩ = some v) ∧ (w.frozen? ⟨c, i, none⟩ = false → (w.setCell ⟨b, j, none⟩ u).frozen? ⟨c, i, none⟩ = false) := by
  have e : (w.setCell ⟨b, j, none⟩ u).heap[c]? = w.heap[c]? := Below.heap_setCell _ _ _ _ h
  exact ⟨fun x => by rw [World.cell?_of_block (w := w) e]; exact x, fun x => by rw [World.frozen?_of_block (w := w) e]; exact x⟩
theorem arc_box (w : World) (x y : Value) (T : TypeId) : (w.alloc (.cells #[x, y] T)).cell? ⟨w.heap.size, 0, none⟩ = some x ∧ (w.alloc (.cells #[x, y] T)).cell? ⟨w.heap.size, 1, none⟩ = some y :=
  ⟨by rw [Lib.cell_of_heap (heap_alloc_new w _)]; rfl, by rw [Lib.cell_of_heap (heap_alloc_new w _)]; rfl⟩
theorem new_cells' (w : World) (l : List Value) (T : TypeId) (n : Nat) (hn : w.heap.size = n) : ∀ j u, l[j]? = some u → (w.alloc (.cells l.toArray T)).cell? ((⟨n, 0, none⟩ : Addr).add j) = some u := by
  intro j u hu
  rw [add_at, ← hn, Lib.cell_of_heap (heap_alloc_new w _)]
  simpa using hu
theorem box_two {w w1 : World} {x y : Value} {T : TypeId} (h : Ext (w.alloc (.cells #[x, y] T)) w1) : w1.cell? ⟨w.heap.size, 0, none⟩ = some x ∧ w1.cell? ⟨w.heap.size, 1, none⟩ = some y :=
  ⟨h.cell (arc_box w x y T).1, h.cell (arc_box w x y T).2⟩
set_option maxHeartbeats 4000000 in
set_option maxRecDepth 100000 in
theorem labels_any (N : Nat) (a : Option Addr) (A : Arcs) (cap : Nat) (ee xx : Int) (w : World) (hN : N ≤ 64) (h : ArcIn w a (zarc A)) (hA : A.length ≤ 256) (ok : Ok N A) (he : -1 ≤ ee ∧ ee ≤ 300) (hx0 : -1 ≤ xx ∧ xx ≤ 300) :
    Calls Try.prog 33 #[.agg #[.int .i64 N, .slice a A.length cap], .int .i64 ee, .int .i64 xx] w fun e w' => (∃ a c, e = .returned (.slice a N c) ∧ IntIn w' a (labT N A ee xx) ∧ ∀ g o, a = some ⟨g, o, none⟩ → w.heap.size ≤ g ∧ g < w'.heap.size) ∧ Ext w w' := by
  obtain ⟨M, hM⟩ : ∃ M, M = A.length := ⟨_, rfl⟩
  rw [← hM] at hA ⊢
  obtain ⟨i0, hi, hz0, hz1, hz2⟩ := info_parts info_int
  have HI := Lib.hid h
  have HM := Lib.hid hM; have HOK := Lib.hid ok
  clear h hM ok
  obtain ⟨he0, he1⟩ := he
  obtain ⟨hx0, hx1⟩ := hx0
  go_enter Try.func33, Try.ntmps33
  go_wp2
  obtain ⟨w1, hw1⟩ : ∃ w1, w1 = w.alloc (.cells #[.int .i64 N, .slice a M cap] 24) := ⟨_, rfl⟩
  have X1 : Hid (Ext (w.alloc (.cells #[.int .i64 N, .slice a M cap] 24)) w1) := Lib.hid (by rw [hw1]; exact Ext.refl _)
  have hw1s : Hid (w1.heap.size = w.heap.size + 1) := Lib.hid (by rw [hw1]; simp)
  rw [← hw1]
  clear hw1
  go_loopw [7, 8] (fun o' i' wr => ∃ (k : Nat) (sl : Value), k ≤ N ∧ sl = o' ∧ i' = .int .i64 k ∧ Hid (wr.ownsRow w1.heap.size 3 1 sl k (iv ((lab0 N xx).take k))) ∧ Ext w1 wr) (fun _ i' _ => N - (RowKit.intOf i').toNat)
  case atStart => exact ⟨0, _, Nat.zero_le _, rfl, rfl, Lib.hid (by rw [← hw1s.out]; exact World.ownsRow_lit w1 #[] 0 (Nat.le_refl _) (by unfold maxLen; omega) rfl), (Ext.refl _).alloc _⟩
  case round =>
    obtain ⟨k, sl, hk, rfl, rfl, hown, hx⟩ := hrel
    obtain ⟨b10, b11⟩ := box_two (X1.out.trans hx)
    by_cases hlt : k < N
    · have hst := lab0_take N xx k hlt
      by_cases hkx : (k : Int) = xx
      · rw [if_pos hkx] at hst
        obtain ⟨f1, f2⟩ := eq_facts hkx
        have HST := Lib.hid hst
        clear hst
        go_wp2_with (at_builtin; refine wpList_append_lies _ rfl _ _ 31 rfl w1.heap.size 3 i0 _ 1 8 Try.underlying31 hi hz0 hz1 hz2 rfl (by decide) _ _ _ rfl (hown.out.alloc _) ⟨wr.heap.size, 0, none⟩ 1 1 [.int .i64 (-1)] rfl rfl ?c1 ?c2 (by decide) ?c3 ?c4 ?c5 _ rfl ?_)
        case c1 => exact new_cells' _ [_] _ _ rfl
        case c2 => simp [Value.oneCell']
        case c3 => unfold maxLen; omega
        case c4 => omega
        case c5 => have := hx.size; simp; omega
        intro gg cc w3 hown3 hgrow3 _ _
        have hx3 : Ext w1 w3 := Below.grown (hx.alloc _) hgrow3 (by have := hx.size; simp; omega) (fun q hq => by have := (hown.out.lt q hq).1; omega)
        have hown4 : Hid (w3.ownsRow w1.heap.size 3 1 (.slice (some ⟨gg, 0, none⟩) (k + 1) cc) (k + 1) (iv ((lab0 N xx).take (k + 1)))) := Lib.hid (by rw [HST.out, iv_app]; exact hown3)
        clear hown3 hgrow3
        go_wp2
        go_roundw
        case rel => exact ⟨k + 1, _, by omega, rfl, by go_num, hown4, hx3⟩
        case measure => simp [RowKit.intOf]; omega
      · rw [if_neg hkx] at hst
        obtain ⟨f1, f2⟩ := neq_facts hkx
        have HST := Lib.hid hst
        clear hst
        go_wp2_with (at_builtin; refine wpList_append_lies _ rfl _ _ 31 rfl w1.heap.size 3 i0 _ 1 8 Try.underlying31 hi hz0 hz1 hz2 rfl (by decide) _ _ _ rfl (hown.out.alloc _) ⟨wr.heap.size, 0, none⟩ 1 1 [.int .i64 k] rfl rfl ?c1 ?c2 (by decide) ?c3 ?c4 ?c5 _ rfl ?_)
        case c1 => exact new_cells' _ [_] _ _ rfl
        case c2 => simp [Value.oneCell']
        case c3 => unfold maxLen; omega
        case c4 => omega
        case c5 => have := hx.size; simp; omega
        intro gg cc w3 hown3 hgrow3 _ _
        have hx3 : Ext w1 w3 := Below.grown (hx.alloc _) hgrow3 (by have := hx.size; simp; omega) (fun q hq => by have := (hown.out.lt q hq).1; omega)
        have hown4 : Hid (w3.ownsRow w1.heap.size 3 1 (.slice (some ⟨gg, 0, none⟩) (k + 1) cc) (k + 1) (iv ((lab0 N xx).take (k + 1)))) := Lib.hid (by rw [HST.out, iv_app]; exact hown3)
        clear hown3 hgrow3
        go_wp2
        go_roundw
        case rel => exact ⟨k + 1, _, by omega, rfl, by go_num, hown4, hx3⟩
        case measure => simp [RowKit.intOf]; omega
    · obtain rfl : k = N := by omega
      have hl0 := lab0_len k xx
      have htk : (lab0 k xx).take k = lab0 k xx := List.take_of_length_le (by omega)
      rw [htk] at hown
      clear htk
      go_wp2
      go_loopw [9] (fun r' wr => ∃ (r : Nat) (l : List Int), r ≤ k ∧ r' = .int .i64 r ∧ Hid (LabOk k l ∧ labN A ee xx (k - r) l = labT k A ee xx) ∧ Hid (wr.ownsRow w1.heap.size 3 1 sl k (iv l)) ∧ Ext w1 wr) (fun r' _ => k - (RowKit.intOf r').toNat)
      case atStart => exact ⟨0, lab0 k xx, Nat.zero_le _, rfl, Lib.hid ⟨labOk_0 k xx hN, rfl⟩, hown, hx⟩
      case round =>
        clear b10 b11 hown hx
        obtain ⟨r, l, hr, rfl, hl, hown, hx⟩ := hrel
        obtain ⟨b10, b11⟩ := box_two (X1.out.trans hx)
        by_cases hlt : r < k
        · obtain ⟨sg, sc, rfl, hsg⟩ := own_form hown.out (by omega)
          obtain ⟨wo, hwo⟩ : ∃ wo : World, wo = wr := ⟨_, rfl⟩
          subst hwo
          go_wp2
          go_loopw [10, 11] (fun c' i' wr => ∃ (i : Nat) (s : List Int × Bool), i ≤ M ∧ c' = .bool s.2 ∧ i' = .int .i64 i ∧ Hid (s = labR ee xx 0 (A.take i) (l, false)) ∧ Hid (wr.ownsRow w1.heap.size 3 1 (.slice (some ⟨sg, 0, none⟩) k sc) k (iv s.1)) ∧ Ext w1 wr) (fun _ i' _ => M - (RowKit.intOf i').toNat)
          case atStart => exact ⟨0, (l, false), Nat.zero_le _, rfl, rfl, Lib.hid rfl, hown, hx⟩
          case round =>
            clear b10 b11 hown hx
            obtain ⟨i, s, hi', rfl, rfl, hs, hown, hx⟩ := hrel
            obtain ⟨b10, b11⟩ := box_two (X1.out.trans hx)
            have hsok : LabOk k s.1 := by rw [hs.out]; exact labOk_R _ _ _ _ _ hl.out.1
            by_cases hlt' : i < M
            · have hiA : i < A.length := by rw [← HM.out]; exact hlt'
              obtain ⟨g, o, rfl, d0, d1⟩ := (HI.out.ext (((Ext.refl _).alloc _).trans (X1.out.trans hx))) i (by rw [zarc_len]; exact hiA)
              rw [zarc_at A i hiA] at d0 d1
              have hok := HOK.out _ (List.getElem_mem hiA)
              have hst := labR_take ee xx A 0 i (l, false) hiA
              rw [← hs.out, Nat.zero_add] at hst
              obtain ⟨y, hye⟩ : ∃ y, y = A[i].2 := ⟨_, rfl⟩
              obtain ⟨x, hxe⟩ : ∃ x, x = A[i].1 := ⟨_, rfl⟩
              unfold labS at hst
              rw [← hxe] at d0 hok hst; rw [← hye] at d1 hok hst
              have hx8 := hsok.2 x; have hy8 := hsok.2 y
              have hlx := iv_get (L := s.1) (j := x) (by rw [hsok.1]; exact hok.1)
              have hly := iv_get (L := s.1) (j := y) (by rw [hsok.1]; exact hok.2)
              obtain ⟨p, hp⟩ : ∃ p, p = s.1.getD x 0 := ⟨_, rfl⟩
              obtain ⟨q, hq⟩ : ∃ q, q = s.1.getD y 0 := ⟨_, rfl⟩
              rw [← hp] at hx8 hlx; rw [← hq] at hy8 hly
              rw [← hp, ← hq] at hst
              have e0 := (hown.out.cellAt x (by omega)).trans hlx
              have e1 := (hown.out.cellAt y (by omega)).trans hly
              have fz := hown.out.frozenAt
              have HST := Lib.hid hst
              have ax := arc_box wr (.int .i64 x) (.int .i64 y) 37
              obtain ⟨a0, a1⟩ := ax
              have xa : Ext w1 (wr.alloc (.cells #[.int .i64 x, .int .i64 y] 37)) := hx.alloc _
              have e2 := ((Ext.refl wr).alloc (.cells #[.int .i64 x, .int .i64 y] 37)).cell e0
              have e3 := ((Ext.refl wr).alloc (.cells #[.int .i64 x, .int .i64 y] 37)).cell e1
              have hown2 := Lib.hid (hown.out.alloc (.cells #[.int .i64 x, .int .i64 y] 37))
              clear hlx hly hst hxe hye hp hq
              by_cases c0 : (i : Int) = ee
              · obtain ⟨c01, c02⟩ := eq_facts c0
                have hE : Hid (labR ee xx 0 (A.take (i + 1)) (l, false) = s) := Lib.hid (by rw [HST.out, if_neg (fun h => h.1 c0)])
                clear c0
                go_wp2_with fail
                go_quiet (fail)
                go_wp2
                go_roundw
                case rel => exact ⟨i + 1, s, by omega, rfl, by go_num, Lib.hid hE.out.symm, Lib.hid (own_ext' hown2.out (by first | exact (Ext.refl _).drew | exact (Ext.refl _).drewN _)), by first | exact xa.drew | exact xa.drewN _⟩
                case measure => simp [RowKit.intOf]; omega
              obtain ⟨c01, c02⟩ := neq_facts c0
              by_cases c3 : (x : Int) = xx
              · obtain ⟨c31, c32⟩ := eq_facts c3
                have hE : Hid (labR ee xx 0 (A.take (i + 1)) (l, false) = s) := Lib.hid (by rw [HST.out, if_neg (fun h => h.2.1 c3)])
                clear c0 c3
                go_wp2_with fail
                go_quiet (fail)
                go_wp2
                go_roundw
                case rel => exact ⟨i + 1, s, by omega, rfl, by go_num, Lib.hid hE.out.symm, Lib.hid (own_ext' hown2.out (by first | exact (Ext.refl _).drew | exact (Ext.refl _).drewN _)), by first | exact xa.drew | exact xa.drewN _⟩
                case measure => simp [RowKit.intOf]; omega
              obtain ⟨c31, c32⟩ := neq_facts c3
              by_cases c4 : (y : Int) = xx
              · obtain ⟨c41, c42⟩ := eq_facts c4
                have hE : Hid (labR ee xx 0 (A.take (i + 1)) (l, false) = s) := Lib.hid (by rw [HST.out, if_neg (fun h => h.2.2.1 c4)])
                clear c0 c3 c4
                go_wp2_with fail
                go_quiet (fail)
                go_wp2
                go_roundw
                case rel => exact ⟨i + 1, s, by omega, rfl, by go_num, Lib.hid hE.out.symm, Lib.hid (own_ext' hown2.out (by first | exact (Ext.refl _).drew | exact (Ext.refl _).drewN _)), by first | exact xa.drew | exact xa.drewN _⟩
                case measure => simp [RowKit.intOf]; omega
              obtain ⟨c41, c42⟩ := neq_facts c4
              by_cases c5 : p = q
              · obtain ⟨c51, c52⟩ := eq_facts c5
                have hE : Hid (labR ee xx 0 (A.take (i + 1)) (l, false) = s) := Lib.hid (by rw [HST.out, if_neg (fun h => h.2.2.2 c5)])
                clear c0 c3 c4 c5
                go_wp2_with fail
                go_quiet (fail)
                go_wp2
                go_roundw
                case rel => exact ⟨i + 1, s, by omega, rfl, by go_num, Lib.hid hE.out.symm, Lib.hid (own_ext' hown2.out (by first | exact (Ext.refl _).drew | exact (Ext.refl _).drewN _)), by first | exact xa.drew | exact xa.drewN _⟩
                case measure => simp [RowKit.intOf]; omega
              obtain ⟨c51, c52⟩ := neq_facts c5
              have hsgl := Lib.hid ((hown.out.lt sg rfl).2)
              by_cases hpq : p ≤ q
              · have hE : Hid (labR ee xx 0 (A.take (i + 1)) (l, false) = ((s.1.set x p).set y p, true)) := Lib.hid (by rw [HST.out, if_pos ⟨c0, c3, c4, c5⟩, show min p q = p by omega])
                clear c0 c3 c4 c5
                go_wp2_with fail
                go_quiet (fail)
                have x9 : Ext (wr.alloc (.cells #[.int .i64 x, .int .i64 y] 37)) ((wr.alloc (.cells #[.int .i64 x, .int .i64 y] 37)).drewN nq) := (Ext.refl _).drewN _
                obtain ⟨w9, hw9⟩ : ∃ w9, w9 = (wr.alloc (.cells #[.int .i64 x, .int .i64 y] 37)).drewN nq := ⟨_, rfl⟩
                rw [← hw9] at x9 ⊢
                clear hw9
                have a0' := x9.cell a0; have a1' := x9.cell a1; have e2' := x9.cell e2; have e3' := x9.cell e3
                have hown9 := Lib.hid (own_ext' hown2.out x9)
                have xa9 := xa.trans x9
                clear a0 a1 e2 e3 hown2 x9 e0 e1 fz b10 b11 d0 d1 hx hown c01 c02 c31 c32 c41 c42 c51 c52
                go_wp2_with fail
                go_quiet (fail)
                have x9 : Ext w9 (w9.drewN nq) := (Ext.refl _).drewN _
                obtain ⟨wt, hwt⟩ : ∃ wt, wt = w9.drewN nq := ⟨_, rfl⟩
                rw [← hwt] at x9 ⊢
                clear hwt
                have a0 := x9.cell a0'; have a1 := x9.cell a1'; have e2 := x9.cell e2'; have e3 := x9.cell e3'
                have hown8 := Lib.hid (own_ext' hown9.out x9)
                have xa8 := xa9.trans x9
                have fz := hown8.out.frozenAt
                clear a0' a1' e2' e3' hown9 x9 xa9
                obtain ⟨st1, st2⟩ := hown8.out.stored x (.int .i64 p)
                obtain ⟨su1, su2⟩ := st1.stored y (.int .i64 p)
                have hne : wr.heap.size ≠ sg := Nat.ne_of_gt hsgl.out
                have t0 := (keep_cell (b := sg) wt x (.int .i64 p) hne (i := 0) (v := .int .i64 x)).1 a0
                have t1 := (keep_cell (b := sg) wt x (.int .i64 p) hne (i := 1) (v := .int .i64 y)).1 a1
                have fz1 := st1.frozenAt
                have u1 : (wt.setCell ⟨sg, x, none⟩ (.int .i64 p)).cell? ⟨sg, y, none⟩ = some (.int .i64 ((s.1.set x p).getD y 0)) := by rw [iv_set] at st1; exact (st1.cellAt y (by omega)).trans (iv_get (by rw [List.length_set, hsok.1]; exact hok.2))
                have FIN : Hid ((wt.setCell ⟨sg, x, none⟩ (.int .i64 p)).setCell ⟨sg, y, none⟩ (.int .i64 p) |>.ownsRow w1.heap.size 3 1 (.slice (some ⟨sg, 0, none⟩) k sc) k (iv ((s.1.set x p).set y p))) := Lib.hid (by rw [iv_set, iv_set] at su1; exact su1)
                have XIN : Hid (Ext w1 ((wt.setCell ⟨sg, x, none⟩ (.int .i64 p)).setCell ⟨sg, y, none⟩ (.int .i64 p))) := Lib.hid ((xa8.setCell hsg _).setCell hsg _)
                clear su1 su2 st1 st2 hown8
                go_wp2_with fail
                go_region
                all_goals go_wp2
                all_goals go_roundw
                all_goals first | exact ⟨i + 1, ((s.1.set x p).set y p, true), by omega, rfl, by go_num, Lib.hid hE.out.symm, FIN, XIN.out⟩ | exact ⟨i + 1, ((s.1.set x p).set y p, true), by omega, rfl, by go_num, Lib.hid hE.out.symm, FIN, XIN.out.drew⟩ | (simp [RowKit.intOf]; omega)
              · have hE : Hid (labR ee xx 0 (A.take (i + 1)) (l, false) = ((s.1.set x q).set y q, true)) := Lib.hid (by rw [HST.out, if_pos ⟨c0, c3, c4, c5⟩, show min p q = q by omega])
                clear c0 c3 c4 c5
                go_wp2_with fail
                go_quiet (fail)
                have x9 : Ext (wr.alloc (.cells #[.int .i64 x, .int .i64 y] 37)) ((wr.alloc (.cells #[.int .i64 x, .int .i64 y] 37)).drewN nq) := (Ext.refl _).drewN _
                obtain ⟨w9, hw9⟩ : ∃ w9, w9 = (wr.alloc (.cells #[.int .i64 x, .int .i64 y] 37)).drewN nq := ⟨_, rfl⟩
                rw [← hw9] at x9 ⊢
                clear hw9
                have a0' := x9.cell a0; have a1' := x9.cell a1; have e2' := x9.cell e2; have e3' := x9.cell e3
                have hown9 := Lib.hid (own_ext' hown2.out x9)
                have xa9 := xa.trans x9
                clear a0 a1 e2 e3 hown2 x9 e0 e1 fz b10 b11 d0 d1 hx hown c01 c02 c31 c32 c41 c42 c51 c52
                go_wp2_with fail
                go_quiet (fail)
                have x9 : Ext w9 (w9.drewN nq) := (Ext.refl _).drewN _
                obtain ⟨wt, hwt⟩ : ∃ wt, wt = w9.drewN nq := ⟨_, rfl⟩
                rw [← hwt] at x9 ⊢
                clear hwt
                have a0 := x9.cell a0'; have a1 := x9.cell a1'; have e2 := x9.cell e2'; have e3 := x9.cell e3'
                have hown8 := Lib.hid (own_ext' hown9.out x9)
                have xa8 := xa9.trans x9
                have fz := hown8.out.frozenAt
                clear a0' a1' e2' e3' hown9 x9 xa9
                obtain ⟨st1, st2⟩ := hown8.out.stored x (.int .i64 q)
                obtain ⟨su1, su2⟩ := st1.stored y (.int .i64 q)
                have hne : wr.heap.size ≠ sg := Nat.ne_of_gt hsgl.out
                have t0 := (keep_cell (b := sg) wt x (.int .i64 q) hne (i := 0) (v := .int .i64 x)).1 a0
                have t1 := (keep_cell (b := sg) wt x (.int .i64 q) hne (i := 1) (v := .int .i64 y)).1 a1
                have fz1 := st1.frozenAt
                have u1 : (wt.setCell ⟨sg, x, none⟩ (.int .i64 q)).cell? ⟨sg, y, none⟩ = some (.int .i64 ((s.1.set x q).getD y 0)) := by rw [iv_set] at st1; exact (st1.cellAt y (by omega)).trans (iv_get (by rw [List.length_set, hsok.1]; exact hok.2))
                have FIN : Hid ((wt.setCell ⟨sg, x, none⟩ (.int .i64 q)).setCell ⟨sg, y, none⟩ (.int .i64 q) |>.ownsRow w1.heap.size 3 1 (.slice (some ⟨sg, 0, none⟩) k sc) k (iv ((s.1.set x q).set y q))) := Lib.hid (by rw [iv_set, iv_set] at su1; exact su1)
                have XIN : Hid (Ext w1 ((wt.setCell ⟨sg, x, none⟩ (.int .i64 q)).setCell ⟨sg, y, none⟩ (.int .i64 q))) := Lib.hid ((xa8.setCell hsg _).setCell hsg _)
                clear su1 su2 st1 st2 hown8
                go_wp2_with fail
                go_region
                all_goals go_wp2
                all_goals go_roundw
                all_goals first | exact ⟨i + 1, ((s.1.set x q).set y q, true), by omega, rfl, by go_num, Lib.hid hE.out.symm, FIN, XIN.out⟩ | exact ⟨i + 1, ((s.1.set x q).set y q, true), by omega, rfl, by go_num, Lib.hid hE.out.symm, FIN, XIN.out.drew⟩ | (simp [RowKit.intOf]; omega)
            · have hiM : i = A.length := by have := HM.out; omega
              have hs2 := hs.out
              rw [hiM, List.take_length] at hs2
              have hsp := hl.out.2
              have hkr : k - r = (k - (r + 1)) + 1 := by omega
              rw [hkr] at hsp
              unfold labN at hsp
              dsimp only at hsp
              rw [← hs2] at hsp
              obtain ⟨s1, s2⟩ := s
              cases s2 with
              | false =>
                have hres : s1 = labT k A ee xx := by simpa using hsp
                have HO := hown
                dsimp only at HO
                rw [hres] at HO
                clear hown hres hl hsp hs2 hs hiM hkr
                go_wp2
                go_ret
                obtain ⟨oa, oc, h1, h2, -⟩ := own_ints HO.out (by rw [labT_len])
                rw [labT_len] at h1
                injection h1 with h3 h4 h5
                subst h3; subst h5
                refine ⟨⟨_, ⟨_, rfl⟩, h2, fun g o e => ?_⟩, ((Ext.refl _).alloc _).trans (X1.out.trans hx)⟩
                have h5 := HO.out.lt g (by rw [e]; rfl)
                have := hw1s.out
                exact ⟨by omega, h5.2⟩
              | true =>
                have HSP : Hid (LabOk k s1 ∧ labN A ee xx (k - (r + 1)) s1 = labT k A ee xx) := Lib.hid ⟨hsok, by simpa using hsp⟩
                clear hl hsp hs2 hs hiM hkr
                go_wp2
                go_roundw
                case rel => exact ⟨r + 1, s1, by omega, by go_num, HSP, hown, hx⟩
                case measure => simp [RowKit.intOf]; omega
        · obtain rfl : r = k := by omega
          have hres : l = labT r A ee xx := by have := hl.out.2; rwa [Nat.sub_self] at this
          have HO := hown
          rw [hres] at HO
          clear hown hres hl
          go_wp2
          go_ret
          obtain ⟨oa, oc, h1, h2, -⟩ := own_ints HO.out (by rw [labT_len])
          rw [labT_len] at h1
          subst h1
          refine ⟨⟨oa, oc, rfl, h2, fun g o e => ?_⟩, ((Ext.refl _).alloc _).trans (X1.out.trans hx)⟩
          have h5 := HO.out.lt g (by rw [e]; rfl)
          have := hw1s.out
          exact ⟨by omega, h5.2⟩
end Go.Proofs.Ytaipcpdncmnelaa.Pt

/- Worlds that differ in some blocks alone. -/
namespace Go.Proofs.Ytaipcpdncmnelaa.Tp
open Go.RowKit Go.Sort Go.Lib Fx

/-- Nothing of what was there has turned but the blocks of S. -/
structure Keep (S : Nat → Prop) (w w' : World) : Prop where
  os : w'.os = w.os
  tape : w'.tape = w.tape
  output : w'.output = w.output
  size : w.heap.size ≤ w'.heap.size
  block : ∀ k, k < w.heap.size → ¬ S k → w'.heap[k]? = w.heap[k]?
theorem Keep.refl (S : Nat → Prop) (w : World) : Keep S w w := ⟨rfl, rfl, rfl, Nat.le_refl _, fun _ _ _ => rfl⟩
theorem Keep.of {S : Nat → Prop} {a b : World} (h : Ext a b) : Keep S a b := ⟨h.os, h.tape, h.output, h.size, fun k hk _ => h.block k hk⟩
theorem Keep.mono {S T : Nat → Prop} {a b : World} (h : Keep S a b) (hs : ∀ k, k < a.heap.size → S k → T k) : Keep T a b := ⟨h.os, h.tape, h.output, h.size, fun k hk ht => h.block k hk (fun x => ht (hs k hk x))⟩
theorem Keep.trans {S : Nat → Prop} {a b c : World} (h : Keep S a b) (k : Keep S b c) : Keep S a c :=
  ⟨k.os.trans h.os, k.tape.trans h.tape, k.output.trans h.output, Nat.le_trans h.size k.size, fun i hi hs => (k.block i (Nat.lt_of_lt_of_le hi h.size) hs).trans (h.block i hi hs)⟩
/-- .. where the second may turn what the first has laid, too. -/
theorem Keep.trans' {S T : Nat → Prop} {a b c : World} (h : Keep S a b) (k : Keep T b c) (hs : ∀ i, i < a.heap.size → T i → S i) : Keep S a c :=
  ⟨k.os.trans h.os, k.tape.trans h.tape, k.output.trans h.output, Nat.le_trans h.size k.size, fun i hi hn => (k.block i (Nat.lt_of_lt_of_le hi h.size) (fun x => hn (hs i hi x))).trans (h.block i hi hn)⟩
theorem Keep.ext {S : Nat → Prop} {a b c : World} (h : Keep S a b) (x : Ext b c) : Keep S a c := h.trans (.of x)
theorem Keep.alloc {S : Nat → Prop} {a b : World} (h : Keep S a b) (o : Obj) : Keep S a (b.alloc o) := h.ext ((Ext.refl _).alloc o)
theorem Keep.drew {S : Nat → Prop} {a b : World} (h : Keep S a b) : Keep S a b.drew := h.ext ((Ext.refl _).drew)
theorem Keep.setCell {S : Nat → Prop} {a b : World} (h : Keep S a b) (p : Addr) (u : Value) (hp : S p.block ∨ a.heap.size ≤ p.block) : Keep S a (b.setCell p u) :=
  ⟨h.os, h.tape, h.output, by have := h.size; simpa [World.setCell] using this, fun k hk hn => (Below.heap_setCell _ _ _ _ (fun e => hp.elim (fun hp => hn (by rw [e]; exact hp)) (fun hp => by omega))).trans (h.block k hk hn)⟩
theorem Keep.grown {S : Nat → Prop} {a b c : World} {row : Option Nat} (h : Keep S a b) (g : b.grownBy c row) (hr : ∀ k, row = some k → k < a.heap.size → S k) : Keep S a c :=
  ⟨g.os.trans h.os, g.tape.trans h.tape, g.output.trans h.output, Nat.le_trans h.size g.size, fun k hk hn => (g.block k (Nat.lt_of_lt_of_le hk h.size) (fun e => hn (hr k e.symm hk))).trans (h.block k hk hn)⟩
theorem Keep.heap {S : Nat → Prop} {a b : World} (h : Keep S a b) {k : Nat} {o : Obj} (ho : a.heap[k]? = some o) (hn : ¬ S k) : b.heap[k]? = some o :=
  (h.block k (Array.getElem?_eq_some_iff.1 ho).1 hn).trans ho
theorem Keep.cell {S : Nat → Prop} {a b : World} (h : Keep S a b) {p : Addr} {v : Value} (hv : a.cell? p = some v) (hn : ¬ S p.block) : b.cell? p = some v := by
  rw [World.cell?_of_block (w := a) (h.block _ (World.block_lt_of_cell? _ _ hv) hn)]; exact hv
theorem Keep.below {S : Nat → Prop} {a b : World} (h : Keep S a b) {n : Nat} (hn : n ≤ a.heap.size) (hs : ∀ k, k < n → ¬ S k) : Below n a b :=
  ⟨h.os, h.tape, h.output, h.size, fun k hk => h.block k (by omega) (hs k hk)⟩
theorem Keep.extW {S : Nat → Prop} {w a b : World} (x : Ext w a) (h : Keep S a b) (hs : ∀ k, k < w.heap.size → ¬ S k) : Ext w b := Below.trans x (h.below x.size hs)
end Go.Proofs.Ytaipcpdncmnelaa.Tp

/- Rows of rows under way: an owned row of slices, each with its numbers in a block of its own. -/
namespace Go.Proofs.Ytaipcpdncmnelaa.Pt
open Go.RowKit Go.Sort Go.Lib Fx Tp

theorem own_keep {S : Nat → Prop} {w w' : World} {B : Nat} {e : TypeId} {sz : Nat} {v : Value} {n : Nat} {xs : List Value} (h : w.ownsRow B e sz v n xs) (k : Keep S w w') (hn : ∀ g, v.ownBlock = some g → ¬ S g) : w'.ownsRow B e sz v n xs := by
  refine ⟨h.1, ?_⟩
  rcases h.2 with h1 | ⟨g, cap, cur, hv, hb, hg, r⟩
  · exact .inl h1
  · exact .inr ⟨g, cap, cur, hv, hb, k.heap hg (hn g (by rw [hv]; rfl)), r⟩
theorem own_low {w : World} {B B' : Nat} {e : TypeId} {sz : Nat} {v : Value} {n : Nat} {xs : List Value} (h : w.ownsRow B e sz v n xs) (hb : B' ≤ B) : w.ownsRow B' e sz v n xs := by
  refine ⟨h.1, ?_⟩
  rcases h.2 with h9 | ⟨g, cap, cur, hv, hg, r⟩
  · exact .inl h9
  · exact .inr ⟨g, cap, cur, hv, Nat.le_trans hb hg, r⟩
/-- The rows lie behind fs. -/
structure RowsF (w : World) (B : Nat) (fv : Value) (fs : List Value) (F : List (List Nat)) : Prop where
  own : w.ownsRow B 31 1 fv F.length fs
  row : ∀ j (h : j < F.length), ∃ a c, fs[j]? = some (.slice a F[j].length c) ∧ IntIn w a (zl F[j]) ∧ ∀ q, a = some q → B ≤ q.block ∧ q.block < w.heap.size ∧ fv.ownBlock ≠ some q.block
def RowsAt (w : World) (B : Nat) (fv : Value) (F : List (List Nat)) : Prop := ∃ fs, RowsF w B fv fs F
/-- The blocks that are used. -/
def Uses (fv : Value) (fs : List Value) (g : Nat) : Prop := fv.ownBlock = some g ∨ ∃ s ∈ fs, s.ownBlock = some g
theorem RowsF.ext {w w2 : World} {B : Nat} {fv : Value} {fs : List Value} {F : List (List Nat)} (h : RowsF w B fv fs F) (x : Ext w w2) : RowsF w2 B fv fs F := by
  refine ⟨own_ext' h.own x, fun j hj => ?_⟩
  obtain ⟨a, c, h3, h4, h5⟩ := h.row j hj
  exact ⟨a, c, h3, h4.ext x, fun q e => by obtain ⟨h6, h7, h8⟩ := h5 q e; exact ⟨h6, Nat.lt_of_lt_of_le h7 x.size, h8⟩⟩
theorem RowsF.keep {S : Nat → Prop} {w w2 : World} {B : Nat} {fv : Value} {fs : List Value} {F : List (List Nat)} (h : RowsF w B fv fs F) (k : Keep S w w2) (hs : ∀ g, Uses fv fs g → ¬ S g) : RowsF w2 B fv fs F := by
  refine ⟨own_keep h.own k (fun g hg => hs g (.inl hg)), fun j hj => ?_⟩
  obtain ⟨a, c, h3, h4, h5⟩ := h.row j hj
  refine ⟨a, c, h3, fun i hi => ?_, fun q e => by obtain ⟨h6, h7, h8⟩ := h5 q e; exact ⟨h6, Nat.lt_of_lt_of_le h7 k.size, h8⟩⟩
  obtain ⟨g, o, ha, hc⟩ := h4 i hi
  refine ⟨g, o, ha, k.cell hc (hs g (.inr ⟨_, List.mem_of_getElem? h3, by rw [ha]; rfl⟩))⟩
/-- All of them lie in their range. -/
theorem RowsF.uses {w : World} {B : Nat} {fv : Value} {fs : List Value} {F : List (List Nat)} (h : RowsF w B fv fs F) {g : Nat} (u : Uses fv fs g) : B ≤ g ∧ g < w.heap.size := by
  rcases u with u | ⟨s, hs, hg⟩
  · exact h.own.lt g u
  · obtain ⟨j, hj, e⟩ := List.getElem_of_mem hs
    have hl : fs.length = F.length := by have := h.own.1; omega
    obtain ⟨a, c, h3, -, h5⟩ := h.row j (by omega)
    rw [List.getElem?_eq_getElem hj] at h3
    have h3 := Option.some.inj h3
    rw [e] at h3
    rw [h3] at hg
    cases a with
    | none => cases hg
    | some a =>
      have hg : a.block = g := by simpa [Value.ownBlock] using hg
      have := h5 a rfl
      rw [hg] at this
      exact ⟨this.1, this.2.1⟩
theorem RowsF.push {w w2 : World} {B g n c : Nat} {fv : Value} {F : List (List Nat)} {k : List Nat} {pa : Option Addr} {pc : Nat} {fs : List Value} (f : RowsF w B fv fs F)
    (hp : IntIn w pa (zl k)) (hpa : ∀ q, pa = some q → B ≤ q.block ∧ q.block < w.heap.size ∧ fv.ownBlock ≠ some q.block)
    (f1' : w2.ownsRow B 31 1 (.slice (some ⟨g, 0, none⟩) n c) n (fs ++ [.slice pa k.length pc])) (hn : n = F.length + 1) (hg : w.grownBy w2 fv.ownBlock) (hat : fv.ownBlock = some g ∨ w.heap.size ≤ g) :
    RowsF w2 B (.slice (some ⟨g, 0, none⟩) n c) (fs ++ [.slice pa k.length pc]) (F ++ [k]) := by
  have hlen : fs.length = F.length := by have := f.own.1; omega
  have old : ∀ (a : Option Addr) (l : List Nat), IntIn w a (zl l) → (∀ q, a = some q → B ≤ q.block ∧ q.block < w.heap.size ∧ fv.ownBlock ≠ some q.block) →
      IntIn w2 a (zl l) ∧ ∀ q, a = some q → B ≤ q.block ∧ q.block < w2.heap.size ∧ (Value.slice (some ⟨g, 0, none⟩) n c).ownBlock ≠ some q.block := by
    intro a l h4 h5
    refine ⟨fun i hi => ?_, fun q ha => ?_⟩
    · obtain ⟨q, o, ha, hc⟩ := h4 i hi
      obtain ⟨h6, h9, h8⟩ := h5 _ ha
      exact ⟨q, o, ha, hg.cell hc (fun e => h8 e.symm)⟩
    · obtain ⟨h6, h9, h8⟩ := h5 q ha
      refine ⟨h6, Nat.lt_of_lt_of_le h9 hg.size, fun e => ?_⟩
      have e : g = q.block := by simpa [Value.ownBlock] using e
      rcases hat with h1 | h1
      · rw [e] at h1; exact h8 h1
      · omega
  refine ⟨?_, fun j hj => ?_⟩
  · have : (F ++ [k]).length = n := by rw [List.length_append, hn]; rfl
    rw [this]; exact f1'
  · by_cases hlt : j < F.length
    · obtain ⟨a, d, h3, h4, h5⟩ := f.row j hlt
      have e : (F ++ [k])[j] = F[j] := List.getElem_append_left hlt
      refine ⟨a, d, ?_, ?_⟩
      · rw [e, List.getElem?_append_left (by omega)]; exact h3
      · rw [e]; exact old a _ h4 h5
    · rw [List.length_append, List.length_singleton] at hj
      have hjn : j = F.length := by omega
      subst hjn
      have e : (F ++ [k])[F.length] = k := by rw [List.getElem_append_right (Nat.le_refl _)]; simp
      refine ⟨pa, pc, ?_, ?_⟩
      · rw [e, ← hlen]; simp
      · rw [e]; exact old pa _ hp hpa
theorem RowsAt.ext {w w2 : World} {B : Nat} {fv : Value} {F : List (List Nat)} (h : RowsAt w B fv F) (x : Ext w w2) : RowsAt w2 B fv F := by
  obtain ⟨fs, h1⟩ := h
  exact ⟨fs, h1.ext x⟩
theorem RowsAt.push {w w2 : World} {B g n c : Nat} {fv : Value} {F : List (List Nat)} {k : List Nat} {pa : Option Addr} {pc : Nat} {fs : List Value}
    (hp : IntIn w pa (zl k)) (hpa : ∀ q, pa = some q → B ≤ q.block ∧ q.block < w.heap.size ∧ fv.ownBlock ≠ some q.block)
    (f1 : w.ownsRow B 31 1 fv F.length fs) (f2 : ∀ j (h : j < F.length), ∃ a c, fs[j]? = some (.slice a F[j].length c) ∧ IntIn w a (zl F[j]) ∧ ∀ q, a = some q → B ≤ q.block ∧ q.block < w.heap.size ∧ fv.ownBlock ≠ some q.block)
    (f1' : w2.ownsRow B 31 1 (.slice (some ⟨g, 0, none⟩) n c) n (fs ++ [.slice pa k.length pc])) (hn : n = F.length + 1) (hg : w.grownBy w2 fv.ownBlock) (hat : fv.ownBlock = some g ∨ w.heap.size ≤ g) :
    RowsAt w2 B (.slice (some ⟨g, 0, none⟩) n c) (F ++ [k]) := ⟨_, RowsF.push ⟨f1, f2⟩ hp hpa f1' hn hg hat⟩
/-- The rows of it, to be read; where they lie. -/
theorem RowsAt.rows {w : World} {B : Nat} {fv : Value} {F : List (List Nat)} (h : RowsAt w B fv F) : ∃ fa fc, fv = .slice fa F.length fc ∧ Tp.RowsIn w fa (F.map zl) := by
  obtain ⟨fs, h1, h2⟩ := h
  rcases h1.2 with ⟨rfl, h3⟩ | ⟨g, cap, cur, rfl, _⟩
  · exact ⟨none, 0, by rw [h3], fun j hj => absurd hj (by rw [List.length_map, h3]; exact Nat.not_lt_zero j)⟩
  · refine ⟨_, _, rfl, fun j hj => ?_⟩
    have hj' : j < F.length := by simpa using hj
    obtain ⟨a, c, e1, e2, _⟩ := h2 j hj'
    have hc := h1.cells (g := g) rfl j _ e1
    rw [add_at] at hc
    refine ⟨g, 0, a, c, rfl, ?_, ?_⟩
    · rw [List.getElem_map, zl_len, Nat.zero_add]; exact hc
    · rw [List.getElem_map]; exact e2
theorem RowsAt.low {w : World} {B B' : Nat} {fv : Value} {F : List (List Nat)} (h : RowsAt w B fv F) (hb : B' ≤ B) : RowsAt w B' fv F := by
  obtain ⟨fs, h1, h2⟩ := h
  refine ⟨fs, ⟨h1.1, ?_⟩, fun j hj => ?_⟩
  · rcases h1.2 with h9 | ⟨g, cap, cur, hv, hg, r⟩
    · exact .inl h9
    · exact .inr ⟨g, cap, cur, hv, Nat.le_trans hb hg, r⟩
  obtain ⟨a, c, h3, h4, h5⟩ := h2 j hj
  exact ⟨a, c, h3, h4, fun q e => by obtain ⟨h6, h7, h8⟩ := h5 q e; exact ⟨Nat.le_trans hb h6, h7, h8⟩⟩
theorem RowsAt.nil (w : World) (B : Nat) : RowsAt w B (.slice none 0 0) [] := ⟨[], ⟨by simp, .inl ⟨rfl, rfl⟩⟩, fun j hj => absurd hj (by simp)⟩
theorem RowsAt.lit (w : World) (B : Nat) (h : B ≤ w.heap.size) : RowsAt (w.alloc (.cells #[] 31)) B (.slice (some ⟨w.heap.size, 0, none⟩) 0 0) [] :=
  ⟨[], World.ownsRow_lit w #[] 0 h (by unfold maxLen; omega) rfl, fun j hj => absurd hj (by simp)⟩
theorem range_filter' (f : Nat → Bool) (k : Nat) : (List.range (k + 1)).filter f = (List.range k).filter f ++ (if f k = true then [k] else []) := by
  rw [List.range_succ, List.filter_append]
  by_cases h : f k = true
  · simp [h]
  · simp [h]
/-! ### classes -/
def clsF (l : List Int) (i k : Nat) : Bool := (List.range k).all (fun j => l.getD j 0 != l.getD i 0)
def clsR (l : List Int) (i k : Nat) : List Nat := (List.range k).filter (fun j => decide (i ≤ j) && (l.getD j 0 == l.getD i 0))
def clsK (l : List Int) (k : Nat) : List (List Nat) := ((List.range k).filter (fun i => clsF l i i)).map (fun i => clsR l i l.length)
/-- The document's classes. -/
def classesT (l : List Int) : List (List Nat) := clsK l l.length
theorem clsF_succ (l : List Int) (i k : Nat) : clsF l i (k + 1) = (clsF l i k && (l.getD k 0 != l.getD i 0)) := by
  unfold clsF; rw [List.range_succ, List.all_append]; simp
theorem clsR_succ (l : List Int) (i k : Nat) (h : i ≤ k) : clsR l i (k + 1) = clsR l i k ++ (if l.getD k 0 = l.getD i 0 then [k] else []) := by
  unfold clsR; rw [range_filter']
  by_cases e : l.getD k 0 = l.getD i 0
  · rw [if_pos e, if_pos (by simp only [beq_iff_eq, Bool.and_eq_true, decide_eq_true_eq]; exact ⟨h, e⟩)]
  · rw [if_neg e, if_neg (by simp only [beq_iff_eq, Bool.and_eq_true, decide_eq_true_eq]; exact fun x => e x.2)]
theorem clsR_zero (l : List Int) (i : Nat) : clsR l i i = [] := by
  unfold clsR; rw [List.filter_eq_nil_iff]; intro a ha
  have := List.mem_range.1 ha
  simp only [Bool.and_eq_true, decide_eq_true_eq]; omega
theorem clsR_len (l : List Int) (i k : Nat) : (clsR l i k).length ≤ k := Nat.le_trans (List.length_filter_le _ _) (by simp)
theorem clsK_succ (l : List Int) (k : Nat) : clsK l (k + 1) = clsK l k ++ (if clsF l k k = true then [clsR l k l.length] else []) := by
  unfold clsK; rw [range_filter', List.map_append]
  by_cases e : clsF l k k = true
  · rw [if_pos e, if_pos e]; rfl
  · rw [if_neg e, if_neg e]; rfl
theorem clsK_len (l : List Int) (k : Nat) : (clsK l k).length ≤ k := by
  unfold clsK; rw [List.length_map]; exact Nat.le_trans (List.length_filter_le _ _) (by simp)
end Go.Proofs.Ytaipcpdncmnelaa.Pt

/- The search by lowpoints as a plain function, and its law: what a visit has found when it returns. No program in sight. -/
namespace Go.Proofs.Ytaipcpdncmnelaa.Pt
open Tp

/-! ### edges -/
def touch (p : Nat × Nat) (v : Nat) : Bool := p.1 != p.2 && (p.1 == v || p.2 == v)
def arcN (A : Arcs) (i : Nat) : Nat × Nat := A.getD i (0, 0)
def incK (A : Arcs) (k v : Nat) : List Nat := (List.range k).filter (fun i => touch (arcN A i) v)
def incT (A : Arcs) (v : Nat) : List Nat := incK A A.length v
def oth (A : Arcs) (e v : Nat) : Nat := (arcN A e).1 + (arcN A e).2 - v
theorem mem_incT {A : Arcs} {e v : Nat} : e ∈ incT A v ↔ e < A.length ∧ (arcN A e).1 ≠ (arcN A e).2 ∧ ((arcN A e).1 = v ∨ (arcN A e).2 = v) := by
  unfold incT incK touch
  simp only [List.mem_filter, List.mem_range, Bool.and_eq_true, bne_iff_ne, Bool.or_eq_true, beq_iff_eq, ne_eq]
theorem incT_nodup (A : Arcs) (v : Nat) : (incT A v).Nodup := List.Pairwise.filter _ List.nodup_range
theorem oth_inc {A : Arcs} {e v : Nat} (h : e ∈ incT A v) : e ∈ incT A (oth A e v) ∧ oth A e (oth A e v) = v ∧ oth A e v ≠ v := by
  rw [mem_incT] at h ⊢
  unfold oth
  obtain ⟨h1, h2, h3⟩ := h
  refine ⟨⟨h1, h2, ?_⟩, ?_, ?_⟩ <;> rcases h3 with h3 | h3 <;> omega
theorem inc_ends {A : Arcs} {e u v : Nat} (h : e ∈ incT A u) (k : e ∈ incT A v) : v = u ∨ v = oth A e u := by
  rw [mem_incT] at h k
  unfold oth
  omega
theorem arcN_ok {N : Nat} {A : Arcs} (ok : Ok N A) {e : Nat} (h : e < A.length) : (arcN A e).1 < N ∧ (arcN A e).2 < N := by
  have : arcN A e = A[e] := by unfold arcN; rw [List.getD_eq_getElem?_getD, List.getElem?_eq_getElem h]; rfl
  rw [this]; exact ok _ (List.getElem_mem h)
theorem inc_lt {N : Nat} {A : Arcs} (ok : Ok N A) {e v : Nat} (h : e ∈ incT A v) : v < N := by
  rw [mem_incT] at h
  have := arcN_ok ok h.1
  omega
/-! ### joined -/
/-- The arcs that count, in both directions: arc e and vertex x are left out. -/
def keepX (A : Arcs) (e x : Int) (i : Nat) : Bool := decide ((i : Int) ≠ e ∧ ((arcN A i).1 : Int) ≠ x ∧ ((arcN A i).2 : Int) ≠ x)
def und (A : Arcs) (e x : Int) : Arcs := ((List.range A.length).filter (keepX A e x)).flatMap (fun i => [arcN A i, ((arcN A i).2, (arcN A i).1)])
theorem mem_und {A : Arcs} {e x : Int} {a b : Nat} : (a, b) ∈ und A e x ↔ ∃ i, i < A.length ∧ (i : Int) ≠ e ∧ (a : Int) ≠ x ∧ (b : Int) ≠ x ∧ (arcN A i = (a, b) ∨ arcN A i = (b, a)) := by
  unfold und keepX
  simp only [List.mem_flatMap, List.mem_filter, List.mem_range, decide_eq_true_eq, List.mem_cons, List.not_mem_nil, or_false]
  constructor
  · rintro ⟨i, ⟨h1, h2, h3, h4⟩, h5⟩
    rcases h5 with h5 | h5
    · rw [← h5] at h3 h4; exact ⟨i, h1, h2, h3, h4, .inl h5.symm⟩
    · have h6 := (Prod.mk.injEq ..).mp h5
      rw [← h6.2] at h3; rw [← h6.1] at h4
      exact ⟨i, h1, h2, h4, h3, .inr (by rw [h6.1, h6.2])⟩
  · rintro ⟨i, h1, h2, h3, h4, h5⟩
    rcases h5 with h5 | h5
    · exact ⟨i, ⟨h1, h2, by rw [h5]; exact h3, by rw [h5]; exact h4⟩, .inl h5.symm⟩
    · exact ⟨i, ⟨h1, h2, by rw [h5]; exact h4, by rw [h5]; exact h3⟩, .inr (by rw [h5])⟩
/-- a and b are joined without arc e and without vertex x. -/
def J (A : Arcs) (e x : Int) (a b : Nat) : Prop := Path (und A e x) a b
theorem J.symm {A : Arcs} {e x : Int} {a b : Nat} (h : J A e x a b) : J A e x b a := by
  have hs : ∀ {p q : Nat}, (p, q) ∈ und A e x → (q, p) ∈ und A e x := fun {p q} h => by
    rw [mem_und] at h ⊢
    obtain ⟨i, h1, h2, h3, h4, h5⟩ := h
    exact ⟨i, h1, h2, h4, h3, h5.symm⟩
  unfold J at *
  induction h with
  | refl => exact .refl _
  | step _ e1 ih => exact (Path.arc (hs e1)).trans ih
theorem J.trans {A : Arcs} {e x : Int} {a b c : Nat} (h : J A e x a b) (k : J A e x b c) : J A e x a c := Path.trans h k
theorem J.edge {A : Arcs} {x : Int} {e v : Nat} (h : e ∈ incT A v) (h1 : (v : Int) ≠ x) (h2 : (oth A e v : Int) ≠ x) : J A (-1) x v (oth A e v) := by
  refine Path.arc (mem_und.2 ⟨e, (mem_incT.1 h).1, by omega, h1, h2, ?_⟩)
  have := mem_incT.1 h
  unfold oth
  generalize arcN A e = p at *
  obtain ⟨a, b⟩ := p
  dsimp only at *
  rcases this.2.2 with h3 | h3
  · left; rw [h3, Nat.add_sub_cancel_left]
  · right; rw [h3, Nat.add_sub_cancel]
/-- Two edges with an end v whose other ends are joined without v. -/
def Rel (A : Arcs) (i k : Nat) : Prop := ∃ v, i ∈ incT A v ∧ k ∈ incT A v ∧ J A (-1) v (oth A i v) (oth A k v)
inductive Sim (A : Arcs) : Nat → Nat → Prop
  | refl (i : Nat) : Sim A i i
  | rel {i k : Nat} : Rel A i k → Sim A i k
  | trans {i j k : Nat} : Sim A i j → Sim A j k → Sim A i k
theorem Rel.symm {A : Arcs} {i k : Nat} (h : Rel A i k) : Rel A k i := by
  obtain ⟨v, h1, h2, h3⟩ := h
  exact ⟨v, h2, h1, h3.symm⟩
theorem Sim.symm {A : Arcs} {i k : Nat} (h : Sim A i k) : Sim A k i := by
  induction h with
  | refl => exact .refl _
  | rel h => exact .rel h.symm
  | trans _ _ h1 h2 => exact h2.trans h1
/-! ### the search -/
def insN (x : Nat) : List Nat → List Nat
  | [] => [x]
  | y :: l => if x ≤ y then x :: y :: l else y :: insN x l
def sortN (l : List Nat) : List Nat := l.foldr insN []
theorem insN_perm (x : Nat) : ∀ l, (insN x l).Perm (x :: l)
  | [] => .refl _
  | y :: l => by
    unfold insN; split
    · exact .refl _
    · exact ((insN_perm x l).cons y).trans (.swap _ _ _)
theorem sortN_perm : ∀ l, (sortN l).Perm l
  | [] => .refl _
  | x :: l => (insN_perm x (sortN l)).trans ((sortN_perm l).cons x)
theorem insN_asc (x : Nat) : ∀ l, l.Pairwise (· ≤ ·) → (insN x l).Pairwise (· ≤ ·)
  | [], _ => by simp [insN]
  | y :: l, h => by
    have h1 := List.pairwise_cons.1 h
    unfold insN; split
    · rename_i hxy
      exact List.pairwise_cons.2 ⟨fun z hz => by
        rcases List.mem_cons.1 hz with rfl | hz
        · exact hxy
        · exact Nat.le_trans hxy (h1.1 z hz), h⟩
    · rename_i hxy
      refine List.pairwise_cons.2 ⟨fun z hz => ?_, insN_asc x l h1.2⟩
      rcases List.mem_cons.1 ((insN_perm x l).mem_iff.1 hz) with rfl | hz
      · omega
      · exact h1.1 z hz
theorem sortN_asc : ∀ l, (sortN l).Pairwise (· ≤ ·)
  | [] => .nil
  | x :: l => insN_asc x _ (sortN_asc l)
theorem asc_unique : ∀ {l m : List Nat}, l.Perm m → l.Pairwise (· ≤ ·) → m.Pairwise (· ≤ ·) → l = m
  | [], m, h, _, _ => by rw [List.nil_perm.1 h]
  | x :: l, [], h, _, _ => by have := h.length_eq; simp at this
  | x :: l, y :: m, h, h1, h2 => by
    have p1 := List.pairwise_cons.1 h1
    have p2 := List.pairwise_cons.1 h2
    have e : x = y := by
      have a1 : y ≤ x := by
        rcases List.mem_cons.1 (h.mem_iff.1 (List.mem_cons_self ..)) with e | e
        · omega
        · exact p2.1 x e
      have a2 : x ≤ y := by
        rcases List.mem_cons.1 (h.mem_iff.2 (List.mem_cons_self ..)) with e | e
        · omega
        · exact p1.1 y e
      omega
    subst e
    rw [asc_unique ((List.perm_cons x).1 h) p1.2 p2.2]
structure St where
  num : List Nat
  low : List Nat
  cnt : Nat
  stk : List Nat
  blk : List (List Nat)
def nm (s : St) (v : Nat) : Nat := s.num.getD v 0
def lo (s : St) (v : Nat) : Nat := s.low.getD v 0
def entr (v : Nat) (s : St) : St := { s with cnt := s.cnt + 1, num := s.num.set v (s.cnt + 1), low := s.low.set v (s.cnt + 1) }
def tie (v w at_ : Nat) (s : St) : St :=
  if nm s v ≤ lo s w then { s with low := s.low.set v (min (lo s v) (lo s w)), stk := s.stk.take at_, blk := s.blk ++ [sortN (s.stk.drop at_)] }
  else { s with low := s.low.set v (min (lo s v) (lo s w)) }
def stepV (vis : Nat → Nat → St → St) (A : Arcs) (v : Nat) (via : Int) (s : St) (e : Nat) : St :=
  if (e : Int) = via then s
  else if nm s (oth A e v) = 0 then tie v (oth A e v) s.stk.length (vis (oth A e v) e { s with stk := s.stk ++ [e] })
  else if nm s (oth A e v) < nm s v then { s with stk := s.stk ++ [e], low := s.low.set v (min (lo s v) (nm s (oth A e v))) }
  else s
def visT (A : Arcs) : Nat → Nat → Int → St → St
  | 0, _, _, s => s
  | f + 1, v, via, s => (incT A v).foldl (stepV (fun w e s => visT A f w (e : Int) s) A v via) (entr v s)
def pushed (s : St) : List Nat := s.stk ++ s.blk.flatten
/-! ### the law -/
def LoopRow (A : Arcs) (C : List Nat) : Prop := ∃ e, C = [e] ∧ e < A.length ∧ (arcN A e).1 = (arcN A e).2
/-- A block that was found: all that touches the vertices lo .. hi, without what was found earlier; they are left by v0 alone. -/
structure RowOk (A : Arcs) (s : St) (j : Nat) (C : List Nat) (v0 l h : Nat) : Prop where
  l0 : 0 < l
  hc : h ≤ s.cnt
  vn : nm s v0 ≠ 0
  vo : nm s v0 < l
  sim : ∀ e ∈ C, ∀ e' ∈ C, Sim A e e'
  tch : ∀ e ∈ C, ∃ u, e ∈ incT A u ∧ l ≤ nm s u ∧ nm s u ≤ h
  clo : ∀ u, l ≤ nm s u → nm s u ≤ h → ∀ e ∈ incT A u, (l ≤ nm s (oth A e u) ∧ nm s (oth A e u) ≤ h) ∨ oth A e u = v0
  cov : ∀ u, l ≤ nm s u → nm s u ≤ h → ∀ e ∈ incT A u, ∃ j', j' ≤ j ∧ ∃ C', s.blk[j']? = some C' ∧ e ∈ C'
def RowsOk (A : Arcs) (s : St) : Prop := ∀ j C, s.blk[j]? = some C → LoopRow A C ∨ ∃ v0 l h, RowOk A s j C v0 l h
structure Inv (N : Nat) (A : Arcs) (s : St) : Prop where
  ln : s.num.length = N
  ll : s.low.length = N
  le : ∀ u, nm s u ≤ s.cnt
  cz : s.num.count 0 + s.cnt = N
  inj : ∀ u x, nm s u ≠ 0 → nm s u = nm s x → u = x
  nd : (pushed s).Nodup
  pm : ∀ e ∈ pushed s, e < A.length
  rows : RowsOk A s
  ne : ∀ C ∈ s.blk, C ≠ []
/-- From s to s' old numbers stay, new ones are greater. -/
structure Grow (A : Arcs) (s s' : St) : Prop where
  cnt : s.cnt ≤ s'.cnt
  old : ∀ u, nm s u ≠ 0 → nm s' u = nm s u
  new_ : ∀ u, nm s u = 0 → nm s' u = 0 ∨ s.cnt < nm s' u
  sub : ∀ e ∈ pushed s, e ∈ pushed s'
  fresh : ∀ e ∈ pushed s', e ∈ pushed s ∨ ∃ u, e ∈ incT A u ∧ nm s u = 0
  blk : ∃ more, s'.blk = s.blk ++ more
end Go.Proofs.Ytaipcpdncmnelaa.Pt
