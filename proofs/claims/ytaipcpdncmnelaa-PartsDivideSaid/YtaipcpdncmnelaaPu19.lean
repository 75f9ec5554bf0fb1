/- Packed texts: PrtBlkR -/
import Derived.Test.YtaipcpdncmnelaaPu18
import Derived.Test.YtaipcpdncmnelaaPu04
import Derived.Deep.RegionHeld3
import Derived.Deep.CutRange
import Derived.BigQuiet
import Derived.BigRegion
set_option linter.unusedVariables false
set_option linter.unusedSimpArgs false
/- The document's Blocks, as blocksR computes them. -/
namespace Go.Proofs.Ytaipcpdncmnelaa.Pt
open Go.RowKit Go.Sort Go.Lib Fx Tp

/-- The first k values are changed. -/
def mapK (f : Int → Int) (l : List Int) (k : Nat) : List Int := (l.take k).map f ++ l.drop k
theorem mapK_len (f : Int → Int) (l : List Int) (k : Nat) : (mapK f l k).length = l.length := by
  unfold mapK
  rw [List.length_append, List.length_map, ← List.length_append, List.take_append_drop]
theorem mapK_zero (f : Int → Int) (l : List Int) : mapK f l 0 = l := by unfold mapK; simp
theorem mapK_full (f : Int → Int) (l : List Int) (k : Nat) (h : l.length ≤ k) : mapK f l k = l.map f := by
  unfold mapK
  rw [List.take_of_length_le h, List.drop_of_length_le h, List.append_nil]
theorem mapK_get (f : Int → Int) (l : List Int) (k : Nat) (h : k < l.length) : (mapK f l k).getD k 0 = l.getD k 0 := by
  unfold mapK
  rw [List.getD_eq_getElem?_getD, List.getD_eq_getElem?_getD, List.getElem?_append_right (by simp; omega)]
  simp [Nat.min_eq_left (Nat.le_of_lt h)]
theorem mapK_succ (f : Int → Int) (l : List Int) (k : Nat) (h : k < l.length) : mapK f l (k + 1) = (mapK f l k).set k (f (l.getD k 0)) := by
  unfold mapK
  have e : l.drop k = l.getD k 0 :: l.drop (k + 1) := by
    rw [List.drop_eq_getElem_cons h, List.getD_eq_getElem?_getD, List.getElem?_eq_getElem h]; rfl
  have e1 : l[k] = l.getD k 0 := by rw [List.getD_eq_getElem?_getD, List.getElem?_eq_getElem h]; rfl
  rw [List.take_succ_eq_append_getElem h, e, e1, List.set_append_right _ _ (by simp; omega), List.map_append, List.append_assoc]
  have e2 : k - ((l.take k).map f).length = 0 := by simp; omega
  rw [e2]; rfl
theorem mapK_same (f : Int → Int) (l : List Int) (k : Nat) (h : k < l.length) (hf : f (l.getD k 0) = l.getD k 0) : mapK f l (k + 1) = mapK f l k := by
  rw [mapK_succ f l k h, hf, ← mapK_get f l k h]
  refine list_ext_at (by simp) (fun j h1 h2 => ?_)
  rw [List.getElem_set]
  split
  · rename_i e; subst e
    rw [List.getD_eq_getElem?_getD, List.getElem?_eq_getElem h2]; rfl
  · rfl
/-- Labels of edges, all small. -/
def MOk (M : Nat) (l : List Int) : Prop := l.length = M ∧ ∀ j, 0 ≤ l.getD j 0 ∧ l.getD j 0 < 300
theorem MOk.step {M : Nat} {l : List Int} (h : MOk M l) (A : Arcs) (W : List Int) (v i k : Nat) : MOk M (mrgS A W v i l k) := by
  refine ⟨by rw [mrgS_len]; exact h.1, fun j => ?_⟩
  unfold mrgS
  split
  · by_cases hj : j < l.length
    · unfold mrg
      rw [getD_map' hj]
      unfold mrgX
      have a := h.2 i; have b := h.2 k; have c := h.2 j
      split <;> omega
    · rw [List.getD_eq_getElem?_getD, List.getElem?_eq_none (by unfold mrg; simp; omega)]
      exact ⟨by decide, by decide⟩
  · exact h.2 j
theorem MOk.stepI {M : Nat} {l : List Int} (h : MOk M l) (A : Arcs) (W : List Int) (v i n : Nat) : MOk M ((List.range n).foldl (mrgS A W v i) l) := fold_keep _ (MOk M) n (fun s k _ hs => hs.step A W v i k) l h
theorem MOk.stepV {M : Nat} {l : List Int} (h : MOk M l) (A : Arcs) (W : List Int) (v n : Nat) : MOk M ((List.range n).foldl (mrgI A W v) l) := fold_keep _ (MOk M) n (fun s k _ hs => hs.stepI A W v k k) l h
theorem MOk.all {N : Nat} {A : Arcs} (hA : A.length ≤ 256) (n : Nat) : MOk A.length (mrgL N A n) := by
  unfold mrgL
  refine fold_keep _ (MOk A.length) n (fun s k _ hs => hs.stepV A _ k A.length) _ ⟨by simp, fun j => ?_⟩
  by_cases hj : j < A.length
  · rw [List.getD_eq_getElem?_getD, List.getElem?_map, List.getElem?_range hj]
    simp; omega
  · rw [List.getD_eq_getElem?_getD, List.getElem?_eq_none (by simp; omega)]
    exact ⟨by decide, by decide⟩
theorem fold_succ {β : Type} (f : β → Nat → β) (s : β) (n : Nat) : (List.range (n + 1)).foldl f s = f ((List.range n).foldl f s) n := by rw [List.range_succ, List.foldl_append]; rfl
def iotaZ (k : Nat) : List Int := (List.range k).map (fun i : Nat => (i : Int))
theorem iotaZ_succ (k : Nat) : iotaZ (k + 1) = iotaZ k ++ [(k : Int)] := by unfold iotaZ; rw [List.range_succ, List.map_append]; rfl
theorem intIn_keep {S : Nat → Prop} {w w' : World} {a : Option Addr} {L : List Int} (h : IntIn w a L) (k : Keep S w w') (hs : ∀ g o, a = some ⟨g, o, none⟩ → ¬ S g) : IntIn w' a L := fun i hi => by
  obtain ⟨g, o, ha, hc⟩ := h i hi
  exact ⟨g, o, ha, k.cell hc (hs g o ha)⟩
theorem mrg_iota (N : Nat) (A : Arcs) : mrgL N A 0 = iotaZ A.length := rfl
theorem othR_bd {N x y : Nat} (hx : x < N) (hy : y < N) (v : Nat) : othR (x, y) v < (N : Int) ∧ -1 ≤ othR (x, y) v := by
  unfold othR
  dsimp only
  split
  · exact ⟨by omega, by omega⟩
  · split
    · exact ⟨by omega, by omega⟩
    · exact ⟨by omega, by omega⟩
/-- The block of the labels of edges. -/
abbrev OB (v : Value) (g : Nat) : Prop := v.ownBlock = some g

set_option maxHeartbeats 16000000 in
set_option maxRecDepth 100000 in
theorem blocksR_any (N : Nat) (a : Option Addr) (A : Arcs) (cap : Nat) (w : World) (hN : N ≤ 64) (h : ArcIn w a (zarc A)) (hA : A.length ≤ 256) (ok : Ok N A) :
    Calls Try.prog 23 #[.agg #[.int .i64 N, .slice a A.length cap]] w fun e w' => (∃ fv, e = .returned fv ∧ RowsAt w' w.heap.size fv (blocksR N A)) ∧ Ext w w' := by
  have hval := fun w1 (x : Ext w w1) => validR_any N a (zarc A) cap w1 (by omega) (by omega) (h.ext x) (zarc_ok hN ok) (by rw [zarc_len]; omega)
  rw [valid_ok hN hA ok, zarc_len] at hval
  have hlab := fun (v : Nat) (hv : v < N) w1 (x : Ext w w1) => labels_any N a A cap (-1) v w1 hN (h.ext x) hA ok (by omega) (by omega)
  have hcls := fun b c w1 (h : IntIn w1 b (mrgL N A N)) => classes_any b (mrgL N A N) c w1 h (by rw [mrg_len]; omega)
  rw [mrg_len] at hcls
  have hMO := fun n => MOk.all (N := N) hA n
  obtain ⟨M, hM⟩ : ∃ M, M = A.length := ⟨_, rfl⟩
  rw [← hM] at hA hval hlab hcls ⊢
  obtain ⟨i0, hi, hz0, hz1, hz2⟩ := info_parts info_int
  have HV := Lib.hid hval; have HL := Lib.hid hlab; have HC := Lib.hid hcls; have HI := Lib.hid h; have HM := Lib.hid hM; have HOK := Lib.hid ok; have HMO := Lib.hid hMO
  clear h hM hval hlab hcls ok hMO
  go_enter Try.func23, Try.ntmps23
  go_wp2_with (go_at_call 24; refine (HV.out _ ((Ext.refl _).alloc _)).mono ?_; rintro e w1 ⟨rfl, x1⟩)
  have X1 := Lib.hid x1
  have hw1s : Hid (w.heap.size < w1.heap.size) := Lib.hid (by have := x1.size; simp at this; omega)
  have y1 : Hid (Ext w w1) := Lib.hid (((Ext.refl _).alloc _).trans x1)
  clear x1
  go_loopw [3, 4] (fun o' i' wr => ∃ (k : Nat) (sl : Value), k ≤ M ∧ sl = o' ∧ i' = .int .i64 k ∧ Hid (wr.ownsRow w1.heap.size 3 1 sl k (iv (iotaZ k))) ∧ Ext w1 wr) (fun _ i' _ => M - (RowKit.intOf i').toNat)
  case atStart => exact ⟨0, _, Nat.zero_le _, rfl, rfl, Lib.hid (World.ownsRow_lit w1 #[] 0 (Nat.le_refl _) (by unfold maxLen; omega) rfl), (Ext.refl _).alloc _⟩
  case round =>
    obtain ⟨k, sl, hk, rfl, rfl, hown, hx⟩ := hrel
    obtain ⟨b10, b11⟩ := box_two (X1.out.trans hx)
    by_cases hlt : k < M
    · go_wp2_with (at_builtin; refine wpList_append_lies _ rfl _ _ 31 rfl w1.heap.size 3 i0 _ 1 8 Try.underlying31 hi hz0 hz1 hz2 rfl (by decide) _ _ _ rfl (hown.out.alloc _) ⟨wr.heap.size, 0, none⟩ 1 1 [.int .i64 k] rfl rfl ?c1 ?c2 (by decide) ?c3 ?c4 ?c5 _ rfl ?_)
      case c1 => exact new_cells' _ [_] _ _ rfl
      case c2 => simp [Value.oneCell']
      case c3 => unfold maxLen; omega
      case c4 => omega
      case c5 => have := hx.size; simp; omega
      intro gg cc w3 hown3 hgrow3 _ _
      have hx3 : Ext w1 w3 := Below.grown (hx.alloc _) hgrow3 (by have := hx.size; simp; omega) (fun q hq => by have := (hown.out.lt q hq).1; omega)
      have hown4 : Hid (w3.ownsRow w1.heap.size 3 1 (.slice (some ⟨gg, 0, none⟩) (k + 1) cc) (k + 1) (iv (iotaZ (k + 1)))) := Lib.hid (by rw [iotaZ_succ, iv_app]; exact hown3)
      clear hown3 hgrow3
      go_wp2
      go_roundw
      case rel => exact ⟨k + 1, _, by omega, rfl, by go_num, hown4, hx3⟩
      case measure => simp [RowKit.intOf]; omega
    · have hkM : k = M := by omega
      have hown : Hid (wr.ownsRow w1.heap.size 3 1 sl M (iv (mrgL N A 0))) := by rw [mrg_iota, ← HM.out, ← hkM]; exact hown
      clear hkM
      go_wp2
      go_loopw [5] (fun v' wr => ∃ v : Nat, v ≤ N ∧ v' = .int .i64 v ∧ Hid (wr.ownsRow w1.heap.size 3 1 sl M (iv (mrgL N A v))) ∧ Ext w1 wr) (fun v' _ => N - (RowKit.intOf v').toNat)
      case atStart => exact ⟨0, Nat.zero_le _, rfl, hown, hx⟩
      case round =>
        clear b10 b11 hown hx
        obtain ⟨v, hv, rfl, hown, hx⟩ := hrel
        obtain ⟨b10, b11⟩ := box_two (X1.out.trans hx)
        by_cases hlv : v < N
        · obtain ⟨wo, hwo⟩ : ∃ wo : World, wo = wr := ⟨_, rfl⟩
          subst hwo
          have hown0 := hown
          have hlst : Hid (mrgL N A (v + 1) = (List.range M).foldl (mrgI A (labT N A (-1) v) v) (mrgL N A v)) := Lib.hid (by rw [HM.out]; exact fold_succ _ _ _)
          have hwlen : Hid ((labT N A (-1) v).length = N) := Lib.hid (labT_len _ _ _ _)
          go_wp2_with (go_at_call 33; refine (HL.out v hlv _ (y1.out.trans hx)).mono ?_; rintro e w2 ⟨⟨wa, wcap, rfl, hin2, hwg⟩, x2⟩)
          have hown2 := Lib.hid (own_ext' hown.out x2)
          have hx2 := Lib.hid (hx.trans x2)
          have HSB : Hid (∀ g o, wa = some ⟨g, o, none⟩ → ¬ OB sl g) := Lib.hid (fun g o e e2 => by have h1 := (hwg g o e).1; have h2 := (hown.out.lt g e2).2; omega)
          have HIN := Lib.hid hin2
          obtain ⟨l0, hl0⟩ : ∃ l0, l0 = mrgL N A v := ⟨_, rfl⟩
          have HM0 : Hid (MOk M l0) := Lib.hid (by rw [hl0, HM.out]; exact HMO.out v)
          rw [← hl0] at hown2 hlst
          obtain ⟨W, hW⟩ : ∃ W, W = labT N A (-1) v := ⟨_, rfl⟩
          rw [← hW] at hwlen hlst HIN
          clear hown hown0 hin2 hwg b10 b11 hx x2 hl0 hW
          go_loopw [7] (fun i' wr => ∃ i : Nat, i ≤ M ∧ i' = .int .i64 i ∧ Hid (wr.ownsRow w1.heap.size 3 1 sl M (iv ((List.range i).foldl (mrgI A W v) l0))) ∧ Hid (Keep (OB sl) w2 wr) ∧ Ext w1 wr) (fun i' _ => M - (RowKit.intOf i').toNat)
          case atStart => exact ⟨0, Nat.zero_le _, rfl, hown2, Lib.hid (Keep.refl _ _), hx2.out⟩
          case round =>
            clear hown2
            obtain ⟨i, hile, rfl, hown, hkp, hx⟩ := hrel
            obtain ⟨b10, b11⟩ := box_two (X1.out.trans hx)
            by_cases hli : i < M
            · have hist : Hid ((List.range (i + 1)).foldl (mrgI A W v) l0 = (List.range i).foldl (mrgS A W v i) ((List.range i).foldl (mrgI A W v) l0)) := Lib.hid (fold_succ _ _ _)
              have HM1 : Hid (MOk M ((List.range i).foldl (mrgI A W v) l0)) := Lib.hid (HM0.out.stepV A W v i)
              obtain ⟨l1, hl1⟩ : ∃ l1, l1 = (List.range i).foldl (mrgI A W v) l0 := ⟨_, rfl⟩
              rw [← hl1] at hown hist HM1
              clear hl1
              obtain ⟨wi, hwi⟩ : ∃ wi : World, wi = wr := ⟨_, rfl⟩
              subst hwi
              go_wp2
              go_loopw [8] (fun k' wr => ∃ k : Nat, k ≤ i ∧ k' = .int .i64 k ∧ Hid (wr.ownsRow w1.heap.size 3 1 sl M (iv ((List.range k).foldl (mrgS A W v i) l1))) ∧ Hid (Keep (OB sl) w2 wr) ∧ Ext w1 wr) (fun k' _ => i - (RowKit.intOf k').toNat)
              case atStart => exact ⟨0, Nat.zero_le _, rfl, hown, hkp, hx⟩
              case round =>
                clear b10 b11 hown hkp hx
                obtain ⟨k, hki, rfl, hown, hkp, hx⟩ := hrel
                obtain ⟨b10, b11⟩ := box_two (X1.out.trans hx)
                by_cases hlk : k < i
                · have hkst : Hid ((List.range (k + 1)).foldl (mrgS A W v i) l1 = mrgS A W v i ((List.range k).foldl (mrgS A W v i) l1) k) := Lib.hid (fold_succ _ _ _)
                  have HM2 : Hid (MOk M ((List.range k).foldl (mrgS A W v i) l1)) := Lib.hid (HM1.out.stepI A W v i k)
                  obtain ⟨l2, hl2⟩ : ∃ l2, l2 = (List.range k).foldl (mrgS A W v i) l1 := ⟨_, rfl⟩
                  rw [← hl2] at hown hkst HM2
                  clear hl2
                  have hiA : i < A.length := by rw [← HM.out]; exact hli
                  have hkA : k < A.length := by rw [← HM.out]; omega
                  obtain ⟨g, o, rfl, d0, d1⟩ := (HI.out.ext (y1.out.trans hx)) i (by rw [zarc_len]; exact hiA)
                  obtain ⟨g9, o9, ha9, d2, d3⟩ := (HI.out.ext (y1.out.trans hx)) k (by rw [zarc_len]; exact hkA)
                  cases ha9
                  rw [zarc_at A i hiA] at d0 d1
                  rw [zarc_at A k hkA] at d2 d3
                  have hoki := HOK.out _ (List.getElem_mem hiA)
                  have hokk := HOK.out _ (List.getElem_mem hkA)
                  have hai : arcN A i = A[i] := by unfold arcN; rw [List.getD_eq_getElem?_getD, List.getElem?_eq_getElem hiA]; rfl
                  have hak : arcN A k = A[k] := by unfold arcN; rw [List.getD_eq_getElem?_getD, List.getElem?_eq_getElem hkA]; rfl
                  obtain ⟨ix, hix⟩ : ∃ x, x = A[i].1 := ⟨_, rfl⟩
                  obtain ⟨iy, hiy⟩ : ∃ x, x = A[i].2 := ⟨_, rfl⟩
                  obtain ⟨kx, hkx⟩ : ∃ x, x = A[k].1 := ⟨_, rfl⟩
                  obtain ⟨ky, hky⟩ : ∃ x, x = A[k].2 := ⟨_, rfl⟩
                  rw [← hix] at d0 hoki; rw [← hiy] at d1 hoki; rw [← hkx] at d2 hokk; rw [← hky] at d3 hokk
                  have HAI : Hid (arcN A i = (ix, iy)) := Lib.hid (by rw [hai, hix, hiy])
                  have HAK : Hid (arcN A k = (kx, ky)) := Lib.hid (by rw [hak, hkx, hky])
                  have HPB : Hid (othR (ix, iy) v < (N : Int) ∧ -1 ≤ othR (ix, iy) v) := Lib.hid (othR_bd hoki.1 hoki.2 v)
                  have HQB : Hid (othR (kx, ky) v < (N : Int) ∧ -1 ≤ othR (kx, ky) v) := Lib.hid (othR_bd hokk.1 hokk.2 v)
                  clear hai hak hix hiy hkx hky hoki hokk
                  have b0 : (0 : Int) ≤ (i : Int) := by omega
                  have b1 : (i : Int) < (M : Int) := by omega
                  have b2 : (0 : Int) ≤ (k : Int) := by omega
                  have b3 : (k : Int) < (M : Int) := by omega
                  go_wp2_with fail
                  go_cut [9, 10] from 45 to 125 (fun s9 s10 wx => s9 = .int .i64 (othR (ix, iy) v) ∧ s10 = .int .i64 (othR (kx, ky) v) ∧ Hid (Ext wr wx))
                  case first =>
                    go_region_held3 (fun w' => w'.cell? ⟨w.heap.size, 0, none⟩ = some (.int .i64 N) ∧ w'.cell? ⟨w.heap.size, 1, none⟩ = some (.slice (some ⟨g, o, none⟩) M cap) ∧ w'.cell? ⟨g, o + i * 2, none⟩ = some (.int .i64 ix) ∧ w'.cell? ⟨g, o + i * 2 + 1, none⟩ = some (.int .i64 iy) ∧ w'.cell? ⟨g, o + k * 2, none⟩ = some (.int .i64 kx) ∧ w'.cell? ⟨g, o + k * 2 + 1, none⟩ = some (.int .i64 ky))
                      (refine ⟨Ext.cell (w := wr) ?_ b10, Ext.cell (w := wr) ?_ b11, Ext.cell (w := wr) ?_ d0, Ext.cell (w := wr) ?_ d1, Ext.cell (w := wr) ?_ d2, Ext.cell (w := wr) ?_ d3⟩ <;> (repeat (first | assumption | exact Ext.refl _ | refine Ext.alloc ?_ _ | refine Ext.drew ?_)))
                      (first | (go_at_call 38; refine (otherR_any _ _ _ _).mono ?_; rintro e w6 ⟨rfl, x6⟩; have X6 := Ext.trans (a := wr) (by (repeat (first | assumption | exact Ext.refl _ | refine Ext.alloc ?_ _ | refine Ext.drew ?_))) x6))
                    all_goals go_wp2
                    all_goals go_meet
                    all_goals exact ⟨rfl, rfl, Lib.hid (by (repeat (first | assumption | exact Ext.refl _ | refine Ext.alloc ?_ _ | refine Ext.drew ?_)))⟩
                  case rest =>
                    obtain ⟨rfl, rfl, hxd⟩ := hcut
                    have hownd := Lib.hid (own_ext' hown.out hxd.out)
                    have hkpd := Lib.hid (hkp.out.ext hxd.out)
                    have hxd1 := hx.trans hxd.out
                    obtain ⟨p, hp⟩ : ∃ p, p = othR (ix, iy) v := ⟨_, rfl⟩
                    obtain ⟨q, hq⟩ : ∃ q, q = othR (kx, ky) v := ⟨_, rfl⟩
                    have HCD : Hid (mrgC A W v i k l2 ↔ 0 ≤ p ∧ 0 ≤ q ∧ W.getD p.toNat 0 = W.getD q.toNat 0 ∧ l2.getD i 0 ≠ l2.getD k 0) := Lib.hid (by unfold mrgC; rw [HAI.out, HAK.out, ← hp, ← hq])
                    have hpb := HPB.out
                    have hqb := HQB.out
                    rw [← hp] at hpb ⊢
                    rw [← hq] at hqb ⊢
                    obtain ⟨hp1, hp0⟩ := hpb
                    obtain ⟨hq1, hq0⟩ := hqb
                    have HINc := Lib.hid (intIn_keep HIN.out hkpd.out HSB.out)
                    obtain ⟨sg, sc, rfl, hsg⟩ := own_form hownd.out (by omega)
                    have e0 := (hownd.out.cellAt i (by omega)).trans (iv_get (by rw [HM2.out.1]; omega))
                    have e1 := (hownd.out.cellAt k (by omega)).trans (iv_get (by rw [HM2.out.1]; omega))
                    clear hown hkp hx b10 b11 d0 d1 d2 d3 hxd hp hq HPB HQB HAI HAK
                    by_cases c1 : 0 ≤ p
                    · obtain ⟨pn, rfl⟩ : ∃ n : Nat, p = (n : Int) := ⟨p.toNat, by omega⟩
                      by_cases c2 : 0 ≤ q
                      · obtain ⟨qn, rfl⟩ : ∃ n : Nat, q = (n : Int) := ⟨q.toNat, by omega⟩
                        have hpN : pn < W.length := by rw [hwlen.out]; omega
                        have hqN : qn < W.length := by rw [hwlen.out]; omega
                        obtain ⟨gw, ow, rfl, cw⟩ := HINc.out pn hpN
                        obtain ⟨gw2, ow2, ha, cv⟩ := HINc.out qn hqN
                        cases ha
                        have hwp : W[pn] = W.getD pn 0 := by rw [List.getD_eq_getElem?_getD, List.getElem?_eq_getElem hpN]; rfl
                        have hwq : W[qn] = W.getD qn 0 := by rw [List.getD_eq_getElem?_getD, List.getElem?_eq_getElem hqN]; rfl
                        rw [hwp] at cw; rw [hwq] at cv
                        rw [Int.toNat_natCast, Int.toNat_natCast] at HCD
                        obtain ⟨wp, hwpe⟩ : ∃ x, x = W.getD pn 0 := ⟨_, rfl⟩
                        obtain ⟨wq, hwqe⟩ : ∃ x, x = W.getD qn 0 := ⟨_, rfl⟩
                        have hx8 := HM2.out.2 i; have hy8 := HM2.out.2 k
                        obtain ⟨x, hxe⟩ : ∃ x, x = l2.getD i 0 := ⟨_, rfl⟩
                        obtain ⟨y, hye⟩ : ∃ x, x = l2.getD k 0 := ⟨_, rfl⟩
                        rw [← hwpe, ← hwqe, ← hxe, ← hye] at HCD
                        rw [← hwpe] at cw; rw [← hwqe] at cv; rw [← hxe] at e0 hx8; rw [← hye] at e1 hy8
                        have HXE := Lib.hid hxe; have HYE := Lib.hid hye
                        have w0 : (0 : Int) ≤ (pn : Int) := by omega
                        have w3 : (0 : Int) ≤ (qn : Int) := by omega
                        clear hwp hwq hwpe hwqe hxe hye hpN hqN
                        by_cases c3 : wp = wq
                        · by_cases c4 : x = y
                          · obtain ⟨f1, f2⟩ := eq_facts c3
                            obtain ⟨g1, g2⟩ := eq_facts c4
                            clear c3
                            have hS : Hid (mrgS A W v i l2 k = l2) := Lib.hid (by unfold mrgS; rw [if_neg (fun c => (HCD.out.1 c).2.2.2 c4)])
                            clear c4
                            go_wp2_with fail
                            go_quiet (fail)
                            go_wp2
                            go_roundw
                            case rel => exact ⟨k + 1, by omega, by go_num, by rw [hkst.out, hS.out]; exact Lib.hid (own_ext' hownd.out (by first | exact (Ext.refl _).drewN _ | exact (Ext.refl _).drew)), Lib.hid (hkpd.out.ext (by first | exact (Ext.refl _).drewN _ | exact (Ext.refl _).drew)), by first | exact hxd1.drewN _ | exact hxd1.drew⟩
                            case measure => simp [RowKit.intOf]; omega
                          · obtain ⟨f1, f2⟩ := eq_facts c3
                            obtain ⟨g1, g2⟩ := neq_facts c4
                            have hS : Hid (mrgS A W v i l2 k = l2.map (mrgX (max x y) (min x y))) := Lib.hid (by unfold mrgS; rw [if_pos (HCD.out.2 ⟨c1, c2, c3, c4⟩), HXE.out, HYE.out]; rfl)
                            clear c3
                            have hxd2 := Lib.hid hxd1
                            by_cases hxy : x ≤ y
                            · have hxy2 : ¬ y ≤ x := by omega
                              have hS2 : Hid (mrgS A W v i l2 k = l2.map (mrgX y x)) := Lib.hid (by rw [hS.out, Int.max_eq_right hxy, Int.min_eq_left hxy])
                              clear hS HCD c4 hxd1
                              have hkq := hkpd
                              have hxq := hxd2
                              go_wp2_with fail
                              go_quiet (fail)
                              have x9 : Ext wc (wc.drewN nq) := (Ext.refl _).drewN _
                              obtain ⟨w9, hw9⟩ : ∃ w9, w9 = wc.drewN nq := ⟨_, rfl⟩
                              rw [← hw9] at x9 ⊢
                              clear hw9
                              have e0' := x9.cell e0; have e1' := x9.cell e1
                              have hown9 := Lib.hid (own_ext' hownd.out x9)
                              have hkp9 := Lib.hid (hkpd.out.ext x9)
                              have hx9 := Lib.hid (hxd2.out.trans x9)
                              clear e0 e1 hownd hkpd x9 cw cv HINc hkq hxq hxd2 f1 f2 g1 g2
                              go_wp2_with fail
                              go_quiet (fail)
                              have x9 : Ext w9 (w9.drewN nq) := (Ext.refl _).drewN _
                              obtain ⟨wt, hwt⟩ : ∃ wt, wt = w9.drewN nq := ⟨_, rfl⟩
                              rw [← hwt] at x9 ⊢
                              clear hwt
                              have hownt := Lib.hid (own_ext' hown9.out x9)
                              have hkpt := Lib.hid (hkp9.out.ext x9)
                              have hxt := Lib.hid (hx9.out.trans x9)
                              clear e0' e1' hown9 hkp9 hx9 x9
                              try rw [Int.min_eq_left hxy]
                              try rw [Int.max_eq_right hxy]
                              go_wp2
                              go_loopw [13] (fun j' wr => ∃ j : Nat, j ≤ M ∧ j' = .int .i64 j ∧ Hid (wr.ownsRow w1.heap.size 3 1 (.slice (some ⟨sg, 0, none⟩) M sc) M (iv (mapK (mrgX y x) l2 j))) ∧ Hid (Keep (OB (.slice (some ⟨sg, 0, none⟩) M sc)) w2 wr) ∧ Ext w1 wr) (fun j' _ => M - (RowKit.intOf j').toNat)
                              case atStart => exact ⟨0, Nat.zero_le _, rfl, Lib.hid (by rw [mapK_zero]; exact hownt.out), hkpt, hxt.out⟩
                              case round =>
                                clear hownt hkpt hxt
                                obtain ⟨j, hj, rfl, hown, hkp, hx⟩ := hrel
                                by_cases hlj : j < M
                                · have hjl : j < l2.length := by rw [HM2.out.1]; exact hlj
                                  have e0 := (hown.out.cellAt j (by omega)).trans (iv_get (by rw [mapK_len]; exact hjl))
                                  rw [mapK_get _ _ _ hjl] at e0
                                  have hsu := mapK_succ (mrgX y x) l2 j hjl
                                  have hsa := mapK_same (mrgX y x) l2 j hjl
                                  obtain ⟨r, hr⟩ : ∃ r, r = l2.getD j 0 := ⟨_, rfl⟩
                                  rw [← hr] at e0 hsu hsa
                                  have b0 : (0 : Int) ≤ (j : Int) := by omega
                                  have b1 : (j : Int) < (M : Int) := by omega
                                  by_cases c5 : r = y
                                  · obtain ⟨f1, f2⟩ := eq_facts c5
                                    have HSU : Hid (mapK (mrgX y x) l2 (j + 1) = (mapK (mrgX y x) l2 j).set j x) := Lib.hid (by rw [hsu]; unfold mrgX; rw [if_pos c5])
                                    obtain ⟨st1, st2⟩ := hown.out.stored j (.int .i64 x)
                                    have fz := hown.out.frozenAt
                                    have FIN : Hid ((wr.setCell ⟨sg, j, none⟩ (.int .i64 x)).ownsRow w1.heap.size 3 1 (.slice (some ⟨sg, 0, none⟩) M sc) M (iv (mapK (mrgX y x) l2 (j + 1)))) := Lib.hid (by rw [HSU.out, ← iv_set]; exact st1)
                                    have KIN : Hid (Keep (OB (.slice (some ⟨sg, 0, none⟩) M sc)) w2 (wr.setCell ⟨sg, j, none⟩ (.int .i64 x))) := Lib.hid (hkp.out.setCell _ _ (.inl rfl))
                                    have XIN : Hid (Ext w1 (wr.setCell ⟨sg, j, none⟩ (.int .i64 x))) := Lib.hid (hx.setCell hsg _)
                                    clear hsu hsa hr c5 st1 st2 hown hkp hx
                                    go_wp2
                                    go_roundw
                                    case rel => exact ⟨j + 1, by omega, by go_num, FIN, KIN, XIN.out⟩
                                    case measure => simp [RowKit.intOf]; omega
                                  · obtain ⟨f1, f2⟩ := neq_facts c5
                                    have HSA : Hid (mapK (mrgX y x) l2 (j + 1) = mapK (mrgX y x) l2 j) := Lib.hid (hsa (by unfold mrgX; rw [if_neg c5]))
                                    clear hsu hsa hr c5
                                    go_wp2
                                    go_roundw
                                    case rel => exact ⟨j + 1, by omega, by go_num, by rw [HSA.out]; exact hown, hkp, hx⟩
                                    case measure => simp [RowKit.intOf]; omega
                                · have hfull := mapK_full (mrgX y x) l2 j (by rw [HM2.out.1]; omega)
                                  rw [hfull] at hown
                                  clear hfull
                                  go_wp2
                                  go_roundw
                                  case rel => exact ⟨k + 1, by omega, by go_num, by rw [hkst.out, hS2.out]; exact hown, hkp, hx⟩
                                  case measure => simp [RowKit.intOf]; omega
                            · have hxy2 : y ≤ x := by omega
                              have hS2 : Hid (mrgS A W v i l2 k = l2.map (mrgX x y)) := Lib.hid (by rw [hS.out, Int.max_eq_left hxy2, Int.min_eq_right hxy2])
                              clear hS HCD c4 hxd1
                              have hkq := hkpd
                              have hxq := hxd2
                              go_wp2_with fail
                              go_quiet (fail)
                              have x9 : Ext wc (wc.drewN nq) := (Ext.refl _).drewN _
                              obtain ⟨w9, hw9⟩ : ∃ w9, w9 = wc.drewN nq := ⟨_, rfl⟩
                              rw [← hw9] at x9 ⊢
                              clear hw9
                              have e0' := x9.cell e0; have e1' := x9.cell e1
                              have hown9 := Lib.hid (own_ext' hownd.out x9)
                              have hkp9 := Lib.hid (hkpd.out.ext x9)
                              have hx9 := Lib.hid (hxd2.out.trans x9)
                              clear e0 e1 hownd hkpd x9 cw cv HINc hkq hxq hxd2 f1 f2 g1 g2
                              go_wp2_with fail
                              go_quiet (fail)
                              have x9 : Ext w9 (w9.drewN nq) := (Ext.refl _).drewN _
                              obtain ⟨wt, hwt⟩ : ∃ wt, wt = w9.drewN nq := ⟨_, rfl⟩
                              rw [← hwt] at x9 ⊢
                              clear hwt
                              have hownt := Lib.hid (own_ext' hown9.out x9)
                              have hkpt := Lib.hid (hkp9.out.ext x9)
                              have hxt := Lib.hid (hx9.out.trans x9)
                              clear e0' e1' hown9 hkp9 hx9 x9
                              try rw [Int.min_eq_right hxy2]
                              try rw [Int.max_eq_left hxy2]
                              go_wp2
                              go_loopw [13] (fun j' wr => ∃ j : Nat, j ≤ M ∧ j' = .int .i64 j ∧ Hid (wr.ownsRow w1.heap.size 3 1 (.slice (some ⟨sg, 0, none⟩) M sc) M (iv (mapK (mrgX x y) l2 j))) ∧ Hid (Keep (OB (.slice (some ⟨sg, 0, none⟩) M sc)) w2 wr) ∧ Ext w1 wr) (fun j' _ => M - (RowKit.intOf j').toNat)
                              case atStart => exact ⟨0, Nat.zero_le _, rfl, Lib.hid (by rw [mapK_zero]; exact hownt.out), hkpt, hxt.out⟩
                              case round =>
                                clear hownt hkpt hxt
                                obtain ⟨j, hj, rfl, hown, hkp, hx⟩ := hrel
                                by_cases hlj : j < M
                                · have hjl : j < l2.length := by rw [HM2.out.1]; exact hlj
                                  have e0 := (hown.out.cellAt j (by omega)).trans (iv_get (by rw [mapK_len]; exact hjl))
                                  rw [mapK_get _ _ _ hjl] at e0
                                  have hsu := mapK_succ (mrgX x y) l2 j hjl
                                  have hsa := mapK_same (mrgX x y) l2 j hjl
                                  obtain ⟨r, hr⟩ : ∃ r, r = l2.getD j 0 := ⟨_, rfl⟩
                                  rw [← hr] at e0 hsu hsa
                                  have b0 : (0 : Int) ≤ (j : Int) := by omega
                                  have b1 : (j : Int) < (M : Int) := by omega
                                  by_cases c5 : r = x
                                  · obtain ⟨f1, f2⟩ := eq_facts c5
                                    have HSU : Hid (mapK (mrgX x y) l2 (j + 1) = (mapK (mrgX x y) l2 j).set j y) := Lib.hid (by rw [hsu]; unfold mrgX; rw [if_pos c5])
                                    obtain ⟨st1, st2⟩ := hown.out.stored j (.int .i64 y)
                                    have fz := hown.out.frozenAt
                                    have FIN : Hid ((wr.setCell ⟨sg, j, none⟩ (.int .i64 y)).ownsRow w1.heap.size 3 1 (.slice (some ⟨sg, 0, none⟩) M sc) M (iv (mapK (mrgX x y) l2 (j + 1)))) := Lib.hid (by rw [HSU.out, ← iv_set]; exact st1)
                                    have KIN : Hid (Keep (OB (.slice (some ⟨sg, 0, none⟩) M sc)) w2 (wr.setCell ⟨sg, j, none⟩ (.int .i64 y))) := Lib.hid (hkp.out.setCell _ _ (.inl rfl))
                                    have XIN : Hid (Ext w1 (wr.setCell ⟨sg, j, none⟩ (.int .i64 y))) := Lib.hid (hx.setCell hsg _)
                                    clear hsu hsa hr c5 st1 st2 hown hkp hx
                                    go_wp2
                                    go_roundw
                                    case rel => exact ⟨j + 1, by omega, by go_num, FIN, KIN, XIN.out⟩
                                    case measure => simp [RowKit.intOf]; omega
                                  · obtain ⟨f1, f2⟩ := neq_facts c5
                                    have HSA : Hid (mapK (mrgX x y) l2 (j + 1) = mapK (mrgX x y) l2 j) := Lib.hid (hsa (by unfold mrgX; rw [if_neg c5]))
                                    clear hsu hsa hr c5
                                    go_wp2
                                    go_roundw
                                    case rel => exact ⟨j + 1, by omega, by go_num, by rw [HSA.out]; exact hown, hkp, hx⟩
                                    case measure => simp [RowKit.intOf]; omega
                                · have hfull := mapK_full (mrgX x y) l2 j (by rw [HM2.out.1]; omega)
                                  rw [hfull] at hown
                                  clear hfull
                                  go_wp2
                                  go_roundw
                                  case rel => exact ⟨k + 1, by omega, by go_num, by rw [hkst.out, hS2.out]; exact hown, hkp, hx⟩
                                  case measure => simp [RowKit.intOf]; omega
                        · obtain ⟨f1, f2⟩ := neq_facts c3
                          have hS : Hid (mrgS A W v i l2 k = l2) := Lib.hid (by unfold mrgS; rw [if_neg (fun c => c3 (HCD.out.1 c).2.2.1)])
                          clear c3
                          go_wp2_with fail
                          go_quiet (fail)
                          go_wp2
                          go_roundw
                          case rel => exact ⟨k + 1, by omega, by go_num, by rw [hkst.out, hS.out]; exact Lib.hid (own_ext' hownd.out (by first | exact (Ext.refl _).drewN _ | exact (Ext.refl _).drew)), Lib.hid (hkpd.out.ext (by first | exact (Ext.refl _).drewN _ | exact (Ext.refl _).drew)), by first | exact hxd1.drewN _ | exact hxd1.drew⟩
                          case measure => simp [RowKit.intOf]; omega
                      · have c2f : decide (0 ≤ q) = false := decide_eq_false c2
                        have hS : Hid (mrgS A W v i l2 k = l2) := Lib.hid (by unfold mrgS; rw [if_neg (fun c => c2 (HCD.out.1 c).2.1)])
                        go_wp2_with fail
                        go_quiet (fail)
                        go_wp2
                        go_roundw
                        case rel => exact ⟨k + 1, by omega, by go_num, by rw [hkst.out, hS.out]; exact Lib.hid (own_ext' hownd.out (by first | exact (Ext.refl _).drewN _ | exact (Ext.refl _).drew)), Lib.hid (hkpd.out.ext (by first | exact (Ext.refl _).drewN _ | exact (Ext.refl _).drew)), by first | exact hxd1.drewN _ | exact hxd1.drew⟩
                        case measure => simp [RowKit.intOf]; omega
                    · have c1f : decide (0 ≤ p) = false := decide_eq_false c1
                      have hS : Hid (mrgS A W v i l2 k = l2) := Lib.hid (by unfold mrgS; rw [if_neg (fun c => c1 (HCD.out.1 c).1)])
                      go_wp2_with fail
                      go_quiet (fail)
                      go_wp2
                      go_roundw
                      case rel => exact ⟨k + 1, by omega, by go_num, by rw [hkst.out, hS.out]; exact Lib.hid (own_ext' hownd.out (by first | exact (Ext.refl _).drewN _ | exact (Ext.refl _).drew)), Lib.hid (hkpd.out.ext (by first | exact (Ext.refl _).drewN _ | exact (Ext.refl _).drew)), by first | exact hxd1.drewN _ | exact hxd1.drew⟩
                      case measure => simp [RowKit.intOf]; omega
                · have hki2 : k = i := by omega
                  rw [hki2, ← hist.out] at hown
                  clear hki2
                  go_wp2
                  go_roundw
                  case rel => exact ⟨i + 1, by omega, by go_num, hown, hkp, hx⟩
                  case measure => simp [RowKit.intOf]; omega
            · have hiM : i = M := by omega
              rw [hiM, ← hlst.out] at hown
              clear hiM
              go_wp2
              go_roundw
              case rel => exact ⟨v + 1, by omega, by go_num, hown, hx⟩
              case measure => simp [RowKit.intOf]; omega
        · have hvN : v = N := by omega
          rw [hvN] at hown
          clear hvN
          obtain ⟨pa, pc, rfl, hpi, -⟩ := own_ints hown.out (by rw [mrg_len]; exact HM.out)
          have hml := mrg_len N A N
          rw [← HM.out] at hml
          rw [hml]
          go_wp2_with (go_at_call 32; refine (HC.out _ _ _ hpi).mono ?_; rintro e w5 ⟨⟨fv, rfl, hr⟩, x5⟩; have HR := Lib.hid hr; clear hr)
          go_ret
          have y2 := y1.out.trans hx
          exact ⟨⟨_, rfl, RowsAt.low HR.out y2.size⟩, y2.trans x5⟩
end Go.Proofs.Ytaipcpdncmnelaa.Pt
