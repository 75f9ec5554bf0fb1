/- Packed texts: TopReachR, TopFree, TopOrdR, TopOrder -/
import Derived.Test.YtjjcjoedgmfalaaPt04
import Derived.Test.YtjjcjoedgmfalaaPt07
import Derived.Test.YtjjcjoedgmfalaaPt02
import Derived.Test.YtjjcjoedgmfalaaPt01
set_option linter.unusedVariables false
set_option linter.unusedSimpArgs false
/- What the document's Reach returns. -/
namespace Go.Proofs.Ytjjcjoedgmfalaa.Tp
open Go.RowKit Go.Sort Go.Lib Fx

theorem range_filter (f : Nat → Bool) (k : Nat) : (List.range (k + 1)).filter f = (List.range k).filter f ++ (if f k = true then [k] else []) := by
  rw [List.range_succ, List.filter_append]
  by_cases h : f k = true
  · simp [h]
  · simp [h]
theorem fold_take {α β : Type} (f : β → α → β) (s : β) (L : List α) (k : Nat) (h : k < L.length) : (L.take (k + 1)).foldl f s = f ((L.take k).foldl f s) L[k] := by
  rw [List.take_succ_eq_append_getElem h, List.foldl_append]; rfl
theorem relaxF_len : ∀ (l : Arcs) (s : List Bool), (l.foldl relax s).length = s.length := fun l s => roundR_len l s
set_option maxHeartbeats 4000000 in
set_option maxRecDepth 100000 in
theorem reachN_any (N : Nat) (a : Option Addr) (A : Arcs) (cap v : Nat) (w : World) (hN : N ≤ 64) (h : ArcIn w a (zarc A)) (hA : A.length ≤ 256) (ok : Ok N A) (hv : v < N) :
    Calls Try.prog 11 #[.agg #[.int .i64 N, .slice a A.length cap], .int .i64 v] w fun e w' => (∃ a c, e = .returned (.slice a (reachT N A v).length c) ∧ IntIn w' a (zl (reachT N A v)) ∧ ∀ g o, a = some ⟨g, o, none⟩ → w.heap.size ≤ g ∧ g < w'.heap.size) ∧ Ext w w' := by
  have hval := fun w1 (x : Ext w w1) => validR_any N a (zarc A) cap w1 (by omega) (by omega) (h.ext x) (zarc_ok hN ok) (by rw [zarc_len]; omega)
  rw [valid_ok hN hA ok, zarc_len] at hval
  obtain ⟨M, hM⟩ : ∃ M, M = A.length := ⟨_, rfl⟩
  rw [← hM] at hA hval ⊢
  have hmk := run_make_row' (P := Try.prog) 39 4 (.bool false) 1 Try.underlying39 info_bool rfl .i64 .i64 N (by omega) (by omega)
  obtain ⟨i0, hi, hz0, hz1, hz2⟩ := info_parts info_int
  have HI := Lib.hid h
  have HM := Lib.hid hM; have HV := Lib.hid hval; have HOK := Lib.hid ok
  clear h hM hval ok
  have hcl : ∀ w2 : World, (w2.alloc (.cells (madeCells #[.bool false] N) 4)).cell? ⟨w2.heap.size, v, none⟩ = some (.bool false) := fun w2 => by
    rw [Lib.cell_of_heap (heap_alloc_new w2 _), made_eq]; simp [hv]
  have c0 : decide ((v : Int) < 0) = false := decide_eq_false (by omega)
  have c1 : decide ((N : Int) ≤ (v : Int)) = false := decide_eq_false (by omega)
  have c2 : decide (N ≤ v) = false := decide_eq_false (by omega)
  go_enter Try.func11, Try.ntmps11
  go_wp2_with (go_at_call 16; refine (HV.out _ ((Ext.refl _).alloc _)).mono ?_; rintro e w1 ⟨rfl, x1⟩; have b1 := box_at x1; have b10 := b1.1; have b11 := b1.2)
  clear hcl hmk b1
  have X1 : Hid (Ext w w1) := Lib.hid (((Ext.refl _).alloc _).trans x1)
  have B0 := Lib.hid b10; have B1 := Lib.hid b11
  clear b10 b11
  go_loopw [6] (fun r' wr => ∃ r : Nat, r ≤ N ∧ r' = .int .i64 r ∧ Hid (BlkB wr w1.heap.size (itR A r (markN N v))) ∧ Ext w1 wr) (fun r' _ => N - (RowKit.intOf r').toNat)
  case atStart =>
    refine ⟨0, Nat.zero_le _, rfl, Lib.hid ?_, (Ext.refl _).alloc _⟩
    have h1 := heap_alloc_new w1 (.cells ((madeCells #[.bool false] N).setIfInBounds v (.bool true)) 4)
    unfold BlkB
    rw [h1, made_eq]
    unfold bv itR markN
    simp [List.map_set, ← List.setIfInBounds_toArray, List.toArray_replicate]
  case round =>
    obtain ⟨r, hr, rfl, hblk, hx⟩ := hrel
    have b10 := hx.cell B0.out; have b11 := hx.cell B1.out
    by_cases hlt : r < N
    · obtain ⟨s, hs⟩ : ∃ s, s = itR A r (markN N v) := ⟨_, rfl⟩
      have hsl : s.length = N := by rw [hs, itR_len, markN_len]
      rw [← hs] at hblk
      have HS := Lib.hid hs
      clear hs
      obtain ⟨wo, hwo⟩ : ∃ wo : World, wo = wr := ⟨_, rfl⟩
      subst hwo
      go_wp2
      go_loopw [7] (fun i' wr => ∃ k : Nat, k ≤ M ∧ i' = .int .i64 k ∧ Hid (BlkB wr w1.heap.size ((A.take k).foldl relax s)) ∧ Ext w1 wr) (fun i' _ => M - (RowKit.intOf i').toNat)
      case atStart => exact ⟨0, Nat.zero_le _, rfl, hblk, hx⟩
      case round =>
        clear b10 b11
        obtain ⟨k, hk, rfl, hblk', hx'⟩ := hrel
        have b10 := hx'.cell B0.out; have b11 := hx'.cell B1.out
        by_cases hlt' : k < M
        · have hkA : k < A.length := by rw [← HM.out]; exact hlt'
          obtain ⟨g, o, rfl, d0, d1⟩ := (HI.out.ext (X1.out.trans hx')) k (by rw [zarc_len]; exact hkA)
          have hok := HOK.out _ (List.getElem_mem hkA)
          rw [zarc_at A k hkA] at d0 d1
          have hst := fold_take relax s A k hkA
          obtain ⟨s1, hs1⟩ : ∃ s1, s1 = (A.take k).foldl relax s := ⟨_, rfl⟩
          have hl1 : s1.length = N := by rw [hs1, relaxF_len, hsl]
          rw [← hs1] at hst hblk'
          unfold relax at hst
          obtain ⟨x, hxe⟩ : ∃ x, x = A[k].1 := ⟨_, rfl⟩
          obtain ⟨y, hye⟩ : ∃ y, y = A[k].2 := ⟨_, rfl⟩
          rw [← hxe] at d0 hok hst; rw [← hye] at d1 hok hst
          clear hxe hye hs1
          have e0 := hblk'.out.cellD (j := x) (by omega)
          by_cases ht : s1.getD x false = true
          · rw [if_pos ht] at hst
            rw [ht] at e0
            have HST := Lib.hid hst
            have e1 := hblk'.out.cellD (j := y) (by omega)
            have e2 := hblk'.out.frozen y
            have hbs := Lib.hid (hblk'.out.set y true)
            clear hst ht
            go_wp2
            go_roundw
            case rel => exact ⟨k + 1, by omega, by go_num, by unfold relax; rw [HST.out]; exact hbs, hx'.setCell (Nat.le_refl _) _⟩
            case measure => simp [RowKit.intOf]; omega
          · rw [if_neg ht] at hst
            have hf : s1.getD x false = false := by simpa using ht
            rw [hf] at e0
            have HST := Lib.hid hst
            clear hst ht hf
            go_wp2
            go_roundw
            case rel => exact ⟨k + 1, by omega, by go_num, by unfold relax; rw [HST.out]; exact hblk', hx'⟩
            case measure => simp [RowKit.intOf]; omega
        · have hkn : k = A.length := by have := HM.out; omega
          rw [hkn, List.take_length] at hblk'
          clear hkn
          go_wp2
          go_roundw
          case rel => exact ⟨r + 1, by omega, by go_num, by rw [itR, ← HS.out]; exact hblk', hx'⟩
          case measure => simp [RowKit.intOf]; omega
    · obtain rfl : r = N := by omega
      obtain ⟨s, hs⟩ : ∃ s, s = itR A r (markN r v) := ⟨_, rfl⟩
      have hsl : s.length = r := by rw [hs, itR_len, markN_len]
      rw [← hs] at hblk
      have HS : Hid (s = reachB r A v) := Lib.hid hs
      have HX := Lib.hid hx
      clear hs
      go_wp2
      go_loopw [8, 9] (fun o' i' wr => ∃ (k : Nat) (sl : Value), k ≤ r ∧ sl = o' ∧ i' = .int .i64 k ∧ Hid (wr.ownsRow (w1.heap.size + 1) 3 1 sl ((List.range k).filter (fun u => s.getD u false)).length (iv (zl ((List.range k).filter (fun u => s.getD u false))))) ∧ Hid (BlkB wr w1.heap.size s) ∧ Ext w1 wr) (fun _ i' _ => r - (RowKit.intOf i').toNat)
      case atStart => exact ⟨0, _, Nat.zero_le _, rfl, rfl, Lib.hid (World.ownsRow_nil _ _ _ _), hblk, hx⟩
      case round =>
        clear b10 b11 hx hblk
        obtain ⟨k, sl, hk, rfl, rfl, hown, hblk, hx⟩ := hrel
        have b10 := hx.cell B0.out; have b11 := hx.cell B1.out
        have hbw := Lib.hid hblk.out.lt
        by_cases hlt' : k < r
        · have e0 := hblk.out.cellD (j := k) (by omega)
          have hst := range_filter (fun u => s.getD u false) k
          have hlen : ((List.range k).filter (fun u => s.getD u false)).length ≤ k := Nat.le_trans (List.length_filter_le _ _) (by simp)
          obtain ⟨R, hR⟩ : ∃ R, R = (List.range k).filter (fun u => s.getD u false) := ⟨_, rfl⟩
          rw [← hR] at hst hown hlen
          by_cases ht : s.getD k false = true
          · rw [if_pos ht] at hst
            rw [ht] at e0
            have HST := Lib.hid hst
            clear hst ht hR
            go_wp2_with (at_builtin; refine wpList_append_lies _ rfl _ _ 26 rfl (w1.heap.size + 1) 3 i0 _ 1 8 Try.underlying26 hi hz0 hz1 hz2 rfl (by decide) _ _ _ rfl (hown.out.alloc _) ⟨wr.heap.size, 0, none⟩ 1 1 [.int .i64 k] rfl rfl ?c1 ?c2 (by decide) ?c3 ?c4 ?c5 _ rfl ?_)
            case c1 => exact new_cells _ [_] _ _ rfl
            case c2 => simp [Value.oneCell']
            case c3 => unfold maxLen; omega
            case c4 => omega
            case c5 => have := hbw.out; simp; omega
            intro gg cc w3 hown3 hgrow3 _ _
            have hblk3 : Hid (BlkB w3 w1.heap.size s) := Lib.hid (heap_grown (heap_ext hblk.out ((Ext.refl _).alloc _)) hgrow3 (fun e => by have := (hown.out.lt _ e.symm).1; omega))
            have hx3 : Ext w1 w3 := Below.grown (hx.alloc _) hgrow3 (by have := hbw.out; simp; omega) (fun q hq => by have := (hown.out.lt q hq).1; omega)
            have hown4 : Hid (w3.ownsRow (w1.heap.size + 1) 3 1 (.slice (some ⟨gg, 0, none⟩) (R.length + 1) cc) (R ++ [k]).length (iv (zl (R ++ [k])))) := Lib.hid (by rw [zl_app, iv_app, List.length_append]; exact hown3)
            clear hown3 hgrow3
            go_wp2
            go_roundw
            case rel => exact ⟨k + 1, _, by omega, rfl, by go_num, by rw [HST.out]; exact hown4, hblk3, hx3⟩
            case measure => simp [RowKit.intOf]; omega
          · rw [if_neg ht, List.append_nil] at hst
            have hf : s.getD k false = false := by simpa using ht
            rw [hf] at e0
            have HST := Lib.hid hst
            clear hst ht hf hR
            go_wp2
            go_roundw
            all_goals first | exact ⟨k + 1, _, by omega, rfl, by go_num, by rw [HST.out]; exact hown, hblk, hx⟩ | (simp [RowKit.intOf]; omega) | exact .bool false
        · obtain rfl : k = r := by omega
          have hres : (List.range k).filter (fun u => s.getD u false) = reachT k A v := by rw [HS.out]; rfl
          rw [hres] at hown
          have HO := hown
          clear hres hown
          go_wp2
          go_ret
          obtain ⟨oa, oc, h1, h2, -⟩ := own_ints HO.out (by rw [zl_len])
          rw [zl_len] at h1
          subst h1
          refine ⟨⟨oa, oc, rfl, h2, fun g o e => ?_⟩, X1.out.trans hx⟩
          have h5 := HO.out.lt g (by rw [e]; rfl)
          have h6 := X1.out.size
          exact ⟨by omega, h5.2⟩
theorem reachR_any (N : Nat) (a : Option Addr) (A : Arcs) (cap v : Nat) (w : World) (hN : N ≤ 64) (h : ArcIn w a (zarc A)) (hA : A.length ≤ 256) (ok : Ok N A) (hv : v < N) :
    Calls Try.prog 11 #[.agg #[.int .i64 N, .slice a A.length cap], .int .i64 v] w fun e w' => LstR e w' (reachT N A v) ∧ Ext w w' :=
  (reachN_any N a A cap v w hN h hA ok hv).mono fun _ _ ⟨⟨b, c, h1, h2, _⟩, x⟩ => ⟨⟨b, c, h1, h2⟩, x⟩
end Go.Proofs.Ytjjcjoedgmfalaa.Tp

/- What the document's free and Order return. -/
namespace Go.Proofs.Ytjjcjoedgmfalaa.Tp
open Go.RowKit Go.Sort Go.Lib Fx

theorem zl_contains (D : List Nat) (v : Nat) : (zl D).contains (v : Int) = D.contains v := by
  rw [Bool.eq_iff_iff, List.contains_iff_mem, List.contains_iff_mem]
  unfold zl
  rw [List.mem_map]
  constructor
  · rintro ⟨x, hx, e⟩
    have : x = v := by omega
    subst this; exact hx
  · intro h; exact ⟨v, h, rfl⟩
theorem hasN_any (a : Option Addr) (D : List Nat) (ca v : Nat) (w : World) (ha : IntIn w a (zl D)) (hL : D.length ≤ 64) :
    Calls Try.prog 18 #[.slice a D.length ca, .int .i64 v] w fun e w' => e = .returned (.bool (D.contains v)) ∧ Ext w w' := by
  have := has_any a (zl D) ca v w ha (by rw [zl_len]; omega)
  rw [zl_len, zl_contains] at this
  exact this
theorem freeB_step (A : Arcs) (D : List Nat) (v : Nat) (hn : D.contains v = false) : freeB A D v = A.all (fun p => !(p.2 == v) || D.contains p.1) := by
  unfold freeB; rw [hn]; rfl
set_option maxHeartbeats 4000000 in
set_option maxRecDepth 100000 in
theorem free_any (N : Nat) (a b : Option Addr) (A : Arcs) (cap cb v : Nat) (D : List Nat) (w : World) (h : ArcIn w a (zarc A)) (hA : A.length ≤ 256) (hb : IntIn w b (zl D)) (hD : D.length ≤ 64) :
    Calls Try.prog 31 #[.agg #[.int .i64 N, .slice a A.length cap], .slice b D.length cb, .int .i64 v] w fun e w' => e = .returned (.bool (freeB A D v)) ∧ Ext w w' := by
  have hhas := fun (u : Nat) w1 (x : Ext w w1) => hasN_any b D cb u w1 (hb.ext x) hD
  obtain ⟨M, hM⟩ : ∃ M, M = A.length := ⟨_, rfl⟩
  rw [← hM] at hA ⊢
  have HI := Lib.hid h; have HM := Lib.hid hM; have HH := Lib.hid hhas
  clear h hb hM hhas
  by_cases hc : D.contains v = true
  · have hf : Hid (freeB A D v = false) := Lib.hid (by unfold freeB; rw [hc]; rfl)
    have H1 := Lib.hid (HH.out v)
    rw [hc] at H1
    clear hc
    go_enter Try.func31, Try.ntmps31
    go_wp2_with (go_at_call 18; refine (H1.out _ ((Ext.refl _).alloc _)).mono ?_; rintro e w1 ⟨rfl, x1⟩)
    go_ret
    exact ⟨ret_bool' hf.out.symm, ((Ext.refl _).alloc _).trans x1⟩
  · have hc' : D.contains v = false := by simpa using hc
    have HF := Lib.hid (freeB_step A D v hc')
    have H1 := Lib.hid (HH.out v)
    rw [hc'] at H1
    clear hc hc'
    go_enter Try.func31, Try.ntmps31
    go_wp2_with (go_at_call 18; refine (H1.out _ ((Ext.refl _).alloc _)).mono ?_; rintro e w1 ⟨rfl, x1⟩; have b1 := box_at x1; have b10 := b1.1; have b11 := b1.2)
    have X1 : Hid (Ext w w1) := Lib.hid (((Ext.refl _).alloc _).trans x1)
    have B0 := Lib.hid b10; have B1 := Lib.hid b11
    clear b1 b10 b11 x1
    go_loopw [7] (fun i' wr => ∃ k : Nat, k ≤ M ∧ i' = .int .i64 k ∧ Hid ((A.take k).all (fun p => !(p.2 == v) || D.contains p.1) = true) ∧ Ext w1 wr) (fun i' _ => M - (RowKit.intOf i').toNat)
    case atStart => exact ⟨0, Nat.zero_le _, rfl, Lib.hid rfl, Ext.refl _⟩
    case round =>
      obtain ⟨k, hk, rfl, hall, hx⟩ := hrel
      have b10 := hx.cell B0.out; have b11 := hx.cell B1.out
      by_cases hlt : k < M
      · have hkA : k < A.length := by rw [← HM.out]; exact hlt
        obtain ⟨g, o, rfl, d0, d1⟩ := (HI.out.ext (X1.out.trans hx)) k (by rw [zarc_len]; exact hkA)
        rw [zarc_at A k hkA] at d0 d1
        have hst : (A.take (k + 1)).all (fun p => !(p.2 == v) || D.contains p.1) = (!(A[k].2 == v) || D.contains A[k].1) := by
          rw [List.take_succ_eq_append_getElem hkA, List.all_append, hall.out]; simp
        have hall2 : (!(A[k].2 == v) || D.contains A[k].1) = false → A.all (fun p => !(p.2 == v) || D.contains p.1) = false := fun hh => by
          rw [List.all_eq_false]
          exact ⟨A[k], List.getElem_mem hkA, by rw [hh]; simp⟩
        obtain ⟨x, hxe⟩ : ∃ x, x = A[k].1 := ⟨_, rfl⟩
        obtain ⟨y, hye⟩ : ∃ y, y = A[k].2 := ⟨_, rfl⟩
        rw [← hxe] at d0 hst hall2; rw [← hye] at d1 hst hall2
        clear hxe hye hall
        by_cases e : y = v
        · obtain ⟨e1, e2⟩ := eq_facts (x := (y : Int)) (k := (v : Int)) (by omega)
          have e3 : (y == v) = true := by rw [beq_iff_eq]; exact e
          rw [e3] at hst hall2
          simp only [Bool.not_true, Bool.false_or] at hst hall2
          have H2 := Lib.hid (HH.out x)
          by_cases hc : D.contains x = true
          · rw [hc] at hst H2
            have HST := Lib.hid hst
            clear hst hall2 hc e e3
            go_wp2_with (go_at_call 18; refine (H2.out _ (X1.out.trans hx)).mono ?_; rintro e w2 ⟨rfl, x2⟩)
            go_roundw
            case rel => exact ⟨k + 1, by omega, by go_num, HST, hx.trans x2⟩
            case measure => simp [RowKit.intOf]; omega
          · have hc' : D.contains x = false := by simpa using hc
            have HF2 := Lib.hid (hall2 hc')
            rw [hc'] at H2
            clear hst hall2 hc hc' e e3
            go_wp2_with (go_at_call 18; refine (H2.out _ (X1.out.trans hx)).mono ?_; rintro e w2 ⟨rfl, x2⟩)
            go_ret
            exact ⟨ret_bool' (by rw [HF.out, HF2.out]), X1.out.trans (hx.trans x2)⟩
        · obtain ⟨e1, e2⟩ := neq_facts (x := (y : Int)) (k := (v : Int)) (by omega)
          have e3 : (y == v) = false := by rw [beq_eq_false_iff_ne]; exact e
          rw [e3] at hst
          simp only [Bool.not_false, Bool.true_or] at hst
          have HST := Lib.hid hst
          clear hst hall2 e e3
          go_wp2
          go_roundw
          case rel => exact ⟨k + 1, by omega, by go_num, HST, hx⟩
          case measure => simp [RowKit.intOf]; omega
      · have hkn : k = A.length := by have := HM.out; omega
        have ha := hall.out
        rw [hkn, List.take_length] at ha
        have HA2 := Lib.hid ha
        clear hall ha hkn
        go_wp2
        go_ret
        exact ⟨ret_bool' (by rw [HF.out, HA2.out]), X1.out.trans hx⟩
end Go.Proofs.Ytjjcjoedgmfalaa.Tp

/- What the document's Order returns. -/
namespace Go.Proofs.Ytjjcjoedgmfalaa.Tp
open Go.RowKit Go.Sort Go.Lib Fx

/-- A list of vertices and whether there is one, as they are handed back. -/
def LstB (e : Ending) (w' : World) (l : List Nat) (b : Bool) : Prop := ∃ a c, e = .returned (.tuple #[.slice a l.length c, .bool b]) ∧ IntIn w' a (zl l)
/-- What both Order functions return. -/
def ordL (N : Nat) (A : Arcs) : List Nat := if (ordT N A).length < N then [] else ordT N A
def ordB (N : Nat) (A : Arcs) : Bool := !decide ((ordT N A).length < N)
theorem IntIn.nil (w : World) (a : Option Addr) : IntIn w a [] := fun j hj => absurd hj (by simp)
set_option maxHeartbeats 4000000 in
set_option maxRecDepth 100000 in
theorem orderR_any (N : Nat) (a : Option Addr) (A : Arcs) (cap : Nat) (w : World) (hN : N ≤ 64) (h : ArcIn w a (zarc A)) (hA : A.length ≤ 256) (ok : Ok N A) :
    Calls Try.prog 19 #[.agg #[.int .i64 N, .slice a A.length cap]] w fun e w' => LstB e w' (ordL N A) (ordB N A) ∧ Ext w w' := by
  have hval := fun w1 (x : Ext w w1) => validR_any N a (zarc A) cap w1 (by omega) (by omega) (h.ext x) (zarc_ok hN ok) (by rw [zarc_len]; omega)
  rw [valid_ok hN hA ok, zarc_len] at hval
  have hfree := fun (b : Option Addr) (cb v : Nat) (D : List Nat) w1 (x : Ext w w1) (hb : IntIn w1 b (zl D)) (hD : D.length ≤ 64) => free_any N a b A cap cb v D w1 (h.ext x) hA hb hD
  obtain ⟨M, hM⟩ : ∃ M, M = A.length := ⟨_, rfl⟩
  rw [← hM] at hA hval hfree ⊢
  obtain ⟨i0, hi, hz0, hz1, hz2⟩ := info_parts info_int
  have HM := Lib.hid hM; have HV := Lib.hid hval; have HF := Lib.hid hfree; have HOK := Lib.hid ok
  clear h hM hval hfree ok
  go_enter Try.func19, Try.ntmps19
  go_wp2_with (go_at_call 16; refine (HV.out _ ((Ext.refl _).alloc _)).mono ?_; rintro e w1 ⟨rfl, x1⟩; have b1 := box_at x1; have b10 := b1.1; have b11 := b1.2)
  have X1 : Hid (Ext w w1) := Lib.hid (((Ext.refl _).alloc _).trans x1)
  have B0 := Lib.hid b10; have B1 := Lib.hid b11
  clear b10 b11 b1 x1
  go_loopg [4] N (fun f o' wr => ∃ (d : List Nat) (sl : Value), sl = o' ∧ f + d.length = N ∧ Hid (OrdI N A d) ∧ Hid (wr.ownsRow (w1.heap.size) 3 1 sl d.length (iv (zl d))) ∧ Ext w1 wr)
  case atStart => exact ⟨[], _, rfl, by simp, Lib.hid (OrdI.nil N A), Lib.hid (World.ownsRow_nil _ _ _ _), Ext.refl _⟩
  case round =>
    obtain ⟨d, sl, rfl, hf, hd, hown, hx⟩ := hrel
    have b10 := hx.cell B0.out; have b11 := hx.cell B1.out
    obtain ⟨oa, oc, rfl, hin, -⟩ := own_ints hown.out (by rw [zl_len])
    rw [zl_len] at hown ⊢
    have hsm := hd.out.small
    obtain ⟨n, hn⟩ : ∃ n, n = d.length := ⟨_, rfl⟩
    rw [← hn] at hf hsm hown ⊢
    have HN := Lib.hid hn
    have HIN := Lib.hid hin
    clear hn hin
    by_cases hlt : n < N
    · have fr := fun (v : Nat) w2 (x : Ext w1 w2) (x2 : Ext wr w2) => HF.out oa oc v d w2 (X1.out.trans x) (HIN.out.ext x2) (by rw [← HN.out]; omega)
      rw [← HN.out] at fr
      have FR := Lib.hid fr
      clear fr
      go_wp2
      go_loopw [5] (fun v' wi => ∃ v : Nat, v ≤ N ∧ v' = .int .i64 v ∧ Hid (∀ u, u < v → freeB A d u = false) ∧ Ext wr wi) (fun v' _ => N - (RowKit.intOf v').toNat)
      case atStart => exact ⟨0, Nat.zero_le _, rfl, Lib.hid (fun u hu => absurd hu (by omega)), Ext.refl _⟩
      case round =>
        clear b10 b11
        obtain ⟨v, hv, rfl, hall, hxi⟩ := hrel
        have b10 := (hx.trans hxi).cell B0.out; have b11 := (hx.trans hxi).cell B1.out
        by_cases hvN : v < N
        · by_cases hfr : freeB A d v = true
          · have H1 := Lib.hid (FR.out v)
            rw [hfr] at H1
            have HLF : Hid (leastF N A d = some v) := Lib.hid (leastF_some hvN hfr hall.out)
            clear hfr hall
            have c1 : ((v : Int) == (N : Int)) = false := (neq_facts (by omega)).1
            have hlen2 := hlt
            have hown2 := hown
            go_wp2_with (first | (go_at_call 31; refine (H1.out _ (hx.trans hxi) hxi).mono ?_; rintro e w2 ⟨rfl, x2⟩; have b20 := ((hx.trans hxi).trans x2).cell B0.out; have b21 := ((hx.trans hxi).trans x2).cell B1.out) | (at_builtin; refine wpList_append_lies _ rfl _ _ 26 rfl w1.heap.size 3 i0 _ 1 8 Try.underlying26 hi hz0 hz1 hz2 rfl (by decide) _ _ _ rfl ((own_ext' hown2.out (hxi.trans x2)).alloc _) ⟨w2.heap.size, 0, none⟩ 1 1 [.int .i64 v] rfl rfl (new_cells _ [_] _ _ rfl) (by simp [Value.oneCell']) (by decide) (by unfold maxLen; omega) (by omega) (by have := ((hx.trans hxi).trans x2).size; simp; omega) _ rfl ?_; intro gg cc w3 hown3 hgrow3 _ _))
            have hx3 : Ext w1 w3 := Below.grown (((hx.trans hxi).trans x2).alloc _) hgrow3 (by have := ((hx.trans hxi).trans x2).size; simp; omega) (fun q hq => (hown2.out.lt q hq).1)
            have hown4 : Hid (w3.ownsRow w1.heap.size 3 1 (.slice (some ⟨gg, 0, none⟩) (n + 1) cc) (d ++ [v]).length (iv (zl (d ++ [v])))) := Lib.hid (by rw [zl_app, iv_app, List.length_append, ← HN.out]; exact hown3)
            clear hown3 hgrow3
            go_wp2
            have HD3 := Lib.hid (hd.out.snoc HLF.out).1
            have hg : gk = (gk - 1) + 1 := by omega
            go_roundg (gk - 1)
            case measure => omega
            case rel => exact ⟨d ++ [v], _, rfl, by rw [List.length_append, List.length_singleton, ← HN.out]; omega, HD3, hown4, hx3⟩
          · have hff : freeB A d v = false := by simpa using hfr
            have H1 := Lib.hid (FR.out v)
            rw [hff] at H1
            have hall2 : Hid (∀ u, u < v + 1 → freeB A d u = false) := Lib.hid (fun u hu => by
              by_cases e : u = v
              · subst e; exact hff
              · exact hall.out u (by omega))
            clear hfr hff hall
            go_wp2_with (first | (go_at_call 31; refine (H1.out _ (hx.trans hxi) hxi).mono ?_; rintro e w2 ⟨rfl, x2⟩; have b20 := ((hx.trans hxi).trans x2).cell B0.out; have b21 := ((hx.trans hxi).trans x2).cell B1.out))
            go_roundw
            case rel => exact ⟨v + 1, by omega, by go_num, hall2, hxi.trans x2⟩
            case measure => simp [RowKit.intOf]; omega
        · have hvN' : v = N := by omega
          have HLF : Hid (leastF N A d = none) := Lib.hid (leastF_none.2 (fun u hu => hall.out u (by omega)))
          subst hvN'
          have hdo := hd.out.stop HLF.out
          have HOT : Hid ((ordT v A).length < v) := Lib.hid (by rw [← hdo, ← HN.out]; exact hlt)
          clear hall hdo
          have c1 : ((v : Int) == (v : Int)) = true := (eq_facts rfl).1
          go_wp2
          go_ret2
          refine ⟨⟨none, 0, ?_, ?_⟩, X1.out.trans (hx.trans hxi)⟩
          · unfold ordL ordB; rw [if_pos HOT.out, decide_eq_true HOT.out]; rfl
          · unfold ordL; rw [if_pos HOT.out]; exact IntIn.nil _ _
    · have hn2 : n = N := by omega
      have hfull : leastF N A d = none := leastF_none.2 (fun u hu => by
        cases e : freeB A d u with
        | false => rfl
        | true => exact absurd (nodup_all hd.out.nodup hd.out.lt (by rw [← HN.out]; exact hn2) u hu) (freeB_iff.1 e).1)
      have hdo := hd.out.stop hfull
      have HOT : Hid (d = ordT N A ∧ ¬ (ordT N A).length < N) := Lib.hid ⟨hdo, by rw [← hdo, ← HN.out]; omega⟩
      clear hfull hdo
      go_wp2
      go_ret2
      refine ⟨⟨oa, oc, ?_, ?_⟩, X1.out.trans hx⟩
      · unfold ordL ordB; rw [if_neg HOT.out.2, decide_eq_false HOT.out.2, ← HOT.out.1, ← HN.out]; rfl
      · unfold ordL; rw [if_neg HOT.out.2, ← HOT.out.1]; exact HIN.out
end Go.Proofs.Ytjjcjoedgmfalaa.Tp

/- What the program's Order returns. -/
namespace Go.Proofs.Ytjjcjoedgmfalaa.Tp
open Go.RowKit Go.Sort Go.Lib Fx

theorem zrep (N : Nat) : List.replicate N (0 : Int) = zl (cnt N (inN [])) := by
  unfold zl cnt; rw [List.map_map]
  refine List.ext_getElem (by simp) fun i h1 h2 => by simp [inN]
theorem ready_start (N : Nat) (A : Arcs) : (List.range N).filter (fun v => decide (inN A v = 0)) = ready N A [] := by
  unfold ready
  refine List.filter_congr fun v _ => ?_
  rw [Bool.eq_iff_iff, decide_eq_true_eq, openN_free, inN_open]
  simp
set_option maxHeartbeats 16000000 in
set_option maxRecDepth 100000 in
theorem order_any (N : Nat) (a : Option Addr) (A : Arcs) (cap : Nat) (w : World) (hN : N ≤ 64) (h : ArcIn w a (zarc A)) (hA : A.length ≤ 256) (ok : Ok N A) :
    Calls Try.prog 17 #[.agg #[.int .i64 N, .slice a A.length cap]] w fun e w' => LstB e w' (ordL N A) (ordB N A) ∧ Ext w w' := by
  have hval := fun w1 (x : Ext w w1) => valid_any N a (zarc A) cap w1 (by omega) (by omega) (h.ext x) (zarc_ok hN ok) (by rw [zarc_len]; omega)
  rw [valid_ok hN hA ok, zarc_len] at hval
  have hhd := fun w1 (x : Ext w w1) => heads_any N a A cap w1 hN (h.ext x) hA ok
  obtain ⟨M, hM⟩ : ∃ M, M = A.length := ⟨_, rfl⟩
  rw [← hM] at hA hval hhd ⊢
  have hmk := run_make_row' (P := Try.prog) 26 3 (.int .i64 0) 8 Try.underlying26 info_int rfl .i64 .i64 N (by omega) (by omega)
  obtain ⟨i0, hi, hz0, hz1, hz2⟩ := info_parts info_int
  have HI := Lib.hid h
  have HM := Lib.hid hM; have HV := Lib.hid hval; have HH := Lib.hid hhd; have HOK := Lib.hid ok
  clear h hM hval hhd ok
  go_enter Try.func17, Try.ntmps17
  go_wp2_with (go_at_call 22; refine (HV.out _ ((Ext.refl _).alloc _)).mono ?_; rintro e w1 ⟨rfl, x1⟩; have b1 := box_at x1; have b10 := b1.1; have b11 := b1.2; have b12 := fun o => ((Ext.refl w1).alloc o).cell b1.2)
  clear hmk b1 b12
  have X1 : Hid (Ext w w1) := Lib.hid (((Ext.refl _).alloc _).trans x1)
  have B0 := Lib.hid b10; have B1 := Lib.hid b11
  clear b10 b11 x1
  obtain ⟨bo, hbo⟩ : ∃ bo, bo = w1.heap.size := ⟨_, rfl⟩
  rw [← hbo]
  have HBO := Lib.hid hbo
  clear hbo
  go_loopw [24] (fun i' wr => ∃ k : Nat, k ≤ M ∧ i' = .int .i64 k ∧ Hid (BlkI wr bo (zl (cnt N (inN (A.take k))))) ∧ Ext w1 wr) (fun i' _ => M - (RowKit.intOf i').toNat)
  case atStart =>
    refine ⟨0, Nat.zero_le _, rfl, Lib.hid ?_, (Ext.refl _).alloc _⟩
    rw [HBO.out, List.take_zero, ← zrep]
    exact BlkI.made w1 N
  case round =>
    obtain ⟨k, hk, rfl, hblk, hx⟩ := hrel
    by_cases hlt : k < M
    · have hkA : k < A.length := by rw [← HM.out]; exact hlt
      obtain ⟨g, o, rfl, d0, d1⟩ := (HI.out.ext (X1.out.trans hx)) k (by rw [zarc_len]; exact hkA)
      have hok := HOK.out _ (List.getElem_mem hkA)
      rw [zarc_at A k hkA] at d0 d1
      have hst := cnt_step N A k hkA hok.2
      obtain ⟨s, hs⟩ : ∃ s, s = cnt N (inN (A.take k)) := ⟨_, rfl⟩
      have hsl : s.length = N := by rw [hs, cnt_len]
      have hsb : ∀ y, s.getD y 0 ≤ 256 := fun y => by
        rw [hs]
        by_cases hy : y < N
        · rw [cnt_at _ _ _ hy]
          unfold inN
          have := List.length_filter_le (fun p : Nat × Nat => p.2 == y) (A.take k)
          rw [List.length_take] at this; omega
        · rw [List.getD_eq_getElem?_getD, List.getElem?_eq_none (by rw [cnt_len]; omega)]; simp
      rw [← hs] at hst hblk
      obtain ⟨x, hxe⟩ : ∃ x, x = A[k].1 := ⟨_, rfl⟩
      obtain ⟨y, hye⟩ : ∃ y, y = A[k].2 := ⟨_, rfl⟩
      rw [← hxe] at d0; rw [← hye] at d1 hok hst
      have hblk1 := hblk.out.ext ((Ext.refl wr).alloc (.cells #[.int .i64 x, .int .i64 y] 37))
      have e0 := hblk1.cellD (j := y) (by rw [zl_len]; omega)
      have e1 := hblk1.frozen y
      rw [zl_getD] at e0
      have hv := hsb y
      obtain ⟨v, hve⟩ : ∃ v, v = s.getD y 0 := ⟨_, rfl⟩
      rw [← hve] at e0 hst hv
      have hb2 := Lib.hid (hblk1.set y ((v : Int) + 1))
      have hz : zl (s.set y (v + 1)) = (zl s).set y ((v : Int) + 1) := by rw [← zl_set]; rfl
      have HST := Lib.hid hst; have HZ := Lib.hid hz
      clear hxe hye hs hst hblk1 hz hve hsb
      go_wp2
      go_roundw
      case rel => exact ⟨k + 1, by omega, by go_num, by rw [← HST.out, HZ.out]; exact hb2, (hx.alloc _).setCell (by rw [HBO.out]; exact Nat.le_refl _) _⟩
      case measure => simp [RowKit.intOf]; omega
    · have hkM : k = A.length := by have := HM.out; omega
      rw [hkM, List.take_length] at hblk
      clear hkM
      go_wp2
      obtain ⟨wa, hwa⟩ : ∃ wa : World, wa = wr := ⟨_, rfl⟩
      subst hwa
      obtain ⟨bq, hbq⟩ : ∃ bq, bq = wa.heap.size := ⟨_, rfl⟩
      rw [← hbq]
      have hob : bo < bq := by have := hblk.out.lt; omega
      have h1b : w1.heap.size ≤ bo := by rw [HBO.out]; exact Nat.le_refl _
      have HBQ := Lib.hid hbq
      clear hbq
      go_loopw [40] (fun i' wr => ∃ (k : Nat) (sv : Value) (Q : List Int), k ≤ N ∧ i' = .int .i64 k ∧ Hid (QAt wr bq (bq + 1) sv Q) ∧ Hid (Q.Perm (zl ((List.range k).filter (fun v => decide (inN A v = 0))))) ∧ Hid (HeapN Q.length Q) ∧ Hid (BlkI wr bo (zl (cnt N (inN A)))) ∧ Ext w1 wr) (fun i' _ => N - (RowKit.intOf i').toNat)
      case atStart =>
        have hq0 := QAt.empty wa (bq + 1)
        rw [← HBQ.out] at hq0
        exact ⟨0, _, [], Nat.zero_le _, rfl, Lib.hid hq0, Lib.hid (.refl _), Lib.hid (fun i h0 h1 => absurd h1 (by simp)), Lib.hid (hblk.out.ext ((Ext.refl _).alloc _)), hx.alloc _⟩
      case round =>
        clear hblk hx
        obtain ⟨k, sv, Q, hk2, rfl, hq, hp, hh, hblk, hx⟩ := hrel
        by_cases hkN : k < N
        · have e0 := hblk.out.cellD (j := k) (by rw [zl_len, cnt_len]; exact hkN)
          rw [zl_getD, cnt_at _ _ _ hkN] at e0
          have hst := range_filter (fun v => decide (inN A v = 0)) k
          have hql : Q.length ≤ 64 := by
            rw [hp.out.length_eq, zl_len]
            exact Nat.le_trans (List.length_filter_le _ _) (by simp; omega)
          have hlow := fun g hg => (hq.out.own.lt g hg).1
          have hqlt : bq < wr.heap.size := (Array.getElem?_eq_some_iff.1 hq.out.q).1
          obtain ⟨n, hn⟩ : ∃ n, n = inN A k := ⟨_, rfl⟩
          rw [← hn] at e0 hst
          have HLOW := Lib.hid hlow
          clear hlow
          by_cases hz : n = 0
          · have f1 := (eq_facts (x := (n : Int)) (k := 0) (by omega)).1
            rw [decide_eq_true hz, if_pos rfl] at hst
            have HST := Lib.hid hst
            have hpu := hpush_any bq (bq + 1) k sv Q wr hq.out (by omega) (by omega) (by omega) hh.out
            have HPU := Lib.hid hpu
            clear hst hz hpu hn
            go_wp2_with (go_at_call 28; refine HPU.out.mono ?_; rintro e w2 ⟨rfl, sv2, Q2, q2, p2, h2, k2, o2⟩; have Q3 := Lib.hid q2; have P3 := Lib.hid p2; have H3 := Lib.hid h2; have K3 := Lib.hid k2; clear q2 p2 h2 k2 o2)
            go_roundw
            case rel =>
              refine ⟨k + 1, sv2, Q2, by omega, by go_num, Q3, Lib.hid ?_, H3, Lib.hid (K3.out.heap hblk.out (fun e => ?_)), Below.trans hx (K3.out.below hx.size (fun j hj e => ?_))⟩
              · rw [HST.out, zl_app]
                exact P3.out.trans ((List.Perm.cons _ hp.out).trans (List.perm_append_singleton _ _).symm)
              · rcases e with e | e
                · omega
                · have := HLOW.out _ e; omega
              · rcases e with e | e
                · omega
                · have := HLOW.out _ e; omega
            case measure => simp [RowKit.intOf]; omega
          · have f1 := (neq_facts (x := (n : Int)) (k := 0) (by omega)).1
            rw [decide_eq_false hz, if_neg (by simp), List.append_nil] at hst
            have HST := Lib.hid hst
            clear hst hz hn
            go_wp2
            go_roundw
            case rel => exact ⟨k + 1, sv, Q, by omega, by go_num, hq, Lib.hid (by rw [HST.out]; exact hp.out), hh, hblk, hx⟩
            case measure => simp [RowKit.intOf]; omega
        · have hkn : N = k := by omega
          subst hkn
          have b10 := hx.cell B0.out; have b11 := hx.cell B1.out
          have hp2 := hp.out
          rw [ready_start] at hp2
          have HP2 := Lib.hid hp2
          clear hp hp2
          have hqlt : bq < wr.heap.size := (Array.getElem?_eq_some_iff.1 hq.out.q).1
          have hlow := fun g hg => hq.out.own.lt g hg
          have HLOW := Lib.hid hlow
          clear hlow
          obtain ⟨wb, hwb⟩ : ∃ wb : World, wb = wr := ⟨_, rfl⟩
          subst hwb
          have XW := Lib.hid (X1.out.trans hx)
          go_wp2_with (go_at_call 23; refine (HH.out _ XW.out).mono ?_; rintro e w4 ⟨nb, rfl, hnx, hnb, x4⟩)
          have b20 := (hx.trans x4).cell B0.out; have b21 := (hx.trans x4).cell B1.out
          have HX := Lib.hid hx
          clear hx b10 b11
          go_wp2
          have HNX := Lib.hid hnx; have HNB := Lib.hid hnb; have X4 := Lib.hid x4
          clear hnx b20 b21
          have H4 : wb.heap.size ≤ w4.heap.size := x4.size
          clear hnb x4
          obtain ⟨R0, hR0⟩ : ∃ R0, R0 = w4.heap.size := ⟨_, rfl⟩
          have LIE : Hid (OrdLie bo bq wb.heap.size R0 w1 w4) := Lib.hid ⟨hob, hqlt, by rw [hR0]; exact H4, h1b, hR0.symm⟩
          have ST : Hid (OrdS bo bq wb.heap.size R0 w1 w4 (w4.alloc (.cells #[] 3)) (.slice (some ⟨R0, 0, none⟩) 0 0) sv [] (ready N A []) (cnt N (openN A []))) := Lib.hid (by
            have hx4 : Ext wb (w4.alloc (.cells #[] 3)) := X4.out.alloc _
            have hc : cnt N (inN A) = cnt N (openN A []) := by congr 1; funext v; exact inN_open A v
            have ho := World.ownsRow_made w4 (e := 3) (size := 1) #[] 0 (base := R0) (by rw [hR0]; exact Nat.le_refl _) (by unfold maxLen; omega) rfl
            rw [← hR0] at ho
            refine ⟨⟨Q, hq.out.ext hx4, HP2.out, hh.out⟩, by rw [← hc]; exact hblk.out.ext hx4, Keep.of ((Ext.refl _).alloc _), fun g hg => .inl (HLOW.out g hg).2, ho, fun e => ?_, HX.out.trans hx4⟩
            have := (HLOW.out R0 e).2
            omega)
          rw [← hR0]
          clear hR0 hq hh hblk
          go_loopg [11] N (fun f o' wr => ∃ (d : List Nat) (osl sv : Value), osl = o' ∧ f + d.length = N ∧ Hid (OrdI N A d) ∧ Hid (OrdS bo bq wb.heap.size R0 w1 w4 wr osl sv d (ready N A d) (cnt N (openN A d))))
          case atStart => exact ⟨[], _, sv, rfl, by simp, Lib.hid (OrdI.nil N A), ST⟩
          case round =>
            clear ST
            obtain ⟨d, osl, sv, rfl, hf, hd, hS⟩ := hrel
            obtain ⟨Q, hq, hp, hh⟩ := hS.out.q
            have hc := hq.cell
            have hql : Q.length ≤ 64 := by
              rw [hp.length_eq, zl_len]
              exact Nat.le_trans (List.length_filter_le _ _) (by simp; omega)
            obtain ⟨p, c, rfl⟩ := sl_any hq.own
            obtain ⟨oa, oc, rfl⟩ := sl_any hS.out.o
            have hsm := hd.out.small
            have HQ := Lib.hid hq; have HPP := Lib.hid hp; have HHH := Lib.hid hh
            obtain ⟨n, hn⟩ : ∃ n, n = Q.length := ⟨_, rfl⟩
            rw [← hn] at hc hql
            have HN := Lib.hid hn
            obtain ⟨m, hm⟩ : ∃ m, m = d.length := ⟨_, rfl⟩
            rw [← hm] at hf hsm ⊢
            have HMM := Lib.hid hm
            clear hq hp hh hn hm
            by_cases hn0 : 0 < n
            · have hpo := hpop_any bq (bq + 1) _ Q wr HQ.out (by omega) (by rw [← HN.out]; exact hn0) (by rw [← HN.out]; omega) HHH.out
              rw [← HN.out] at hpo
              have HPO := Lib.hid hpo
              have HNQ : Hid (0 < Q.length ∧ Q.length ≤ 900) := Lib.hid (by rw [← HN.out]; omega)
              have f0 : decide ((0 : Int) < (n : Int)) = true := decide_eq_true (by omega)
              have f1 : decide (0 < n) = true := decide_eq_true hn0
              clear hpo
              go_wp2_with (first
                | (go_at_call 29; refine (len_own p n c wr).mono ?_; rintro e w5 ⟨rfl, x5⟩))
              go_at_call 30
              refine (hpop_any bq (bq + 1) _ Q w5 (HQ.out.ext x5) (by omega) (HNQ.out.1) (HNQ.out.2) HHH.out).mono ?_
              rintro e w6 ⟨xz, sv6, Q6, rfl, q6, p6, le6, h6, k6, o6⟩
              obtain ⟨v, q, rfl, hQ6, hq6, hlf⟩ := pop_least p6 HPP.out le6
              have S6 := Lib.hid (OrdS.pop (hS.out.ext x5) LIE.out q6 hQ6 h6 k6 o6)
              have HQ6 := Lib.hid hq6
              have HLF := Lib.hid hlf
              have hvN := (leastF_spec hlf).1
              have hta : ∀ w : World, (Instr.typeAssert (.iface 3 (.int .i64 (v : Int))) 20 3 false).run Try.prog w = .ok (.int .i64 (v : Int)) w := fun _ => by kernel_rfl
              clear q6 p6 le6 h6 k6 o6 hQ6 hq6 hlf
              have O6 := S6.out.o
              rw [← HMM.out] at O6
              replace O6 := Lib.hid O6
              go_wp2_with (at_builtin; refine wpList_append_lies _ rfl _ _ 26 rfl R0 3 i0 _ 1 8 Try.underlying26 hi hz0 hz1 hz2 rfl (by decide) _ _ _ rfl (O6.out.alloc _) ⟨w6.heap.size, 0, none⟩ 1 1 [.int .i64 v] rfl rfl ?c1 ?c2 (by decide) ?c3 ?c4 ?c5 _ rfl ?_)
              case c1 => exact new_cells _ [_] _ _ rfl
              case c2 => simp [Value.oneCell']
              case c3 => unfold maxLen; omega
              case c4 => omega
              case c5 => have := (S6.out.size LIE.out).1; simp; omega
              intro gg cc w7 hown7 hgrow7 hat7 _
              rw [HMM.out] at hown7 hgrow7 hat7
              have S7 := OrdS.append (v := v) (g := gg) (cap := cc) (w2 := w7) (S6.out.ext ((Ext.refl w6).alloc (.cells #[.int .i64 (v : Int)] 3))) LIE.out hown7 hgrow7 (hat7.elim .inl (fun e => .inr (by rw [e]; simp)))
              rw [← HMM.out] at S7
              replace S7 := Lib.hid S7
              obtain ⟨ra, rc, e1', hrow, hrb⟩ := HNX.out v hvN
              have e1 := S7.out.k.cell e1' (by have := HNB.out; show ¬ nb < wb.heap.size; omega)
              have HRB : Hid (∀ g o, ra = some ⟨g, o, none⟩ → wb.heap.size ≤ g) := Lib.hid (fun g o e => by have := hrb g o e; have := HNB.out; omega)
              clear hrb e1'
              clear hown7 hgrow7 hat7
              obtain ⟨R, hR⟩ : ∃ R, R = outs A v := ⟨_, rfl⟩
              have hol := Nat.le_trans (outs_len_le A v) (Nat.le_of_eq HM.out.symm)
              rw [← hR] at e1 hrow hol
              obtain ⟨rn, hrn⟩ : ∃ rn, rn = R.length := ⟨_, rfl⟩
              rw [← hrn] at e1 hol
              have HR := Lib.hid hR; have HRN := Lib.hid hrn; have HROW := Lib.hid hrow
              clear hR hrn hrow hc f0
              have HD7 := Lib.hid (hd.out.snoc HLF.out).1
              have hgp : 1 ≤ gk := by have := (hd.out.snoc HLF.out).2; have := HMM.out; omega
              have HSUB : Hid (∀ x ∈ R, x < N) := Lib.hid (fun x hx => by rw [HR.out] at hx; exact (HOK.out _ (mem_outs.1 hx)).2)
              have hql2 : q.length ≤ 64 := by
                have h1 := HQ6.out.length_eq
                have h2 : (ready N A d).length ≤ N := nodup_len (ready_nodup N A d) (fun x hx => (mem_ready.1 hx).1)
                rw [List.length_cons] at h1; omega
              go_wp2
              obtain ⟨wi, hwi⟩ : ∃ wi : World, wi = w7 := ⟨_, rfl⟩
              go_loopw [75] (fun i' wr => ∃ (k : Nat) (s : List Nat × List Nat) (sv : Value), k ≤ rn ∧ i' = .int .i64 k ∧ Hid (OpenI N A d v (R.take k) s) ∧ Hid (OrdS bo bq wb.heap.size R0 w1 w4 wr (.slice (some ⟨gg, 0, none⟩) (m + 1) cc) sv (d ++ [v]) (q ++ s.2) s.1)) (fun i' _ => rn - (RowKit.intOf i').toNat)
              case atStart =>
                refine ⟨0, (cnt N (openN A d), []), sv6, Nat.zero_le _, rfl, Lib.hid ?_, Lib.hid ?_⟩
                · rw [List.take_zero]; exact OpenI.zero (cnt_len _ _) (fun u hu => cnt_at _ _ _ hu)
                · rw [List.append_nil]; exact S7.out
              case round =>
                obtain ⟨k, s, svk, hk3, rfl, hop, hSk⟩ := hrel
                by_cases hkr : k < rn
                · have hkR : k < R.length := by rw [← HRN.out]; exact hkr
                  obtain ⟨rg, ro, hra, d0⟩ := intIn_keep HROW.out hSk.out.k HRB.out k (by rw [zl_len]; exact hkR)
                  rw [zl_at _ _ hkR] at d0
                  have hyN : R[k] < N := HSUB.out _ (List.getElem_mem hkR)
                  have hcount : (R.take k ++ [R[k]]).count R[k] ≤ openN A d R[k] := by
                    rw [← List.take_succ_eq_append_getElem hkR]
                    have h1 := (List.take_sublist (k + 1) R).count_le R[k]
                    have h2 := openN_snoc d v R[k] (freeB_iff.1 (leastF_spec HLF.out).2).1 A
                    rw [show (outs A v).count R[k] = R.count R[k] by rw [← HR.out]] at h2; omega
                  have hopn := hop.out.step hyN hcount
                  rw [← List.take_succ_eq_append_getElem hkR] at hopn
                  have hcy := hop.out.cnt _ hyN
                  have hole := openN_le A d R[k]
                  rw [List.count_append, List.count_singleton_self] at hcount
                  have hc1 : s.1.getD R[k] 0 = (s.1.getD R[k] 0 - 1) + 1 := by omega
                  obtain ⟨c', hc'⟩ : ∃ c', c' = s.1.getD R[k] 0 - 1 := ⟨_, rfl⟩
                  rw [← hc'] at hc1
                  have hc256 : c' ≤ 256 := by have := HM.out; omega
                  have hsl := hop.out.len
                  have hst := stepO_eq (by rw [hsl]; exact hyN) hc1
                  have e3 := hSk.out.b.cellD (j := R[k]) (by rw [zl_len, hsl]; exact hyN)
                  rw [zl_getD, hc1] at e3
                  have e4 := hSk.out.b.frozen R[k]
                  have hS8 := hSk.out.setb (y := R[k]) (x := c') LIE.out
                  obtain ⟨y, hy⟩ : ∃ y, y = R[k] := ⟨_, rfl⟩
                  rw [← hy] at d0 hyN hopn hst e3 e4 hS8
                  have e5 : wr.cell? ⟨bo, y, none⟩ = some (.int .i64 ((c' : Int) + 1)) := by rw [e3]; push_cast; rfl
                  have HOP := Lib.hid hopn; have HST := Lib.hid hst; have HS8 := Lib.hid hS8
                  clear hopn hcy hole hcount hc1 hc' hst e3 hS8 hsl hy
                  subst hra
                  by_cases hz : c' = 0
                  · have f5 := (eq_facts (x := (c' : Int)) (k := 0) (by omega)).1
                    have hst2 := HST.out
                    rw [if_pos hz] at hst2
                    rw [hst2] at HOP
                    have HO2 := Lib.hid HOP.out
                    have hs2l : s.2.length ≤ 64 := Nat.le_trans (nodup_len hop.out.nodup (fun x hx => HSUB.out x (List.mem_of_mem_take ((hop.out.mem x).1 hx).1))) hN
                    obtain ⟨Q8, q8, p8, h8⟩ := HS8.out.q
                    have hl8 : Q8.length ≤ 900 := by rw [p8.length_eq, zl_len, List.length_append]; omega
                    have hz8 := (HS8.out.size LIE.out).1
                    have hpu := hpush_any bq (bq + 1) y svk Q8 _ q8 (by omega) (by have := LIE.out.qs; have := LIE.out.sr; omega) hl8 h8
                    have HPU := Lib.hid hpu; have P8 := Lib.hid p8
                    clear hst2 HOP hz q8 h8 hl8 hz8 hpu p8
                    go_wp2_with (go_at_call 28; refine HPU.out.mono ?_; rintro e w9 ⟨rfl, sv9, Q9, q9, p9, h9, k9, o9⟩; have S9 := Lib.hid (OrdS.push HS8.out LIE.out P8.out q9 p9 h9 k9 o9); clear q9 p9 h9 k9 o9)
                    go_roundw
                    case rel => exact ⟨k + 1, (s.1.set y c', s.2 ++ [y]), sv9, by omega, by go_num, HO2, Lib.hid (by rw [← List.append_assoc]; exact S9.out)⟩
                    case measure => simp [RowKit.intOf]; omega
                  · have f5 := (neq_facts (x := (c' : Int)) (k := 0) (by omega)).1
                    have hst2 := HST.out
                    rw [if_neg hz] at hst2
                    rw [hst2] at HOP
                    have HO2 := Lib.hid HOP.out
                    clear hst2 HOP hz
                    go_wp2
                    go_roundw
                    case rel => exact ⟨k + 1, (s.1.set y c', s.2), svk, by omega, by go_num, HO2, HS8⟩
                    case measure => simp [RowKit.intOf]; omega
                · have hkn : k = R.length := by have := HRN.out; omega
                  rw [hkn, List.take_length, HR.out] at hop
                  have hrd := hop.out.ready HOK.out hd.out HLF.out HQ6.out
                  have hcnt : s.1 = cnt N (openN A (d ++ [v])) := cnt_ext hop.out.len (fun u hu => by
                    have h1 := hop.out.cnt u hu
                    have h2 := openN_snoc d v u (freeB_iff.1 (leastF_spec HLF.out).2).1 A
                    omega)
                  have hS9 := hSk.out.perm hrd
                  rw [hcnt] at hS9
                  have HS9 := Lib.hid hS9
                  clear hkn hop hrd hcnt hS9
                  go_wp2
                  go_roundg (gk - 1)
                  case measure => omega
                  case rel => exact ⟨d ++ [v], _, svk, rfl, by rw [List.length_append, List.length_singleton, ← HMM.out]; omega, HD7, HS9⟩
            · obtain rfl : n = 0 := by omega
              have hre : ready N A d = [] := by
                have := HPP.out.length_eq
                rw [zl_len, ← HN.out] at this
                exact List.eq_nil_of_length_eq_zero this.symm
              have hdo := hd.out.stop (ready_nil hre)
              have hin : IntIn wr oa (zl d) := by
                obtain ⟨a2, c2, h1, h2, -⟩ := own_ints hS.out.o (by rw [zl_len])
                injection h1 with h1
                rw [h1]; exact h2
              have b10 := hS.out.x.cell B0.out
              have HIN := Lib.hid hin
              have HXX := Lib.hid hS.out.x
              clear hre hin
              by_cases hmN : m < N
              · have HOT : Hid ((ordT N A).length < N) := Lib.hid (by rw [← hdo, ← HMM.out]; exact hmN)
                clear hdo
                go_wp2_with (go_at_call 29; refine (len_own p 0 c wr).mono ?_; rintro e w5 ⟨rfl, x5⟩; have b20 := x5.cell b10)
                go_ret2
                refine ⟨⟨none, 0, ?_, ?_⟩, X1.out.trans (HXX.out.trans x5)⟩
                · unfold ordL ordB; rw [if_pos HOT.out, decide_eq_true HOT.out]; rfl
                · unfold ordL; rw [if_pos HOT.out]; exact IntIn.nil _ _
              · have HOT : Hid (d = ordT N A ∧ ¬ (ordT N A).length < N) := Lib.hid ⟨hdo, by rw [← hdo, ← HMM.out]; exact hmN⟩
                clear hdo
                go_wp2_with (go_at_call 29; refine (len_own p 0 c wr).mono ?_; rintro e w5 ⟨rfl, x5⟩; have b20 := x5.cell b10)
                go_ret2
                refine ⟨⟨oa, oc, ?_, ?_⟩, X1.out.trans (HXX.out.trans x5)⟩
                · unfold ordL ordB; rw [if_neg HOT.out.2, decide_eq_false HOT.out.2, ← HOT.out.1, ← HMM.out]; rfl
                · unfold ordL; rw [if_neg HOT.out.2, ← HOT.out.1]; exact HIN.out.ext x5
end Go.Proofs.Ytjjcjoedgmfalaa.Tp
