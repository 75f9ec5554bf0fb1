/- Packed texts: TopStrongR, TopLawC, TopLawD, TopCyc -/
import Derived.Test.YtjjcjoedgmfalaaPt09
import Derived.Test.YtjjcjoedgmfalaaPt10
import Derived.Test.YtjjcjoedgmfalaaPt01
import Derived.Test.YtjjcjoedgmfalaaPt05
set_option linter.unusedVariables false
set_option linter.unusedSimpArgs false
/- The document's Strong. -/
namespace Go.Proofs.Ytjjcjoedgmfalaa.Tp
open Go.RowKit Go.Sort Go.Lib Fx

/-- A row is appended: its numbers lie in a block of their own. -/
theorem FoundAt.push {w w2 : World} {B g n c : Nat} {fv : Value} {F : List (List Nat)} {k : List Nat} {pa : Option Addr} {pc : Nat} {fs : List Value}
    (hp : IntIn w pa (zl k)) (hpa : ∀ g o, pa = some ⟨g, o, none⟩ → B ≤ g ∧ g < w.heap.size ∧ fv.ownBlock ≠ some g)
    (f1 : w.ownsRow B 26 1 fv F.length fs) (f2 : ∀ j (h : j < F.length), ∃ a c, fs[j]? = some (.slice a F[j].length c) ∧ IntIn w a (zl F[j]) ∧ ∀ g o, a = some ⟨g, o, none⟩ → B ≤ g ∧ g < w.heap.size ∧ (Value.slice none 0 0).ownBlock ≠ some g ∧ fv.ownBlock ≠ some g)
    (f1' : w2.ownsRow B 26 1 (.slice (some ⟨g, 0, none⟩) n c) n (fs ++ [.slice pa k.length pc])) (hn : n = F.length + 1) (hg : w.grownBy w2 fv.ownBlock) (hat : fv.ownBlock = some g ∨ w.heap.size ≤ g) :
    FoundAt w2 B (.slice none 0 0) (.slice (some ⟨g, 0, none⟩) n c) (F ++ [k]) := by
  have hk : Keep (fun b => fv.ownBlock = some b) w w2 := (Keep.refl _ w).grown hg (fun k hk _ => hk)
  have hlen : fs.length = F.length := by have := f1.1; omega
  have old : ∀ (a : Option Addr) (l : List Nat), IntIn w a (zl l) → (∀ g o, a = some ⟨g, o, none⟩ → B ≤ g ∧ g < w.heap.size ∧ fv.ownBlock ≠ some g) →
      IntIn w2 a (zl l) ∧ ∀ q o, a = some ⟨q, o, none⟩ → B ≤ q ∧ q < w2.heap.size ∧ (Value.slice none 0 0).ownBlock ≠ some q ∧ (Value.slice (some ⟨g, 0, none⟩) n c).ownBlock ≠ some q := by
    intro a l h4 h5
    refine ⟨fun i hi => ?_, fun q o ha => ?_⟩
    · obtain ⟨q, o, ha, hc⟩ := h4 i hi
      obtain ⟨h6, h9, h8⟩ := h5 q o ha
      exact ⟨q, o, ha, hk.cell hc h8⟩
    · obtain ⟨h6, h9, h8⟩ := h5 q o ha
      refine ⟨h6, Nat.lt_of_lt_of_le h9 hg.size, (fun e => by cases e), fun e => ?_⟩
      have e : g = q := by simpa [Value.ownBlock] using e
      subst e
      rcases hat with h1 | h1
      · exact h8 h1
      · omega
  refine ⟨fs ++ [.slice pa k.length pc], ?_, fun j hj => ?_⟩
  · have : (F ++ [k]).length = n := by rw [List.length_append, hn]; rfl
    rw [this]; exact f1'
  · by_cases hlt : j < F.length
    · obtain ⟨a, d, h3, h4, h5⟩ := f2 j hlt
      have e : (F ++ [k])[j] = F[j] := List.getElem_append_left hlt
      refine ⟨a, d, ?_, ?_⟩
      · rw [e, List.getElem?_append_left (by omega)]; exact h3
      · rw [e]; exact old a _ h4 (fun q o ha => by obtain ⟨r1, r2, -, r3⟩ := h5 q o ha; exact ⟨r1, r2, r3⟩)
    · rw [List.length_append, List.length_singleton] at hj
      have hjn : j = F.length := by omega
      subst hjn
      have e : (F ++ [k])[F.length] = k := by rw [List.getElem_append_right (Nat.le_refl _)]; simp
      refine ⟨pa, pc, ?_, ?_⟩
      · rw [e, ← hlen]; simp
      · rw [e]; exact old pa _ hp hpa
/-- The rows of it, to be read. -/
theorem FoundAt.rows {w : World} {B : Nat} {sv fv : Value} {F : List (List Nat)} (h : FoundAt w B sv fv F) : ∃ fa fc, fv = .slice fa F.length fc ∧ RowsIn w fa (F.map zl) := by
  obtain ⟨fs, h1, h2⟩ := h
  rcases h1.2 with ⟨rfl, h3⟩ | ⟨g, cap, cur, rfl, _⟩
  · exact ⟨none, 0, by rw [h3], fun j hj => absurd hj (by rw [List.length_map, h3]; exact Nat.not_lt_zero j)⟩
  · refine ⟨_, _, rfl, fun j hj => ?_⟩
    have hj' : j < F.length := by simpa using hj
    obtain ⟨a, c, e1, e2, _⟩ := h2 j hj'
    have hc := h1.cells (g := g) rfl j _ e1
    rw [add_at] at hc
    refine ⟨g, 0, a, c, rfl, ?_, ?_⟩
    · rw [List.getElem_map, zl_len, Nat.zero_add]; exact hc
    · rw [List.getElem_map]; exact e2
theorem FoundAt.nil (w : World) (B : Nat) : FoundAt w B (.slice none 0 0) (.slice none 0 0) [] := ⟨[], ⟨by simp, .inl ⟨rfl, rfl⟩⟩, fun j hj => absurd hj (by simp)⟩
def strK (N : Nat) (A : Arcs) (k : Nat) : List (List Nat) := (List.range k).filterMap (fun v => if (compT N A v).getD 0 0 = v then some (compT N A v) else none)
theorem strK_succ (N : Nat) (A : Arcs) (k : Nat) : strK N A (k + 1) = strK N A k ++ (if (compT N A k).getD 0 0 = k then [compT N A k] else []) := by
  unfold strK
  rw [List.range_succ, List.filterMap_append]
  refine congrArg _ ?_
  by_cases h : (compT N A k).getD 0 0 = k
  · simp only [List.filterMap_cons, List.filterMap_nil, if_pos h]
  · simp only [List.filterMap_cons, List.filterMap_nil, if_neg h]
theorem strK_len (N : Nat) (A : Arcs) (k : Nat) : (strK N A k).length ≤ k := by
  unfold strK; exact Nat.le_trans (List.length_filterMap_le _ _) (by simp)
theorem comp_self {N : Nat} {A : Arcs} (ok : Ok N A) {v : Nat} (hv : v < N) : 0 < (compT N A v).length :=
  List.length_pos_of_mem ((mem_compT ok hv).2 ⟨hv, .refl _, .refl _⟩)
theorem compT_len {N : Nat} {A : Arcs} {v : Nat} : (compT N A v).length ≤ N := by
  unfold compT; exact Nat.le_trans (List.length_filter_le _ _) (by simp)
theorem reachT_le {N : Nat} {A : Arcs} {v : Nat} : (reachT N A v).length ≤ N := by
  unfold reachT; exact Nat.le_trans (List.length_filter_le _ _) (by simp)
theorem nat_neq' {u v : Nat} (h : u ≠ v) : ((u : Int) == (v : Int)) = false := (neq_facts (x := (u : Int)) (k := (v : Int)) (by omega)).1
theorem rows_map (N : Nat) (A : Arcs) (k : Nat) : (List.range (k + 1)).map (reachT N A) = (List.range k).map (reachT N A) ++ [reachT N A k] := by
  rw [List.range_succ, List.map_append]; rfl
set_option maxHeartbeats 8000000 in
set_option maxRecDepth 100000 in
theorem strongR_any (N : Nat) (a : Option Addr) (A : Arcs) (cap : Nat) (w : World) (hN : N ≤ 64) (h : ArcIn w a (zarc A)) (hA : A.length ≤ 256) (ok : Ok N A) :
    Calls Try.prog 15 #[.agg #[.int .i64 N, .slice a A.length cap]] w fun e w' => (∃ fa fc, e = .returned (.slice fa (strongT N A).length fc) ∧ RowsIn w' fa ((strongT N A).map zl)) ∧ Ext w w' := by
  have hval := fun w1 (x : Ext w w1) => validR_any N a (zarc A) cap w1 (by omega) (by omega) (h.ext x) (zarc_ok hN ok) (by rw [zarc_len]; omega)
  rw [valid_ok hN hA ok, zarc_len] at hval
  have hrc := fun v (hv : v < N) w1 (x : Ext w w1) => reachN_any N a A cap v w1 hN (h.ext x) hA ok hv
  obtain ⟨M, hM⟩ : ∃ M, M = A.length := ⟨_, rfl⟩
  rw [← hM] at hval hrc ⊢
  obtain ⟨i0, hi0, hz0, hz1, hz2⟩ := info_parts info_int
  obtain ⟨j0, hj, hjz0, hjz1, hjz2⟩ := info_parts info_row
  have HV := Lib.hid hval; have HRC := Lib.hid hrc; have HOK := Lib.hid ok
  clear h hM hval hrc ok hA
  go_enter Try.func15, Try.ntmps15
  go_wp2_with (go_at_call 16; refine (HV.out _ ((Ext.refl _).alloc _)).mono ?_; rintro e w1 ⟨rfl, x1⟩; have X1 := ((Ext.refl w).alloc _).trans x1; have b1 := box_at x1; have b10 := b1.1; have b11 := b1.2; clear b1)
  have HX1 := Lib.hid X1; have B0 := Lib.hid b10; have B1 := Lib.hid b11
  clear x1 X1 b10 b11 HV
  go_loopw [3, 4] (fun r' i' wr => ∃ (k : Nat) (sl : Value), k ≤ N ∧ sl = r' ∧ i' = .int .i64 k ∧ Hid (FoundAt wr w1.heap.size (.slice none 0 0) sl ((List.range k).map (reachT N A))) ∧ Hid (Ext w1 wr)) (fun _ i' _ => N - (RowKit.intOf i').toNat)
  case atStart => exact ⟨0, _, Nat.zero_le _, rfl, rfl, Lib.hid (FoundAt.nil _ _), Lib.hid (Ext.refl _)⟩
  case round =>
    obtain ⟨k, sl, hk, rfl, rfl, hf, hx⟩ := hrel
    have b10 := hx.out.cell B0.out; have b11 := hx.out.cell B1.out
    by_cases hkN : k < N
    · have hcall := Lib.hid (HRC.out k hkN wr (HX1.out.trans hx.out))
      have hRl := reachT_le (N := N) (A := A) (v := k)
      have hrm := rows_map N A k
      obtain ⟨R, hR⟩ : ∃ R, R = reachT N A k := ⟨_, rfl⟩
      rw [← hR] at hcall hRl hrm
      obtain ⟨F, hF⟩ : ∃ F, F = (List.range k).map (reachT N A) := ⟨_, rfl⟩
      rw [← hF] at hf hrm
      have hFl : F.length = k := by rw [hF]; simp
      have HRM := Lib.hid hrm; have HFL := Lib.hid hFl
      clear hrm hR hF
      obtain ⟨rn, hrn⟩ : ∃ rn, rn = R.length := ⟨_, rfl⟩
      have HRN := Lib.hid hrn
      rw [← hrn] at hcall hRl
      clear hrn
      go_wp2_with (first
        | (go_at_call 11; refine hcall.out.mono ?_; rintro e w2 ⟨⟨pa, pc, rfl, hpi, hpa⟩, x2⟩; have H2 := Lib.hid (hf.out.ext x2); obtain ⟨fs, g1, g2⟩ := H2.out; have G1 := Lib.hid g1; have G2 := Lib.hid g2; have HPI := Lib.hid hpi; have HPA := Lib.hid hpa; have hX2 := Lib.hid (hx.out.trans x2); have hfw := Lib.hid hf.out; clear g1 g2 hpi hpa)
        | (at_builtin; refine wpList_append_lies _ rfl _ _ 31 rfl w1.heap.size 26 j0 _ 1 24 Try.underlying31 hj hjz0 hjz1 hjz2 rfl (by decide) _ _ _ rfl (G1.out.alloc _) ⟨w2.heap.size, 0, none⟩ 1 1 [.slice pa rn pc] rfl rfl ?c1 ?c2 (by decide) ?c3 ?c4 ?c5 _ rfl ?_))
      case c1 => exact new_cells _ [_] _ _ rfl
      case c2 => simp [Value.oneCell']
      case c3 => unfold maxLen; have := HFL.out; omega
      case c4 => have := HFL.out; omega
      case c5 => have := hX2.out.size; simp; omega
      intro gg cc w3 hown3 hgrow3 hat3 _
      have P := FoundAt.push (w := w2.alloc (.cells #[.slice pa rn pc] 26)) (w2 := w3) (B := w1.heap.size) (k := R) (pa := pa) (pc := pc) (g := gg) (n := k + 1) (c := cc) (HPI.out.ext ((Ext.refl _).alloc _)) (fun q o e => by
          obtain ⟨r1, r2⟩ := HPA.out q o e
          refine ⟨Nat.le_trans hx.out.size r1, by simp; omega, fun e2 => ?_⟩
          obtain ⟨fs0, u1, -⟩ := hfw.out
          have := (u1.lt q e2).2
          omega) (own_ext' G1.out ((Ext.refl w2).alloc _)) (fun i hi => by
          obtain ⟨a, c, h3, h4, h5⟩ := G2.out i hi
          exact ⟨a, c, h3, h4.ext ((Ext.refl w2).alloc _), fun q o e => by
            obtain ⟨h6, h7, h8⟩ := h5 q o e
            exact ⟨h6, by simp; omega, h8⟩⟩) (by rw [← HRN.out]; exact hown3) (by rw [HFL.out]) hgrow3 (hat3.elim .inl (fun e => .inr (by rw [e]; simp)))
      rw [← HRM.out] at P
      have hP := Lib.hid P
      have hx3 : Hid (Ext w1 w3) := Lib.hid (Below.grown (hX2.out.alloc _) hgrow3 (by have := hX2.out.size; simp; omega) (fun q hq => by have := (G1.out.lt q hq).1; omega))
      clear P hown3 hgrow3 hat3 hcall
      go_wp2
      go_roundw
      case rel => exact ⟨k + 1, _, by omega, rfl, by go_num, hP, hx3⟩
      case measure => simp [RowKit.intOf]; omega
    · have hkn : k = N := by omega
      subst hkn
      obtain ⟨fa, fc, rfl, hrows⟩ := hf.out.rows
      rw [List.length_map, List.length_range] at *
      have HROWS := Lib.hid hrows
      have HX2 := Lib.hid (HX1.out.trans hx.out)
      have B02 := Lib.hid b10; have B12 := Lib.hid b11
      obtain ⟨w2, hw2⟩ : ∃ w2, w2 = wr := ⟨_, rfl⟩
      subst hw2
      clear hrows hf hx HX1 B0 B1 hk
      go_wp2
      clear b10 b11
      go_loopw [5, 6] (fun o' i' wr => ∃ (v : Nat) (sl : Value), v ≤ k ∧ sl = o' ∧ i' = .int .i64 v ∧ Hid (FoundAt wr w2.heap.size (.slice none 0 0) sl (strK k A v)) ∧ Hid (Ext w2 wr)) (fun _ i' _ => k - (RowKit.intOf i').toNat)
      case atStart => exact ⟨0, _, Nat.zero_le _, rfl, rfl, Lib.hid (FoundAt.nil _ _), Lib.hid (Ext.refl _)⟩
      case round =>
        obtain ⟨v, sl, hv, rfl, rfl, hf, hx⟩ := hrel
        have b10 := hx.out.cell B02.out; have b11 := hx.out.cell B12.out
        by_cases hvN : v < k
        · obtain ⟨wo, hwo⟩ : ∃ wo : World, wo = wr := ⟨_, rfl⟩
          subst hwo
          go_wp2
          go_loopw [7, 8] (fun c' i' wr => ∃ (u : Nat) (cl : Value), u ≤ k ∧ cl = c' ∧ i' = .int .i64 u ∧ Hid (wr.ownsRow wo.heap.size 3 1 cl ((List.range u).filter (mutu k A v)).length (iv (zl ((List.range u).filter (mutu k A v))))) ∧ Hid (Ext wo wr)) (fun _ i' _ => k - (RowKit.intOf i').toNat)
          case atStart => exact ⟨0, _, Nat.zero_le _, rfl, rfl, Lib.hid (World.ownsRow_nil _ _ _ _), Lib.hid (Ext.refl _)⟩
          case round =>
            clear b10 b11
            obtain ⟨u, cl, hu, rfl, rfl, hown, hy⟩ := hrel
            have b10 := (hx.out.trans hy.out).cell B02.out; have b11 := (hx.out.trans hy.out).cell B12.out
            by_cases huN : u < k
            · obtain ⟨g, o, ra, rc, rfl, c0, i0'⟩ := (HROWS.out.ext (hx.out.trans hy.out)) v (by simpa using hvN)
              obtain ⟨g2, o2, rb, rcb, ha2, d0, j0'⟩ := (HROWS.out.ext (hx.out.trans hy.out)) u (by simpa using huN)
              cases ha2
              have eP : ((List.map (reachT k A) (List.range k)).map zl)[v]'(by simpa using hvN) = zl (reachT k A v) := by simp
              have eQ : ((List.map (reachT k A) (List.range k)).map zl)[u]'(by simpa using huN) = zl (reachT k A u) := by simp
              rw [eP] at c0 i0'
              rw [eQ] at d0 j0'
              rw [zl_len] at c0 d0
              have lP := reachT_le (N := k) (A := A) (v := v)
              have lQ := reachT_le (N := k) (A := A) (v := u)
              have hst := range_filter (mutu k A v) u
              have hlen : ((List.range u).filter (mutu k A v)).length ≤ u := Nat.le_trans (List.length_filter_le _ _) (by simp)
              have hmu : mutu k A v u = ((reachT k A v).contains u && (reachT k A u).contains v) := rfl
              rw [hmu] at hst
              have HPc := fun w1 (x : Ext wr w1) => hasN_any ra (reachT k A v) rc u w1 (i0'.ext x) (by omega)
              have HQc := fun w1 (x : Ext wr w1) => hasN_any rb (reachT k A u) rcb v w1 (j0'.ext x) (by omega)
              obtain ⟨R, hR⟩ : ∃ R, R = (List.range u).filter (mutu k A v) := ⟨_, rfl⟩
              rw [← hR] at hst hown hlen
              obtain ⟨pn, hpn⟩ : ∃ pn, pn = (reachT k A v).length := ⟨_, rfl⟩
              obtain ⟨qn, hqn⟩ : ∃ qn, qn = (reachT k A u).length := ⟨_, rfl⟩
              rw [← hpn] at c0 HPc
              rw [← hqn] at d0 HQc
              obtain ⟨m1, hm1⟩ : ∃ m1, m1 = (reachT k A v).contains u := ⟨_, rfl⟩
              obtain ⟨m2, hm2⟩ : ∃ m2, m2 = (reachT k A u).contains v := ⟨_, rfl⟩
              rw [← hm1] at HPc hst
              rw [← hm2] at HQc hst
              have HPC := Lib.hid HPc; have HQC := Lib.hid HQc
              have a0 : (0 : Int) ≤ (u : Int) := by omega
              have a1 : (u : Int) < (k : Int) := by omega
              have a2 : (0 : Int) ≤ (v : Int) := by omega
              have a3 : (v : Int) < (k : Int) := by omega
              clear HPc HQc hm1 hm2 hpn hqn hR hmu eP eQ i0' j0' lP lQ
              cases m1
              · rw [Bool.false_and, if_neg Bool.false_ne_true, List.append_nil] at hst
                have HST := Lib.hid hst
                clear hst
                go_wp2_with (go_at_call 18; refine (HPC.out _ (by first | exact Ext.refl _ | exact (Ext.refl _).drew)).mono ?_; rintro e w3 ⟨rfl, x3⟩)
                go_roundw
                case rel => exact ⟨u + 1, _, by omega, rfl, by go_num, by rw [HST.out]; exact Lib.hid (own_ext' hown.out x3), Lib.hid (hy.out.trans x3)⟩
                case measure => simp [RowKit.intOf]; omega
              · cases m2
                · rw [Bool.and_false, if_neg Bool.false_ne_true, List.append_nil] at hst
                  have HST := Lib.hid hst
                  clear hst
                  go_wp2_with (first
                    | (have y3' := y3; go_at_call 18; refine (HQC.out _ y3).mono ?_; rintro e w4 ⟨rfl, x4⟩; have y4 := y3.trans x4)
                    | (go_at_call 18; refine (HPC.out _ (by first | exact Ext.refl _ | exact (Ext.refl _).drew)).mono ?_; rintro e w3 ⟨rfl, x3⟩; have y3 : Ext wr w3 := x3; have d03 := y3.cell d0))
                  go_roundw
                  case rel => exact ⟨u + 1, _, by omega, rfl, by go_num, by rw [HST.out]; exact Lib.hid (own_ext' hown.out y4), Lib.hid (hy.out.trans y4)⟩
                  case measure => simp [RowKit.intOf]; omega
                · rw [Bool.and_true, if_pos rfl] at hst
                  have HST := Lib.hid hst
                  clear hst
                  go_wp2_with (first
                    | (have y3' := y3; go_at_call 18; refine (HQC.out _ y3).mono ?_; rintro e w4 ⟨rfl, x4⟩; have y4 := y3.trans x4; have O4 := Lib.hid (own_ext' hown.out y4))
                    | (go_at_call 18; refine (HPC.out _ (by first | exact Ext.refl _ | exact (Ext.refl _).drew)).mono ?_; rintro e w3 ⟨rfl, x3⟩; have y3 : Ext wr w3 := x3; have d03 := y3.cell d0)
                    | (at_builtin; refine wpList_append_lies _ rfl _ _ 26 rfl wo.heap.size 3 i0 _ 1 8 Try.underlying26 hi0 hz0 hz1 hz2 rfl (by decide) _ _ _ rfl (O4.out.alloc _) ⟨w4.heap.size, 0, none⟩ 1 1 [.int .i64 u] rfl rfl ?e1 ?e2 (by decide) ?e3 ?e4 ?e5 _ rfl ?_))
                  case e1 => exact new_cells _ [_] _ _ rfl
                  case e2 => simp [Value.oneCell']
                  case e3 => unfold maxLen; omega
                  case e4 => omega
                  case e5 => have := (hy.out.trans y4).size; simp; omega
                  intro gg cc w5 hown5 hgrow5 _ _
                  have hx5 : Hid (Ext wo w5) := Lib.hid (Below.grown ((hy.out.trans y4).alloc _) hgrow5 (by have := (hy.out.trans y4).size; simp; omega) (fun q hq => by have := (O4.out.lt q hq).1; omega))
                  have hown6 : Hid (w5.ownsRow wo.heap.size 3 1 (.slice (some ⟨gg, 0, none⟩) (R.length + 1) cc) (R ++ [u]).length (iv (zl (R ++ [u])))) := Lib.hid (by rw [zl_app, iv_app, List.length_append]; exact hown5)
                  clear hown5 hgrow5
                  go_wp2
                  go_roundw
                  case rel => exact ⟨u + 1, _, by omega, rfl, by go_num, by rw [HST.out]; exact hown6, hx5⟩
                  case measure => simp [RowKit.intOf]; omega
            · have hun : u = k := by omega
              subst hun
              have hC : (List.range u).filter (mutu u A v) = compT u A v := rfl
              rw [hC] at hown
              have hpos := comp_self HOK.out hvN
              have hcl := compT_len (N := u) (A := A) (v := v)
              have hss := strK_succ u A v
              have hsl := strK_len u A v
              obtain ⟨C, hCe⟩ : ∃ C, C = compT u A v := ⟨_, rfl⟩
              rw [← hCe] at hown hpos hcl hss
              obtain ⟨S, hSe⟩ : ∃ S, S = strK u A v := ⟨_, rfl⟩
              rw [← hSe] at hf hss hsl
              obtain ⟨pa, pc, hpe, hpi, hpg⟩ := own_ints hown.out (by rw [zl_len])
              rw [zl_len] at hpe
              have hpa : ∀ q o, pa = some ⟨q, o, none⟩ → wo.heap.size ≤ q ∧ q < wr.heap.size := fun q o e => hown.out.lt q (by rw [hpe, e]; rfl)
              subst hpe
              obtain ⟨q, o, rfl, e0⟩ := hpi 0 (by rw [zl_len]; exact hpos)
              rw [zl_at _ _ hpos] at e0
              have hgd : C.getD 0 0 = C[0] := by rw [List.getD_eq_getElem?_getD, List.getElem?_eq_getElem hpos]; rfl
              rw [hgd] at hss
              obtain ⟨t, ht⟩ : ∃ t, t = C[0] := ⟨_, rfl⟩
              rw [← ht] at e0 hss
              have e0' : wr.cell? ⟨q, o, none⟩ = some (.int .i64 t) := e0
              obtain ⟨cn, hcn⟩ : ∃ cn, cn = C.length := ⟨_, rfl⟩
              have HCN := Lib.hid hcn; have HPI := Lib.hid hpi; have HPA := Lib.hid hpa; have HSL := Lib.hid hsl
              rw [← hcn] at hown hpos hcl ⊢
              have z0 : (0 : Int) < (cn : Int) := by omega
              clear hC hCe hSe hgd ht hcn hpi hpa hpg hsl
              by_cases htv : t = v
              · subst htv
                rw [if_pos rfl] at hss
                have f0 := (eq_facts (x := (t : Int)) (k := (t : Int)) rfl).1
                have HSS := Lib.hid hss
                obtain ⟨fs, g1, g2⟩ := hf.out.ext hy.out
                have G1 := Lib.hid g1; have G2 := Lib.hid g2
                have HFW := hf
                clear hss g1 g2
                go_wp2_with (at_builtin; refine wpList_append_lies _ rfl _ _ 31 rfl w2.heap.size 26 j0 _ 1 24 Try.underlying31 hj hjz0 hjz1 hjz2 rfl (by decide) _ _ _ rfl (G1.out.alloc _) ⟨wr.heap.size, 0, none⟩ 1 1 [.slice (some ⟨q, o, none⟩) cn pc] rfl rfl ?k1 ?k2 (by decide) ?k3 ?k4 ?k5 _ rfl ?_)
                case k1 => exact new_cells _ [_] _ _ rfl
                case k2 => simp [Value.oneCell']
                case k3 => unfold maxLen; have := HSL.out; omega
                case k4 => have := HSL.out; omega
                case k5 => have := (hx.out.trans hy.out).size; simp; omega
                intro gg cc w7 hown7 hgrow7 hat7 _
                have P := FoundAt.push (w := wr.alloc (.cells #[.slice (some ⟨q, o, none⟩) cn pc] 26)) (w2 := w7) (B := w2.heap.size) (k := C) (pa := some ⟨q, o, none⟩) (pc := pc) (g := gg) (n := S.length + 1) (c := cc) (HPI.out.ext ((Ext.refl _).alloc _)) (fun q1 o1 e => by
                    obtain ⟨r1, r2⟩ := HPA.out q1 o1 e
                    refine ⟨Nat.le_trans hx.out.size r1, by simp; omega, fun e2 => ?_⟩
                    obtain ⟨fs0, u1, -⟩ := HFW.out
                    have := (u1.lt q1 e2).2
                    omega) (own_ext' G1.out ((Ext.refl wr).alloc _)) (fun i hi => by
                    obtain ⟨a, c, h3, h4, h5⟩ := G2.out i hi
                    exact ⟨a, c, h3, h4.ext ((Ext.refl wr).alloc _), fun q o e => by
                      obtain ⟨h6, h7, h8⟩ := h5 q o e
                      exact ⟨h6, by simp; omega, h8⟩⟩) (by rw [← HCN.out]; exact hown7) rfl hgrow7 (hat7.elim .inl (fun e => .inr (by rw [e]; simp)))
                rw [← HSS.out] at P
                have hP := Lib.hid P
                have hx7 : Hid (Ext w2 w7) := Lib.hid (Below.grown ((hx.out.trans hy.out).alloc _) hgrow7 (by have := (hx.out.trans hy.out).size; simp; omega) (fun q hq => by have := (G1.out.lt q hq).1; omega))
                clear P hown7 hgrow7 hat7
                go_wp2
                go_roundw
                case rel => exact ⟨t + 1, _, by omega, rfl, by go_num, hP, hx7⟩
                case measure => simp [RowKit.intOf]; omega
              · rw [if_neg htv, List.append_nil] at hss
                have f0 := nat_neq' htv
                have HSS := Lib.hid hss
                have hf2 := Lib.hid (hf.out.ext hy.out)
                have hx7 := Lib.hid (hx.out.trans hy.out)
                clear hss htv
                go_wp2
                go_roundw
                case rel => exact ⟨v + 1, _, by omega, rfl, by go_num, by rw [HSS.out]; exact hf2, hx7⟩
                case measure => simp [RowKit.intOf]; omega
        · have hvk : v = k := by omega
          subst hvk
          have hS : strK v A v = strongT v A := rfl
          rw [hS] at hf
          obtain ⟨ra, rc, rfl, hrr⟩ := hf.out.rows
          have HRR := Lib.hid hrr
          clear hrr hS hf
          go_wp2
          go_ret
          exact ⟨⟨ra, rc, rfl, HRR.out⟩, HX2.out.trans hx.out⟩
end Go.Proofs.Ytjjcjoedgmfalaa.Tp

/- The law of Strong, walked. -/
namespace Go.Proofs.Ytjjcjoedgmfalaa.Tp
open Go.RowKit Go.Sort Go.Lib Fx

theorem strong_len {N : Nat} {A : Arcs} : (strongT N A).length ≤ N := strK_len N A N
theorem strong_row {N : Nat} {A : Arcs} : ∀ r ∈ strongT N A, r.length ≤ N := fun r hr => by
  unfold strongT at hr
  obtain ⟨v, _, hv⟩ := List.mem_filterMap.1 hr
  split at hv
  · cases hv; exact compT_len
  · cases hv
/-- What both functions hand back. -/
theorem strong_all {n : Int} {a : Option Addr} {L : ArcZ} {cap : Nat} {w : World} (hn0 : -9223372036854775808 ≤ n) (hn1 : n ≤ 9223372036854775807) (h : ArcIn w a L) (hk : ArcOk L) (hL : L.length ≤ 9223372036854775807) :
    ∃ R : List (List Int), R.length ≤ 64 ∧ (∀ r ∈ R, r.length ≤ 64) ∧ (∀ w1, Ext w w1 → Calls Try.prog 14 #[.agg #[.int .i64 n, .slice a L.length cap]] w1 fun e w' => ∃ b c, e = .returned (.slice b R.length c) ∧ RowsIn w' b R ∧ Ext w1 w') ∧
      (∀ w1, Ext w w1 → Calls Try.prog 15 #[.agg #[.int .i64 n, .slice a L.length cap]] w1 fun e w' => ∃ b c, e = .returned (.slice b R.length c) ∧ RowsIn w' b R ∧ Ext w1 w') := by
  by_cases hv : validL n L = true
  · obtain ⟨N, A, rfl, hN, hz, hA, ok⟩ := valid_nat hv
    have hz : L = zarc A := hz
    subst hz
    have l1 := strong_len (N := N) (A := A)
    refine ⟨(strongT N A).map zl, by rw [List.length_map]; omega, fun r hr => ?_, fun w1 x => ?_, fun w1 x => ?_⟩
    · obtain ⟨c, hc, rfl⟩ := List.mem_map.1 hr
      have := strong_row c hc
      rw [zl_len]; omega
    · rw [zarc_len, List.length_map]
      refine (strong_any N a A cap w1 hN (h.ext x) hA ok).mono ?_
      rintro e w' ⟨⟨b, c, rfl, hi⟩, y⟩
      exact ⟨b, c, rfl, hi, y⟩
    · rw [zarc_len, List.length_map]
      refine (strongR_any N a A cap w1 hN (h.ext x) hA ok).mono ?_
      rintro e w' ⟨⟨b, c, rfl, hi⟩, y⟩
      exact ⟨b, c, rfl, hi, y⟩
  · have hv : validL n L = false := by simpa using hv
    refine ⟨[], Nat.zero_le _, (fun r hr => by cases hr), fun w1 x => (strong_bad hn0 hn1 (h.ext x) hk hL hv).mono ?_, fun w1 x => (strongR_bad hn0 hn1 (h.ext x) hk hL hv).mono ?_⟩ <;>
      (rintro e w' ⟨rfl, y⟩; exact ⟨none, 0, rfl, (fun j hj => absurd hj (by simp)), y⟩)
theorem all_eq {a b : Option Addr} {ca cb K : Nat} {R : List (List Int)} (hK : K = R.length) (hl : R.length ≤ 64) (hr : ∀ r ∈ R, r.length ≤ 64) {w : World} (ha : RowsIn w a R) (hb : RowsIn w b R) :
    Calls Try.prog 13 #[.slice a K ca, .slice b K cb] w fun e w' => e = .returned (.bool true) ∧ Ext w w' := by
  subst hK
  refine (sameAll_any a b R R ca cb w ha hb (by omega) (by omega) (fun r h => by have := hr r h; omega) (fun r h => by have := hr r h; omega)).mono ?_
  rintro e w' ⟨rfl, x⟩
  exact ⟨by rw [decide_eq_true rfl], x⟩
set_option maxHeartbeats 4000000 in
theorem strong_walk (g : Value) (w : World) (hg : DigArg w g) :
    Calls Try.prog 4 #[g] w fun e w' => e = .returned (.bool true) ∧ Ext w w' := by
  obtain ⟨n, a, L, cap, rfl, hn0, hn1, h, hk, hL⟩ := hg
  obtain ⟨R, hR, hRR, h1, h2⟩ := strong_all (cap := cap) hn0 hn1 h hk hL
  obtain ⟨M, hM⟩ : ∃ M, M = L.length := ⟨_, rfl⟩
  obtain ⟨K, hK⟩ : ∃ K, K = R.length := ⟨_, rfl⟩
  rw [← hM, ← hK] at h1 h2
  rw [← hM]
  have H1 := Lib.hid h1; have H2 := Lib.hid h2; have HR := Lib.hid hR; have HK := Lib.hid hK; have HRR := Lib.hid hRR
  have b0 := box_at (Ext.refl (w.alloc (.cells #[.int .i64 n, .slice a M cap] 24)))
  have b10 := b0.1
  have b11 := b0.2
  clear h hk hL hM h1 h2 hR hK b0 hRR
  go_enter Try.func4, Try.ntmps4
  go_wp2_with fail
  go_region_held3 (fun w' => w'.cell? ⟨w.heap.size, 0, none⟩ = some (.int .i64 n) ∧ w'.cell? ⟨w.heap.size, 1, none⟩ = some (.slice a M cap))
    (refine ⟨Ext.cell (w := w.alloc (.cells #[.int .i64 n, .slice a M cap] 24)) ?_ b10, Ext.cell (w := w.alloc (.cells #[.int .i64 n, .slice a M cap] 24)) ?_ b11⟩ <;> (repeat (first | assumption | exact Ext.refl _ | refine Ext.alloc ?_ _ | refine Ext.drew ?_)))
    (first
      | (go_at_call 14; refine (H1.out _ (by (repeat (first | assumption | exact Ext.refl _ | refine Ext.alloc ?_ _ | refine Ext.drew ?_)))).mono ?_; rintro e w1 ⟨q1, k1, rfl, i1, x1⟩; have X1 := Ext.trans (a := w.alloc (.cells #[.int .i64 n, .slice a M cap] 24)) (by (repeat (first | assumption | exact Ext.refl _ | refine Ext.alloc ?_ _ | refine Ext.drew ?_))) x1; have Y1 := Ext.trans (a := w) (by (repeat (first | assumption | exact Ext.refl _ | refine Ext.alloc ?_ _ | refine Ext.drew ?_))) x1)
      | (go_at_call 15; refine (H2.out _ (by (repeat (first | assumption | exact Ext.refl _ | refine Ext.alloc ?_ _ | refine Ext.drew ?_)))).mono ?_; rintro e w2 ⟨q2, k2, rfl, i2, x2⟩; have X2 := Ext.trans (a := w.alloc (.cells #[.int .i64 n, .slice a M cap] 24)) (by (repeat (first | assumption | exact Ext.refl _ | refine Ext.alloc ?_ _ | refine Ext.drew ?_))) x2; have Y2 := Ext.trans (a := w) (by (repeat (first | assumption | exact Ext.refl _ | refine Ext.alloc ?_ _ | refine Ext.drew ?_))) x2)
      | (go_at_call 13; refine (all_eq HK.out HR.out HRR.out (by first | exact i1 | exact i1.ext x2) (by first | exact i2 | exact i2.ext x1)).mono ?_; rintro e w3 ⟨rfl, x3⟩; have X3 := Ext.trans (a := w.alloc (.cells #[.int .i64 n, .slice a M cap] 24)) (by (repeat (first | assumption | exact Ext.refl _ | refine Ext.alloc ?_ _ | refine Ext.drew ?_))) x3; have Y3 := Ext.trans (a := w) (by (repeat (first | assumption | exact Ext.refl _ | refine Ext.alloc ?_ _ | refine Ext.drew ?_))) x3)
      | (go_at_call 12; refine (awake_any _).mono ?_; rintro e w4 ⟨rfl, x4⟩; have X4 := Ext.trans (a := w.alloc (.cells #[.int .i64 n, .slice a M cap] 24)) (by (repeat (first | assumption | exact Ext.refl _ | refine Ext.alloc ?_ _ | refine Ext.drew ?_))) x4; have Y4 := Ext.trans (a := w) (by (repeat (first | assumption | exact Ext.refl _ | refine Ext.alloc ?_ _ | refine Ext.drew ?_))) x4))
  all_goals (
    go_wp2_with fail
    go_ret
    exact ⟨rfl, Y4⟩)
end Go.Proofs.Ytjjcjoedgmfalaa.Tp

/- The law of rising lengths, walked. -/
namespace Go.Proofs.Ytjjcjoedgmfalaa.Tp
open Go.RowKit Go.Sort Go.Lib Fx

/-- One arc of the law's round. -/
def tgS (d : List Int) (t : List Bool) (p : Nat × Nat) : List Bool := t.set p.2 (t.getD p.2 false || decide (d.getD p.2 0 = d.getD p.1 0 + 1))
theorem tgF_len (d : List Int) : ∀ (l : Arcs) (t : List Bool), (l.foldl (tgS d) t).length = t.length
  | [], _ => rfl
  | p :: l, t => by rw [List.foldl_cons, tgF_len d l]; unfold tgS; rw [List.length_set]
theorem tgF_at (d : List Int) : ∀ (l : Arcs) (t : List Bool) (w : Nat), w < t.length → ((l.foldl (tgS d) t).getD w false = true ↔ t.getD w false = true ∨ ∃ p ∈ l, p.2 = w ∧ d.getD p.2 0 = d.getD p.1 0 + 1)
  | [], t, w, _ => by simp
  | p :: l, t, w, hw => by
    have hl : w < (tgS d t p).length := by unfold tgS; rw [List.length_set]; exact hw
    rw [List.foldl_cons, tgF_at d l _ w hl]
    have e : (tgS d t p).getD w false = true ↔ t.getD w false = true ∨ (p.2 = w ∧ d.getD p.2 0 = d.getD p.1 0 + 1) := by
      unfold tgS; rw [getD_set]
      by_cases h : p.2 = w
      · subst h
        rw [if_pos ⟨rfl, hw⟩, Bool.or_eq_true, decide_eq_true_eq]
        simp
      · rw [if_neg (fun z => h z.1)]
        exact ⟨.inl, fun z => z.elim id (fun z => absurd z.1 h)⟩
    rw [e]
    constructor
    · rintro ((h | h) | ⟨q, hq, h⟩)
      · exact .inl h
      · exact .inr ⟨p, List.mem_cons_self .., h⟩
      · exact .inr ⟨q, List.mem_cons_of_mem _ hq, h⟩
    · rintro (h | ⟨q, hq, h⟩)
      · exact .inl (.inl h)
      · rcases List.mem_cons.1 hq with rfl | hq
        · exact .inl (.inr h)
        · exact .inr ⟨q, hq, h⟩
def tgT (N : Nat) (A : Arcs) (d : List Int) : List Bool := A.foldl (tgS d) (List.replicate N false)
theorem full_mem {N : Nat} {l : List Nat} (hn : l.Nodup) (hl : ∀ x ∈ l, x < N) (h : l.length = N) : ∀ x, x < N → x ∈ l := fun x hx => by
  refine Classical.byContradiction fun hx2 => ?_
  have h1 := nodup_len (N := N) (List.nodup_cons.2 ⟨hx2, hn⟩) (fun y hy => by
    rcases List.mem_cons.1 hy with rfl | hy
    · exact hx
    · exact hl y hy)
  rw [List.length_cons] at h1; omega
/-- What the lengths of a full order do. -/
theorem rise_law {N : Nat} {A : Arcs} (ok : Ok N A) (hf : (ordT N A).length = N) :
    (∀ p ∈ A, (longP N A (ordT N A)).getD p.1 0 + 1 ≤ (longP N A (ordT N A)).getD p.2 0) ∧ (∀ v, 0 ≤ (longP N A (ordT N A)).getD v 0) ∧ ∀ v, v < N → ((longP N A (ordT N A)).getD v 0 = 0 ↔ ¬ (tgT N A (longP N A (ordT N A))).getD v false = true) := by
  have hi := ordT_inv N A
  have hL := longP_inv ok (ordT N A) hi.1
  have hall := full_mem hi.1.nodup hi.1.lt hf
  refine ⟨fun p hp => hL.up p.1 p.2 hp (hall _ (ok p hp).1), hL.nn, fun v hv => ?_⟩
  unfold tgT
  rw [tgF_at _ A _ v (by simpa using hv), repl_getD]
  constructor
  · rintro h0 (h | ⟨p, hp, rfl, h⟩)
    · cases h
    · have := hL.nn p.1; omega
  · intro h
    rcases hL.tight v hv with h1 | ⟨u, hu, _, h1⟩
    · exact h1
    · exact absurd (.inr ⟨(u, v), hu, rfl, h1⟩) h
theorem bool_or_t : (true || false) = true := rfl
set_option maxHeartbeats 1000000 in
set_option maxRecDepth 100000 in
theorem rises_yes (N : Nat) (a : Option Addr) (A : Arcs) (cap : Nat) (w : World) (hN : N ≤ 64) (h : ArcIn w a (zarc A)) (hA : A.length ≤ 256) (ok : Ok N A) (hf : (ordT N A).length = N) :
    Calls Try.prog 8 #[.agg #[.int .i64 N, .slice a A.length cap]] w fun e w' => e = .returned (.bool true) ∧ Ext w w' := by
  have hlg := fun w1 (x : Ext w w1) => long_any N a A cap w1 hN (h.ext x) hA ok
  obtain ⟨r1, r2, r3⟩ := rise_law ok hf
  have e2 : ordB N A = true := by unfold ordB; rw [decide_eq_false (by omega)]; rfl
  have e3 : lngL N A = longP N A (ordT N A) := by unfold lngL; rw [if_neg (by omega)]
  have hdl : (longP N A (ordT N A)).length = N := by unfold longP; rw [longP_len]; simp
  have hbd : Bd (64 * 256) (longP N A (ordT N A)) := (longP_bd A (ordT N A) (Bd.zero N)).mono (by
    have := Nat.mul_le_mul (show (ordT N A).length ≤ 64 by omega) hA
    omega)
  rw [e2, e3] at hlg
  unfold LstZ at hlg
  obtain ⟨d, hd⟩ : ∃ d, d = longP N A (ordT N A) := ⟨_, rfl⟩
  rw [← hd] at hlg r1 r2 r3 hdl hbd
  rw [hdl] at hlg
  have HI := Lib.hid h
  obtain ⟨M, hM⟩ : ∃ M, M = A.length := ⟨_, rfl⟩
  rw [← hM] at hlg hA ⊢
  have HM := Lib.hid hM; have HOK := Lib.hid ok; have HLG := Lib.hid hlg; have R1 := Lib.hid r1; have R2 := Lib.hid r2; have R3 := Lib.hid r3; have HDL := Lib.hid hdl; have HBD := Lib.hid hbd
  have hm2 := run_make_row' (P := Try.prog) 39 4 (.bool false) 1 Try.underlying39 info_bool rfl .i64 .i64 N (by omega) (by omega)
  have n0 : ((N : Int) != (N : Int)) = false := by simp
  clear hM ok h hlg r1 r2 r3 hdl hbd hd e2 e3 hf
  go_enter Try.func8, Try.ntmps8
  go_wp2_with (go_at_call 20; refine (HLG.out _ ((Ext.refl _).alloc _)).mono ?_; rintro e w1 ⟨⟨oa, oc, rfl, hoi⟩, x1⟩; have X1 := ((Ext.refl w).alloc _).trans x1; have b1 := box_at x1; have b10 := b1.1; have b11 := b1.2; clear b1)
  have HOI := Lib.hid hoi; have B0 := Lib.hid b10; have B1 := Lib.hid b11; have HX1 := Lib.hid X1
  clear hm2 b10 b11 hoi x1 X1 n0
  go_loopw [8] (fun i' wr => ∃ k : Nat, k ≤ M ∧ i' = .int .i64 k ∧ Hid (BlkB wr w1.heap.size ((A.take k).foldl (tgS d) (List.replicate N false))) ∧ Hid (Ext w1 wr)) (fun i' _ => M - (RowKit.intOf i').toNat)
  case atStart => exact ⟨0, Nat.zero_le _, rfl, Lib.hid (BlkB.made w1 N), Lib.hid ((Ext.refl _).alloc _)⟩
  case round =>
    obtain ⟨k, hk, rfl, hb, hx⟩ := hrel
    have b10 := hx.out.cell B0.out; have b11 := hx.out.cell B1.out
    by_cases hkM : k < M
    · have hkA : k < A.length := by rw [← HM.out]; exact hkM
      obtain ⟨g, o', rfl, d0, d1⟩ := (HI.out.ext (HX1.out.trans hx.out)) k (by rw [zarc_len]; exact hkA)
      rw [zarc_at A k hkA] at d0 d1
      have hok := HOK.out _ (List.getElem_mem hkA)
      have hup := R1.out _ (List.getElem_mem hkA)
      have hstep : (A.take (k + 1)).foldl (tgS d) (List.replicate N false) = tgS d ((A.take k).foldl (tgS d) (List.replicate N false)) A[k] := by rw [List.take_succ_eq_append_getElem hkA, List.foldl_append]; rfl
      have htl : ((A.take k).foldl (tgS d) (List.replicate N false)).length = N := by rw [tgF_len]; simp
      obtain ⟨u, hu⟩ : ∃ u, u = A[k].1 := ⟨_, rfl⟩
      obtain ⟨t, ht⟩ : ∃ t, t = A[k].2 := ⟨_, rfl⟩
      obtain ⟨T, hT⟩ : ∃ T, T = (A.take k).foldl (tgS d) (List.replicate N false) := ⟨_, rfl⟩
      rw [← hT] at hstep htl hb
      have hts : tgS d T A[k] = T.set A[k].2 (T.getD A[k].2 false || decide (d.getD A[k].2 0 = d.getD A[k].1 0 + 1)) := rfl
      rw [hts] at hstep
      clear hts
      rw [← hu] at d0 hok hup hstep
      rw [← ht] at d1 hok hup hstep
      obtain ⟨og, oo, rfl, p0⟩ := (HOI.out.ext hx.out) u (by rw [HDL.out]; exact hok.1)
      obtain ⟨og2, oo2, ha2, p1⟩ := (HOI.out.ext hx.out) t (by rw [HDL.out]; exact hok.2)
      cases ha2
      have gd : ∀ j (hj : j < d.length), d[j] = d.getD j 0 := fun j hj => by rw [List.getD_eq_getElem?_getD, List.getElem?_eq_getElem hj]; rfl
      rw [gd] at p0 p1
      have hb1 := HBD.out u
      have hb2 := HBD.out t
      obtain ⟨x, hxx⟩ : ∃ x, x = d.getD u 0 := ⟨_, rfl⟩
      obtain ⟨y, hyy⟩ : ∃ y, y = d.getD t 0 := ⟨_, rfl⟩
      rw [← hxx] at p0 hup hstep hb1
      rw [← hyy] at p1 hup hstep hb2
      have hx0 : 0 ≤ x := hb1.1
      have hx1 : x ≤ 16384 := by have := hb1.2; omega
      have c0 : decide (y ≤ x) = false := decide_eq_false (by omega)
      have e0 := hb.out.cellD (j := t) (by rw [htl]; exact hok.2)
      obtain ⟨tv, htv⟩ : ∃ tv, tv = T.getD t false := ⟨_, rfl⟩
      rw [← htv] at e0 hstep
      have i0 : (0 : Int) ≤ (u : Int) := by omega
      have i1 : (u : Int) < (N : Int) := by have := hok.1; omega
      have i2 : (0 : Int) ≤ (t : Int) := by omega
      have i3 : (t : Int) < (N : Int) := by have := hok.2; omega
      have HST := Lib.hid hstep
      clear hu ht hT hstep htl hxx hyy htv hb1 hb2 gd hup
      go_wp2_with fail
      have x8 : Ext wr (wr.alloc (.cells #[.int .i64 (u : Int), .int .i64 (t : Int)] 37)) := (Ext.refl _).alloc _
      have g8 := box_at (Ext.refl (wr.alloc (.cells #[.int .i64 (u : Int), .int .i64 (t : Int)] 37)))
      obtain ⟨w8, hw8⟩ : ∃ w8, w8 = wr.alloc (.cells #[.int .i64 (u : Int), .int .i64 (t : Int)] 37) := ⟨_, rfl⟩
      rw [← hw8] at x8 g8 ⊢
      obtain ⟨a0, a1⟩ := g8
      have p08 := x8.cell p0; have p18 := x8.cell p1
      clear hw8 d0 d1 p0 p1
      go_quiet (fail)
      go_wp2_with fail
      have x9 : Ext w8 (w8.drewN nq) := (Ext.refl _).drewN nq
      obtain ⟨w9, hw9⟩ : ∃ w9, w9 = w8.drewN nq := ⟨_, rfl⟩
      rw [← hw9] at x9 ⊢
      have a09 := x9.cell a0; have a19 := x9.cell a1; have p09 := x9.cell p08; have p19 := x9.cell p18
      have hx9 := hx.out.trans (x8.trans x9)
      have hb9 := hb.out.ext (x8.trans x9)
      have e09 := (x8.trans x9).cell e0
      have f09 := hb9.frozen t
      have hws := wrap_sum hx0 (by omega)
      have HX9 := Lib.hid hx9
      clear hw9 x9 a0 a1 p08 p18 e0 c0 b10 b11 x8
      have key : ∀ v : Bool, (T.set t v = (A.take (k + 1)).foldl (tgS d) (List.replicate N false)) → Hid (BlkB (w9.setCell ⟨w1.heap.size, t, none⟩ (.bool v)) w1.heap.size ((A.take (k + 1)).foldl (tgS d) (List.replicate N false))) := fun v e => Lib.hid (by rw [← e]; exact hb9.set t v)
      have hE : ∀ v : Bool, Hid (Ext w1 (w9.setCell ⟨w1.heap.size, t, none⟩ (.bool v))) := fun v => Lib.hid (hx9.setCell (Nat.le_refl _) _)
      cases tv
      · by_cases hxy : y = x + 1
        · have f0 := (eq_facts hxy).1
          have KEY := key true (by rw [HST.out, decide_eq_true hxy]; rfl)
          have HE := hE true
          clear key hE hb9 hx9 hxy
          go_still_tail 23, (by kernel_rfl)
          go_wp2
          go_roundw
          case rel => exact ⟨k + 1, by omega, by go_num, Lib.hid (KEY.out.ext ((Ext.refl _).drew)), Lib.hid (HE.out.drew)⟩
          case measure => simp [RowKit.intOf]; omega
        · have f0 := (neq_facts hxy).1
          have KEY := key false (by rw [HST.out, decide_eq_false hxy]; rfl)
          have HE := hE false
          clear key hE hb9 hx9 hxy
          go_still_tail 23, (by kernel_rfl)
          go_wp2
          go_roundw
          case rel => exact ⟨k + 1, by omega, by go_num, Lib.hid (KEY.out.ext ((Ext.refl _).drew)), Lib.hid (HE.out.drew)⟩
          case measure => simp [RowKit.intOf]; omega
      · have KEY := key true (by rw [HST.out]; rfl)
        have HE := hE true
        clear key hE hb9 hx9
        go_region
        all_goals (
          go_wp2
          go_roundw
          case rel => exact ⟨k + 1, by omega, by go_num, Lib.hid (by first | exact KEY.out | exact KEY.out.ext ((Ext.refl _).drew)), Lib.hid (by first | exact HE.out | exact HE.out.drew)⟩
          case measure => simp [RowKit.intOf]; omega)
    · have hkn : A.take k = A := List.take_of_length_le (by rw [← HM.out]; omega)
      rw [hkn] at hb
      have HB : Hid (BlkB wr w1.heap.size (tgT N A d)) := hb
      have HXX := hx
      have hTl : (tgT N A d).length = N := by unfold tgT; rw [tgF_len]; simp
      obtain ⟨T, hT⟩ : ∃ T, T = tgT N A d := ⟨_, rfl⟩
      rw [← hT] at HB R3 hTl
      clear hkn hb hx hT
      go_wp2
      clear b10 b11
      go_loopw [10] (fun i' wq => ∃ v : Nat, v ≤ N ∧ i' = .int .i64 v ∧ Hid (Ext wr wq)) (fun i' _ => N - (RowKit.intOf i').toNat)
      case atStart => exact ⟨0, Nat.zero_le _, rfl, Lib.hid (Ext.refl _)⟩
      case round =>
        obtain ⟨v, hv, rfl, hy⟩ := hrel
        have b10 := hy.out.cell (HXX.out.cell B0.out)
        by_cases hvN : v < N
        · obtain ⟨og, oo, rfl, p0⟩ := (HOI.out.ext (HXX.out.trans hy.out)) v (by rw [HDL.out]; exact hvN)
          rw [show d[v]'(by rw [HDL.out]; exact hvN) = d.getD v 0 by rw [List.getD_eq_getElem?_getD, List.getElem?_eq_getElem]; rfl] at p0
          have e0 := (HB.out.ext hy.out).cellD (j := v) (by rw [hTl]; exact hvN)
          have hr3 := R3.out v hvN
          have hr2 := R2.out v
          obtain ⟨y, hyy⟩ : ∃ y, y = d.getD v 0 := ⟨_, rfl⟩
          rw [← hyy] at p0 hr3 hr2
          obtain ⟨tv, htv⟩ : ∃ tv, tv = T.getD v false := ⟨_, rfl⟩
          rw [← htv] at e0 hr3
          have c0 : decide (y < 0) = false := decide_eq_false (by omega)
          have i0 : (0 : Int) ≤ (v : Int) := by omega
          have i1 : (v : Int) < (N : Int) := by omega
          clear hyy htv
          cases tv
          · have f0 := (eq_facts (x := y) (k := 0) (hr3.2 (by simp))).1
            clear hr3
            go_wp2_with fail
            go_quiet (fail)
            go_wp2
            go_roundw
            case rel => exact ⟨v + 1, by omega, by go_num, Lib.hid (hy.out.trans ((Ext.refl _).drewN nq))⟩
            case measure => simp [RowKit.intOf]; omega
          · have f0 := (neq_facts (x := y) (k := 0) (fun e => hr3.1 e rfl)).1
            clear hr3
            go_wp2_with fail
            go_quiet (fail)
            go_wp2
            go_roundw
            case rel => exact ⟨v + 1, by omega, by go_num, Lib.hid (hy.out.trans ((Ext.refl _).drewN nq))⟩
            case measure => simp [RowKit.intOf]; omega
        · have HY := Lib.hid (HX1.out.trans (HXX.out.trans hy.out))
          go_wp2_with (go_at_call 12; refine (awake_any _).mono ?_; rintro e w7 ⟨rfl, x7⟩)
          go_ret
          exact ⟨rfl, HY.out.trans x7⟩
theorem ordL_none {N : Nat} {A : Arcs} (h : (ordT N A).length < N) : ordB N A = false ∧ lngL N A = [] := by
  unfold ordB lngL
  rw [decide_eq_true h, if_pos h]
  exact ⟨rfl, rfl⟩
theorem rises_no (n : Int) (a : Option Addr) (M : Nat) (cap : Nat) (w : World) (K : Nat)
    (H3 : Hid (∀ w1, Ext w w1 → Calls Try.prog 20 #[.agg #[.int .i64 n, .slice a M cap]] w1 fun e w' => ∃ p c, e = .returned (.tuple #[.slice p 0 c, .bool false]) ∧ Ext w1 w'))
    (H2 : Hid (∀ w1, Ext w w1 → Calls Try.prog 19 #[.agg #[.int .i64 n, .slice a M cap]] w1 fun e w' => ∃ p c, e = .returned (.tuple #[.slice p K c, .bool false]) ∧ Ext w1 w')) :
    Calls Try.prog 8 #[.agg #[.int .i64 n, .slice a M cap]] w fun e w' => e = .returned (.bool true) ∧ Ext w w' := by
  go_enter Try.func8, Try.ntmps8
  go_wp2_with (first
    | (go_at_call 20; refine (H3.out _ ((Ext.refl _).alloc _)).mono ?_; rintro e w1 ⟨q1, k1, rfl, x1⟩; have b1 := box_at x1; have b10 := b1.1; have b11 := b1.2; have Y1 := ((Ext.refl w).alloc _).trans x1; clear b1)
    | (go_at_call 19; refine (H2.out _ Y1).mono ?_; rintro e w2 ⟨q2, k2, rfl, x2⟩; have Y2 := Y1.trans x2)
    | (go_at_call 12; refine (awake_any _).mono ?_; rintro e w7 ⟨rfl, x7⟩))
  go_ret
  exact ⟨rfl, Y2.trans x7⟩
theorem rises_walk (g : Value) (w : World) (hg : DigArg w g) :
    Calls Try.prog 8 #[g] w fun e w' => e = .returned (.bool true) ∧ Ext w w' := by
  obtain ⟨n, a, L, cap, rfl, hn0, hn1, h, hk, hL⟩ := hg
  by_cases hv : validL n L = true
  · obtain ⟨N, A, rfl, hN, hz, hA, ok⟩ := valid_nat hv
    have hz : L = zarc A := hz
    subst hz
    rw [zarc_len]
    have hle := longT_len (N := N) (A := A)
    by_cases hf : (ordT N A).length = N
    · exact rises_yes N a A cap w hN h hA ok hf
    · obtain ⟨e1, e2⟩ := ordL_none (N := N) (A := A) (by omega)
      refine rises_no N a A.length cap w (ordL N A).length (Lib.hid fun w1 x => ?_) (Lib.hid fun w1 x => ?_)
      · refine (long_any N a A cap w1 hN (h.ext x) hA ok).mono ?_
        rw [e1, e2]
        rintro e w' ⟨⟨p, c, rfl, _⟩, y⟩
        exact ⟨p, c, rfl, y⟩
      · refine (orderR_any N a A cap w1 hN (h.ext x) hA ok).mono ?_
        rw [e1]
        rintro e w' ⟨⟨p, c, rfl, _⟩, y⟩
        exact ⟨p, c, rfl, y⟩
  · have hv : validL n L = false := by simpa using hv
    refine rises_no n a L.length cap w 0 (Lib.hid fun w1 x => (long_bad hn0 hn1 (h.ext x) hk hL hv).mono ?_) (Lib.hid fun w1 x => (orderR_bad hn0 hn1 (h.ext x) hk hL hv).mono ?_) <;>
      (rintro e w' ⟨rfl, y⟩; exact ⟨_, _, rfl, y⟩)
end Go.Proofs.Ytjjcjoedgmfalaa.Tp

/- A full order exists exactly without loops and with as many components as vertices. -/
namespace Go.Proofs.Ytjjcjoedgmfalaa.Tp

theorem idx_split {d a l : List Nat} {b : Nat} (e : d = a ++ b :: l) (hn : d.Nodup) : d.idxOf b = a.length ∧ ∀ u ∈ a, d.idxOf u < d.idxOf b := by
  subst e
  have hb : b ∉ a := fun h => (List.nodup_append.1 hn).2.2 b h b (List.mem_cons_self ..) rfl
  have h1 : (a ++ b :: l).idxOf b = a.length := by
    rw [List.idxOf_append, if_neg hb]; simp
  refine ⟨h1, fun u hu => ?_⟩
  rw [h1, List.idxOf_append, if_pos hu]
  exact List.idxOf_lt_length_iff.2 hu
theorem arc_idx {N : Nat} {A : Arcs} (hf : ∀ x, x < N → x ∈ ordT N A) (ok : Ok N A) {u v : Nat} (h : (u, v) ∈ A) : (ordT N A).idxOf u < (ordT N A).idxOf v := by
  obtain ⟨a, l, e⟩ := List.append_of_mem (hf v (ok _ h).2)
  have hi := (ordT_inv N A).1
  exact (idx_split e hi.nodup).2 u (hi.pre a v l e u h)
theorem path_idx {N : Nat} {A : Arcs} (hf : ∀ x, x < N → x ∈ ordT N A) (ok : Ok N A) {u v : Nat} (h : Path A u v) : u = v ∨ (ordT N A).idxOf u < (ordT N A).idxOf v := by
  induction h with
  | refl => exact .inl rfl
  | step _ ha ih =>
    have := arc_idx hf ok ha
    rcases ih with rfl | ih
    · exact .inr this
    · exact .inr (Nat.lt_trans ih this)
theorem strong_full {N : Nat} {A : Arcs} (h : ∀ v, v < N → compT N A v = [v]) : (strongT N A).length = N := by
  have : strongT N A = (List.range N).map (fun v => [v]) := by
    have key : ∀ l : List Nat, (∀ v ∈ l, v < N) → l.filterMap (fun v => if (compT N A v).getD 0 0 = v then some (compT N A v) else none) = l.map (fun v => [v]) := by
      intro l
      induction l with
      | nil => intro _; rfl
      | cons x l ih =>
        intro hl
        rw [List.filterMap_cons, h x (hl x (List.mem_cons_self ..)), ih (fun v hv => hl v (List.mem_cons_of_mem _ hv)), if_pos (show [x].getD 0 0 = x from rfl)]
        rfl
    exact key _ (fun v hv => List.mem_range.1 hv)
  rw [this]; simp
theorem filterMap_full {α β : Type} (f : α → Option β) : ∀ l : List α, (l.filterMap f).length = l.length → ∀ x ∈ l, (f x).isSome = true
  | [], _, x, hx => by cases hx
  | a :: l, h, x, hx => by
    rw [List.filterMap_cons] at h
    cases ha : f a with
    | none =>
      rw [ha] at h
      have := List.length_filterMap_le f l
      simp only [List.length_cons] at h
      omega
    | some b =>
      rw [ha] at h
      simp only [List.length_cons] at h
      rcases List.mem_cons.1 hx with rfl | hx
      · rw [ha]; rfl
      · exact filterMap_full f l (by omega) x hx
theorem full_head {N : Nat} {A : Arcs} (h : (strongT N A).length = N) {v : Nat} (hv : v < N) : (compT N A v).getD 0 0 = v := by
  have := filterMap_full _ (List.range N) (by rw [List.length_range]; exact h) v (List.mem_range.2 hv)
  by_cases e : (compT N A v).getD 0 0 = v
  · exact e
  · rw [if_neg e] at this; cases this
theorem comp_eq {N : Nat} {A : Arcs} (ok : Ok N A) {u v : Nat} (hu : u < N) (hv : v < N) (h1 : Path A u v) (h2 : Path A v u) : compT N A u = compT N A v :=
  asc_ext (compT_asc N A u) (compT_asc N A v) fun y => by
    rw [mem_compT ok hu, mem_compT ok hv]
    exact ⟨fun ⟨a, b, c⟩ => ⟨a, h2.trans b, c.trans h1⟩, fun ⟨a, b, c⟩ => ⟨a, h1.trans b, c.trans h2⟩⟩
theorem no_cyc {N : Nat} {A : Arcs} (ok : Ok N A) (hl : ∀ p ∈ A, p.1 ≠ p.2) (hs : (strongT N A).length = N) {u v : Nat} (ha : (u, v) ∈ A) : ¬ Path A v u := fun hp => by
  obtain ⟨hu, hv⟩ := ok _ ha
  have e := comp_eq ok hu hv (.step (.refl u) ha) hp
  have h1 := full_head hs hu
  have h2 := full_head hs hv
  rw [e, h2] at h1
  exact hl _ ha h1.symm
/-- How many reach v. -/
def anc (N : Nat) (A : Arcs) (v : Nat) : List Nat := (List.range N).filter (fun y => (reachT N A y).contains v)
theorem mem_anc {N : Nat} {A : Arcs} (ok : Ok N A) {v y : Nat} : y ∈ anc N A v ↔ y < N ∧ Path A y v := by
  unfold anc
  rw [List.mem_filter, List.mem_range]
  exact ⟨fun ⟨a, b⟩ => ⟨a, (mem_reachT ok a).1 (by simpa using b)⟩, fun ⟨a, b⟩ => ⟨a, by simpa using (mem_reachT ok a).2 b⟩⟩
theorem anc_lt {N : Nat} {A : Arcs} (ok : Ok N A) {u v : Nat} (ha : (u, v) ∈ A) (hc : ¬ Path A v u) : (anc N A u).length < (anc N A v).length := by
  have hn : (v :: anc N A u).Nodup := List.nodup_cons.2 ⟨fun h => hc ((mem_anc ok).1 h).2, List.Pairwise.filter _ List.nodup_range⟩
  have := nodup_sub (m := anc N A v) hn (fun x hx => by
    rcases List.mem_cons.1 hx with rfl | hx
    · exact (mem_anc ok).2 ⟨(ok _ ha).2, .refl _⟩
    · obtain ⟨h1, h2⟩ := (mem_anc ok).1 hx
      exact (mem_anc ok).2 ⟨h1, .step h2 ha⟩)
  rw [List.length_cons] at this; omega
theorem stuck {N : Nat} {A : Arcs} (ok : Ok N A) (hl : ∀ p ∈ A, p.1 ≠ p.2) (hs : (strongT N A).length = N) {d : List Nat} (hd : ∀ v, v < N → v ∉ d → ∃ u, (u, v) ∈ A ∧ u ∉ d) : ∀ n v, v < N → v ∉ d → (anc N A v).length ≤ n → False
  | 0, v, hv, _, hn => by
    have : v ∈ anc N A v := (mem_anc ok).2 ⟨hv, .refl _⟩
    have := List.length_pos_of_mem this
    omega
  | n + 1, v, hv, hx, hn => by
    obtain ⟨u, hu, hux⟩ := hd v hv hx
    have := anc_lt ok hu (no_cyc ok hl hs hu)
    exact stuck ok hl hs hd n u (ok _ hu).1 hux (by omega)
theorem fullM {N : Nat} {l : List Nat} (hn : l.Nodup) (hl : ∀ x ∈ l, x < N) (h : l.length = N) : ∀ x, x < N → x ∈ l := fun x hx => by
  refine Classical.byContradiction fun hx2 => ?_
  have h1 := nodup_len (N := N) (List.nodup_cons.2 ⟨hx2, hn⟩) (fun y hy => by
    rcases List.mem_cons.1 hy with rfl | hy
    · exact hx
    · exact hl y hy)
  rw [List.length_cons] at h1; omega
/-- The plain law. -/
theorem full_iff {N : Nat} {A : Arcs} (ok : Ok N A) : (ordT N A).length = N ↔ (∀ p ∈ A, p.1 ≠ p.2) ∧ (strongT N A).length = N := by
  have hi := ordT_inv N A
  constructor
  · intro hf
    have hm := fullM hi.1.nodup hi.1.lt hf
    refine ⟨fun p hp e => ?_, strong_full fun v hv => ?_⟩
    · have := arc_idx hm ok (u := p.1) (v := p.2) hp
      rw [e] at this; omega
    · refine asc_ext (compT_asc N A v) (List.pairwise_singleton _ _) fun y => ?_
      rw [mem_compT ok hv, List.mem_singleton]
      constructor
      · rintro ⟨_, h1, h2⟩
        rcases path_idx hm ok h1 with e | e
        · exact e.symm
        · rcases path_idx hm ok h2 with e2 | e2
          · exact e2
          · omega
      · rintro rfl
        exact ⟨hv, .refl _, .refl _⟩
  · rintro ⟨hl, hs⟩
    refine Classical.byContradiction fun hf => ?_
    have hle := hi.1.small
    obtain ⟨v, hv, hx⟩ : ∃ v, v < N ∧ v ∉ ordT N A := by
      refine Classical.byContradiction fun hc => hf ?_
      have := nodup_sub (l := List.range N) (m := ordT N A) List.nodup_range (fun x hx => Classical.byContradiction fun h => hc ⟨x, List.mem_range.1 hx, h⟩)
      rw [List.length_range] at this; omega
    refine stuck ok hl hs (d := ordT N A) (fun v hv hx => ?_) _ v hv hx (Nat.le_refl _)
    refine Classical.byContradiction fun hc => ?_
    have := leastF_none.1 hi.2 v hv
    rw [freeB_iff.2 ⟨hx, fun u hu => Classical.byContradiction fun h => hc ⟨u, hu, h⟩⟩] at this
    cases this
end Go.Proofs.Ytjjcjoedgmfalaa.Tp
