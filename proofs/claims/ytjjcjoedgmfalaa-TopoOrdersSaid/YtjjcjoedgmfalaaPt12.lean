/- Packed texts: TopLawE -/
import Derived.Test.YtjjcjoedgmfalaaPt11
set_option linter.unusedVariables false
set_option linter.unusedSimpArgs false
/- The law of orders, walked. -/
namespace Go.Proofs.Ytjjcjoedgmfalaa.Tp
open Go.RowKit Go.Sort Go.Lib Fx

/-- What the law's first loop tells of the arcs. -/
def lpB (A : Arcs) : Bool := A.any (fun p => p.1 == p.2)
theorem lp_take (A : Arcs) (c : Bool) (k : Nat) (h : k < A.length) : (c || lpB (A.take (k + 1))) = ((c || lpB (A.take k)) || (A[k].1 == A[k].2)) := by
  unfold lpB
  rw [List.take_succ_eq_append_getElem h, List.any_append]
  simp [Bool.or_assoc]
theorem lp_iff {A : Arcs} : lpB A = false ↔ ∀ p ∈ A, p.1 ≠ p.2 := by
  unfold lpB
  rw [List.any_eq_false]
  simp
structure PlI (N : Nat) (o : List Nat) (k : Nat) (P : List Int) : Prop where
  len : P.length = N
  at_ : ∀ v, v < N → P.getD v 0 = if v ∈ o.take k then (o.idxOf v : Int) + 1 else 0
theorem PlI.zero (N : Nat) (o : List Nat) : PlI N o 0 (List.replicate N 0) := ⟨by simp, fun v _ => by rw [getD_rep]; simp⟩
theorem idx_at {o : List Nat} (hn : o.Nodup) {k : Nat} (h : k < o.length) : o.idxOf o[k] = k ∧ o[k] ∉ o.take k := by
  have e : o = o.take k ++ o[k] :: o.drop (k + 1) := by rw [List.getElem_cons_drop, List.take_append_drop]
  have h1 := (idx_split e hn).1
  refine ⟨?_, fun hm => ?_⟩
  · rw [h1, List.length_take]; omega
  · rw [e] at hn
    exact (List.nodup_append.1 hn).2.2 _ hm _ (List.mem_cons_self ..) rfl
theorem PlI.step {N : Nat} {o : List Nat} {k : Nat} {P : List Int} (h : PlI N o k P) (hn : o.Nodup) (hk : k < o.length) (hv : o[k] < N) : PlI N o (k + 1) (P.set o[k] ((k : Int) + 1)) := by
  obtain ⟨h1, h2⟩ := idx_at hn hk
  refine ⟨by rw [List.length_set, h.len], fun v hvN => ?_⟩
  rw [getD_set, List.take_succ_eq_append_getElem hk]
  by_cases e : o[k] = v
  · rw [if_pos ⟨e, by rw [h.len]; exact hv⟩, if_pos (by rw [← e]; exact List.mem_append_right _ (List.mem_singleton.2 rfl)), ← e, h1]
  · rw [if_neg (fun z => e z.1), h.at_ v hvN]
    by_cases hm : v ∈ o.take k
    · rw [if_pos hm, if_pos (List.mem_append_left _ hm)]
    · rw [if_neg hm, if_neg (fun z => (List.mem_append.1 z).elim hm (fun z => e (List.mem_singleton.1 z).symm))]
theorem PlI.full {N : Nat} {o : List Nat} {P : List Int} (h : PlI N o o.length P) (hf : ∀ x, x < N → x ∈ o) {v : Nat} (hv : v < N) : P.getD v 0 = (o.idxOf v : Int) + 1 := by
  rw [h.at_ v hv, List.take_length, if_pos (hf v hv)]
set_option maxHeartbeats 2000000 in
set_option maxRecDepth 100000 in
theorem orders_yes (N : Nat) (a : Option Addr) (A : Arcs) (cap : Nat) (w : World) (hN : N ≤ 64) (h : ArcIn w a (zarc A)) (hA : A.length ≤ 256) (ok : Ok N A) (hf : (ordT N A).length = N) :
    Calls Try.prog 5 #[.agg #[.int .i64 N, .slice a A.length cap]] w fun e w' => e = .returned (.bool true) ∧ Ext w w' := by
  have hval := fun w1 (x : Ext w w1) => validR_any N a (zarc A) cap w1 (by omega) (by omega) (h.ext x) (zarc_ok hN ok) (by rw [zarc_len]; omega)
  rw [valid_ok hN hA ok, zarc_len] at hval
  have hord := fun w1 (x : Ext w w1) => order_any N a A cap w1 hN (h.ext x) hA ok
  have hstr := fun w1 (x : Ext w w1) => strong_any N a A cap w1 hN (h.ext x) hA ok
  have hsl := strong_len (N := N) (A := A)
  have hi := ordT_inv N A
  have hall := full_mem hi.1.nodup hi.1.lt hf
  have hidx := fun u v (hu : (u, v) ∈ A) => arc_idx hall ok hu
  obtain ⟨hlp, hsn⟩ := (full_iff ok).1 hf
  rw [← lp_iff] at hlp
  have e1 : ordL N A = ordT N A := by unfold ordL; rw [if_neg (by omega)]
  have e2 : ordB N A = true := by unfold ordB; rw [decide_eq_false (by omega)]; rfl
  rw [e1, e2] at hord
  rw [hsn] at hstr
  have hnd := hi.1.nodup
  have hlt := hi.1.lt
  obtain ⟨o, ho⟩ : ∃ o, o = ordT N A := ⟨_, rfl⟩
  rw [← ho] at hord hall hidx hnd hlt hf
  unfold LstB at hord
  rw [hf] at hord
  have hpre : ∀ k, k ≤ A.length → lpB (A.take k) = false := fun k _ => by
    rw [lp_iff] at hlp ⊢
    exact fun p hp => hlp p (List.mem_of_mem_take hp)
  have HALL := Lib.hid hall; have HIDX := Lib.hid hidx; have HND := Lib.hid hnd; have HLT := Lib.hid hlt; have HON := Lib.hid hf; have HLP := Lib.hid (lp_iff.1 hlp)
  clear hi hall hidx hlp hsn e1 e2 hnd hlt ho hf hpre hsl
  have HI := Lib.hid h
  obtain ⟨M, hM⟩ : ∃ M, M = A.length := ⟨_, rfl⟩
  rw [← hM] at hval hord hstr hA ⊢
  have HM := Lib.hid hM; have HOK := Lib.hid ok; have HV := Lib.hid hval; have HO := Lib.hid hord; have HS := Lib.hid hstr
  have hm1 := run_make_row' (P := Try.prog) 26 3 (.int .i64 0) 8 Try.underlying26 info_int rfl .i64 .i64 N (by omega) (by omega)
  have n0 : ((N : Int) != (N : Int)) = false := by simp
  clear hM ok h hval hord hstr
  go_enter Try.func5, Try.ntmps5
  go_wp2_with (first
    | (go_at_call 16; refine (HV.out _ ((Ext.refl _).alloc _)).mono ?_; rintro e w1 ⟨rfl, x1⟩; have b1 := box_at x1; have b10 := b1.1; have b11 := b1.2; have Y1 := ((Ext.refl w).alloc _).trans x1; clear b1)
    | (go_at_call 17; refine (HO.out _ Y1).mono ?_; rintro e w2 ⟨⟨oa, oc, rfl, hoi⟩, x2⟩; have b20 := x2.cell b10; have b21 := x2.cell b11; have Y2 := Y1.trans x2))
  go_region_held3 (fun w' => w'.cell? ⟨w.heap.size, 0, none⟩ = some (.int .i64 N) ∧ w'.cell? ⟨w.heap.size, 1, none⟩ = some (.slice a M cap))
    (refine ⟨Ext.cell (w := w2) ?_ b20, Ext.cell (w := w2) ?_ b21⟩ <;> (repeat (first | assumption | exact Ext.refl _ | refine Ext.alloc ?_ _ | refine Ext.drew ?_)))
    (first | (go_at_call 14; refine (HS.out _ (Ext.trans Y2 (by (repeat (first | assumption | exact Ext.refl _ | refine Ext.alloc ?_ _ | refine Ext.drew ?_))))).mono ?_; rintro e w3 ⟨⟨sa, sc, rfl, -⟩, x3⟩; have X3 := Ext.trans (a := w2) (by (repeat (first | assumption | exact Ext.refl _ | refine Ext.alloc ?_ _ | refine Ext.drew ?_))) x3))
  have Y3 := Y2.trans X3
  have b30 := X3.cell b20; have b31 := X3.cell b21
  have B0 := Lib.hid b30; have B1 := Lib.hid b31; have HY3 := Lib.hid Y3; have HOI := Lib.hid (hoi.ext X3)
  clear b10 b11 b20 b21 x1 x2 x3 X3 Y1 Y2 Y3 hoi
  go_wp2
  clear b30 b31
  go_loopw [5, 6] (fun c' i' wr => ∃ k : Nat, k ≤ M ∧ i' = .int .i64 k ∧ c' = .bool false ∧ Hid (Ext w3 wr)) (fun _ i' _ => M - (RowKit.intOf i').toNat)
  case atStart => exact ⟨0, Nat.zero_le _, rfl, by simp, Lib.hid (by (repeat (first | assumption | exact Ext.refl _ | refine Ext.alloc ?_ _ | refine Ext.drew ?_)))⟩
  case round =>
    obtain ⟨k, hk, rfl, rfl, hx⟩ := hrel
    have b10 := hx.out.cell B0.out; have b11 := hx.out.cell B1.out
    by_cases hkM : k < M
    · have hkA : k < A.length := by rw [← HM.out]; exact hkM
      obtain ⟨g, o', rfl, d0, d1⟩ := (HI.out.ext (HY3.out.trans hx.out)) k (by rw [zarc_len]; exact hkA)
      rw [zarc_at A k hkA] at d0 d1
      have hne := HLP.out _ (List.getElem_mem hkA)
      obtain ⟨u, hu⟩ : ∃ u, u = A[k].1 := ⟨_, rfl⟩
      obtain ⟨t, ht⟩ : ∃ t, t = A[k].2 := ⟨_, rfl⟩
      rw [← hu] at d0 hne
      rw [← ht] at d1 hne
      have f0 := nat_neq hne
      clear hu ht hne
      go_wp2_with fail
      go_quiet (fail)
      go_wp2
      go_roundw
      case rel => exact ⟨k + 1, by omega, by go_num, rfl, Lib.hid (hx.out.drewN nq)⟩
      case measure => simp [RowKit.intOf]; omega
    · obtain ⟨wo, hwo⟩ : ∃ wo : World, wo = wr := ⟨_, rfl⟩
      subst hwo
      go_wp2
      clear b10 b11
      go_loopw [8] (fun i' wr => ∃ (j : Nat) (P : List Int), j ≤ N ∧ i' = .int .i64 j ∧ Hid (PlI N o j P) ∧ Hid (BlkI wr wo.heap.size P) ∧ Hid (Ext wo wr)) (fun i' _ => N - (RowKit.intOf i').toNat)
      case atStart => exact ⟨0, List.replicate N 0, Nat.zero_le _, rfl, Lib.hid (PlI.zero N o), Lib.hid (BlkI.made wo N), Lib.hid ((Ext.refl _).alloc _)⟩
      case round =>
        obtain ⟨j, P, hj, rfl, hP, hb, hy⟩ := hrel
        have b10 := (hx.out.trans hy.out).cell B0.out; have b11 := (hx.out.trans hy.out).cell B1.out
        by_cases hjN : j < N
        · have hjo : j < o.length := by rw [HON.out]; exact hjN
          obtain ⟨og, oo, rfl, p0⟩ := (HOI.out.ext (hx.out.trans hy.out)) j (by rw [zl_len]; exact hjo)
          rw [zl_at _ _ hjo] at p0
          have hvN := HLT.out _ (List.getElem_mem hjo)
          have hst := hP.out.step HND.out hjo hvN
          have hz := hP.out.at_ o[j] hvN
          rw [if_neg (idx_at HND.out hjo).2] at hz
          have hPl := hP.out.len
          obtain ⟨v, hv⟩ : ∃ v, v = o[j] := ⟨_, rfl⟩
          rw [← hv] at p0 hvN hst hz
          have e0 := hb.out.cellD (j := v) (by rw [hPl]; exact hvN)
          rw [hz] at e0
          have HST := Lib.hid hst
          have c0 : decide ((v : Int) < 0) = false := decide_eq_false (by omega)
          have c1 : decide ((N : Int) ≤ (v : Int)) = false := decide_eq_false (by omega)
          have c2 : decide (N ≤ v) = false := decide_eq_false (by omega)
          have f0 := (eq_facts (x := (0 : Int)) (k := 0) rfl).2
          have i0 : (0 : Int) ≤ (v : Int) := by omega
          have i1 : (v : Int) < (N : Int) := by omega
          have i2 : (0 : Int) ≤ (j : Int) := by omega
          have i3 : (j : Int) < (N : Int) := by omega
          have f90 := hb.out.frozen v
          clear hv hst hz
          go_wp2_with fail
          go_quiet (fail)
          go_wp2
          go_roundw
          case rel => exact ⟨j + 1, P.set v ((j : Int) + 1), by omega, by go_num, HST, Lib.hid ((hb.out.ext ((Ext.refl _).drewN nq)).set v _), Lib.hid ((hy.out.drewN nq).setCell (Nat.le_refl _) _)⟩
          case measure => simp [RowKit.intOf]; omega
        · have hP2 : PlI N o o.length P := by
            have hjn : j = o.length := by rw [HON.out]; omega
            rw [← hjn]; exact hP.out
          have hPf := fun v (hv : v < N) => PlI.full hP2 HALL.out hv
          have hPl := hP.out.len
          have HPF := Lib.hid hPf
          have hxy := Lib.hid (hx.out.trans hy.out)
          obtain ⟨wp, hwp⟩ : ∃ wp : World, wp = wr := ⟨_, rfl⟩
          subst hwp
          clear hPf hP hP2
          go_wp2
          clear b10 b11
          go_loopw [9] (fun i' wr => ∃ k : Nat, k ≤ M ∧ i' = .int .i64 k ∧ Hid (Ext wp wr)) (fun i' _ => M - (RowKit.intOf i').toNat)
          case atStart => exact ⟨0, Nat.zero_le _, rfl, Lib.hid (Ext.refl _)⟩
          case round =>
            obtain ⟨k, hk, rfl, hq⟩ := hrel
            have b10 := (hxy.out.trans hq.out).cell B0.out; have b11 := (hxy.out.trans hq.out).cell B1.out
            by_cases hkM : k < M
            · have hkA : k < A.length := by rw [← HM.out]; exact hkM
              obtain ⟨g, o', rfl, d0, d1⟩ := (HI.out.ext (HY3.out.trans (hxy.out.trans hq.out))) k (by rw [zarc_len]; exact hkA)
              rw [zarc_at A k hkA] at d0 d1
              have hok := HOK.out _ (List.getElem_mem hkA)
              have hid := HIDX.out A[k].1 A[k].2 (List.getElem_mem hkA)
              obtain ⟨u, hu⟩ : ∃ u, u = A[k].1 := ⟨_, rfl⟩
              obtain ⟨t, ht⟩ : ∃ t, t = A[k].2 := ⟨_, rfl⟩
              rw [← hu] at d0 hok hid
              rw [← ht] at d1 hok hid
              have e0 := (hb.out.ext hq.out).cellD (j := u) (by rw [hPl]; exact hok.1)
              have e1 := (hb.out.ext hq.out).cellD (j := t) (by rw [hPl]; exact hok.2)
              have hlt2 : P.getD u 0 < P.getD t 0 := by rw [HPF.out u hok.1, HPF.out t hok.2]; omega
              obtain ⟨x, hxx⟩ : ∃ x, x = P.getD u 0 := ⟨_, rfl⟩
              obtain ⟨y, hyy⟩ : ∃ y, y = P.getD t 0 := ⟨_, rfl⟩
              rw [← hxx] at e0 hlt2
              rw [← hyy] at e1 hlt2
              have c0 : decide (y ≤ x) = false := decide_eq_false (by omega)
              have i0 : (0 : Int) ≤ (u : Int) := by omega
              have i1 : (u : Int) < (N : Int) := by have := hok.1; omega
              have i2 : (0 : Int) ≤ (t : Int) := by omega
              have i3 : (t : Int) < (N : Int) := by have := hok.2; omega
              clear hu ht hid hxx hyy
              go_wp2_with fail
              go_quiet (fail)
              go_wp2
              go_roundw
              case rel => exact ⟨k + 1, by omega, by go_num, Lib.hid (hq.out.drewN nq)⟩
              case measure => simp [RowKit.intOf]; omega
            · have HY := Lib.hid (HY3.out.trans (hxy.out.trans hq.out))
              go_wp2_with (go_at_call 12; refine (awake_any _).mono ?_; rintro e w7 ⟨rfl, x7⟩)
              go_ret
              exact ⟨rfl, HY.out.trans x7⟩
set_option maxHeartbeats 2000000 in
set_option maxRecDepth 100000 in
theorem orders_no (N : Nat) (a : Option Addr) (A : Arcs) (cap : Nat) (w : World) (hN : N ≤ 64) (h : ArcIn w a (zarc A)) (hA : A.length ≤ 256) (ok : Ok N A) (hf : (ordT N A).length < N) :
    Calls Try.prog 5 #[.agg #[.int .i64 N, .slice a A.length cap]] w fun e w' => e = .returned (.bool true) ∧ Ext w w' := by
  have hval := fun w1 (x : Ext w w1) => validR_any N a (zarc A) cap w1 (by omega) (by omega) (h.ext x) (zarc_ok hN ok) (by rw [zarc_len]; omega)
  rw [valid_ok hN hA ok, zarc_len] at hval
  have hord := fun w1 (x : Ext w w1) => order_any N a A cap w1 hN (h.ext x) hA ok
  have hstr := fun w1 (x : Ext w w1) => strong_any N a A cap w1 hN (h.ext x) hA ok
  have hsl := strong_len (N := N) (A := A)
  have hcy : (decide ((strongT N A).length < N) || lpB A) = true := by
    rw [Bool.or_eq_true, decide_eq_true_eq]
    refine Classical.byContradiction fun hc => ?_
    rw [not_or] at hc
    have := (full_iff ok).2 ⟨lp_iff.1 (by simpa using hc.2), by omega⟩
    omega
  have e1 : ordL N A = [] := by unfold ordL; rw [if_pos hf]
  have e2 : ordB N A = false := by unfold ordB; rw [decide_eq_true hf]; rfl
  rw [e1, e2] at hord
  unfold LstB at hord
  obtain ⟨S, hS⟩ : ∃ S, S = (strongT N A).length := ⟨_, rfl⟩
  rw [← hS] at hstr hcy hsl
  obtain ⟨c0, hc0⟩ : ∃ c0, c0 = decide (S < N) := ⟨_, rfl⟩
  have hc0' : decide ((S : Int) < (N : Int)) = c0 := by
    rw [hc0]; exact decide_eq_decide.2 (by omega)
  rw [← hc0] at hcy
  have HCY := Lib.hid hcy
  have hc0n : decide (S < N) = c0 := hc0.symm
  clear e1 e2 hf hcy hS hc0
  have HI := Lib.hid h
  obtain ⟨M, hM⟩ : ∃ M, M = A.length := ⟨_, rfl⟩
  rw [← hM] at hval hord hstr hA ⊢
  have HM := Lib.hid hM; have HOK := Lib.hid ok; have HV := Lib.hid hval; have HO := Lib.hid hord; have HS := Lib.hid hstr
  have hm1 := run_make_row' (P := Try.prog) 26 3 (.int .i64 0) 8 Try.underlying26 info_int rfl .i64 .i64 N (by omega) (by omega)
  have n0 : ((N : Int) != (N : Int)) = false := by simp
  clear hM ok h hval hord hstr
  go_enter Try.func5, Try.ntmps5
  go_wp2_with (first
    | (go_at_call 16; refine (HV.out _ ((Ext.refl _).alloc _)).mono ?_; rintro e w1 ⟨rfl, x1⟩; have b1 := box_at x1; have b10 := b1.1; have b11 := b1.2; have Y1 := ((Ext.refl w).alloc _).trans x1; clear b1)
    | (go_at_call 17; refine (HO.out _ Y1).mono ?_; rintro e w2 ⟨⟨oa, oc, rfl, hoi⟩, x2⟩; have b20 := x2.cell b10; have b21 := x2.cell b11; have Y2 := Y1.trans x2))
  go_region_held3 (fun w' => w'.cell? ⟨w.heap.size, 0, none⟩ = some (.int .i64 N) ∧ w'.cell? ⟨w.heap.size, 1, none⟩ = some (.slice a M cap))
    (refine ⟨Ext.cell (w := w2) ?_ b20, Ext.cell (w := w2) ?_ b21⟩ <;> (repeat (first | assumption | exact Ext.refl _ | refine Ext.alloc ?_ _ | refine Ext.drew ?_)))
    (first | (go_at_call 14; refine (HS.out _ (Ext.trans Y2 (by (repeat (first | assumption | exact Ext.refl _ | refine Ext.alloc ?_ _ | refine Ext.drew ?_))))).mono ?_; rintro e w3 ⟨⟨sa, sc, rfl, -⟩, x3⟩; have X3 := Ext.trans (a := w2) (by (repeat (first | assumption | exact Ext.refl _ | refine Ext.alloc ?_ _ | refine Ext.drew ?_))) x3))
  have Y3 := Y2.trans X3
  have b30 := X3.cell b20; have b31 := X3.cell b21
  have B0 := Lib.hid b30; have B1 := Lib.hid b31; have HY3 := Lib.hid Y3; have HOI := Lib.hid (hoi.ext X3)
  clear b10 b11 b20 b21 x1 x2 x3 X3 Y1 Y2 Y3 hoi
  go_wp2
  clear b30 b31
  go_loopw [5, 6] (fun c' i' wr => ∃ k : Nat, k ≤ M ∧ i' = .int .i64 k ∧ c' = .bool (c0 || lpB (A.take k)) ∧ Hid (Ext w3 wr)) (fun _ i' _ => M - (RowKit.intOf i').toNat)
  case atStart => exact ⟨0, Nat.zero_le _, rfl, by simp [lpB], Lib.hid (by (repeat (first | assumption | exact Ext.refl _ | refine Ext.alloc ?_ _ | refine Ext.drew ?_)))⟩
  case round =>
    obtain ⟨k, hk, rfl, rfl, hx⟩ := hrel
    have b10 := hx.out.cell B0.out; have b11 := hx.out.cell B1.out
    by_cases hkM : k < M
    · have hkA : k < A.length := by rw [← HM.out]; exact hkM
      obtain ⟨g, o', rfl, d0, d1⟩ := (HI.out.ext (HY3.out.trans hx.out)) k (by rw [zarc_len]; exact hkA)
      rw [zarc_at A k hkA] at d0 d1
      have hlp := lp_take A c0 k hkA
      obtain ⟨u, hu⟩ : ∃ u, u = A[k].1 := ⟨_, rfl⟩
      obtain ⟨t, ht⟩ : ∃ t, t = A[k].2 := ⟨_, rfl⟩
      rw [← hu] at d0 hlp
      rw [← ht] at d1 hlp
      obtain ⟨c, hc⟩ : ∃ c, c = (c0 || lpB (A.take k)) := ⟨_, rfl⟩
      rw [← hc] at hlp ⊢
      have HLP := Lib.hid hlp
      clear hu ht hc hlp
      cases c
      · by_cases hut : u = t
        · have f0 := (eq_facts (x := (u : Int)) (k := (t : Int)) (by omega)).1
          have HB := Lib.hid (show (u == t) = true by rw [hut]; simp)
          clear hut
          go_wp2_with fail
          go_quiet (fail)
          go_wp2
          go_roundw
          case rel => exact ⟨k + 1, by omega, by go_num, by rw [HLP.out, HB.out]; rfl, Lib.hid (hx.out.drewN nq)⟩
          case measure => simp [RowKit.intOf]; omega
        · have f0 := nat_neq hut
          have HB := Lib.hid (show (u == t) = false by simpa using hut)
          clear hut
          go_wp2_with fail
          go_quiet (fail)
          go_wp2
          go_roundw
          case rel => exact ⟨k + 1, by omega, by go_num, by rw [HLP.out, HB.out]; rfl, Lib.hid (hx.out.drewN nq)⟩
          case measure => simp [RowKit.intOf]; omega
      · go_wp2_with fail
        go_quiet (fail)
        go_wp2
        go_roundw
        case rel => exact ⟨k + 1, by omega, by go_num, by rw [HLP.out]; rfl, Lib.hid (hx.out.drewN nq)⟩
        case measure => simp [RowKit.intOf]; omega
    · have hkn : A.take k = A := List.take_of_length_le (by rw [← HM.out]; omega)
      rw [hkn, HCY.out]
      obtain ⟨wo, hwo⟩ : ∃ wo : World, wo = wr := ⟨_, rfl⟩
      subst hwo
      go_wp2
      clear b10 b11
      go_loopw [8] (fun i' wr => i' = .int .i64 0 ∧ Hid (Ext wo wr)) (fun _ _ => 0)
      case atStart => exact ⟨rfl, Lib.hid ((Ext.refl _).alloc _)⟩
      case round =>
        obtain ⟨rfl, hy⟩ := hrel
        have b10 := (hx.out.trans hy.out).cell B0.out; have b11 := (hx.out.trans hy.out).cell B1.out
        obtain ⟨wp, hwp⟩ : ∃ wp : World, wp = wr := ⟨_, rfl⟩
        subst hwp
        go_wp2
        clear b10 b11
        go_loopw [9] (fun i' wr => i' = .int .i64 0 ∧ Hid (Ext wp wr)) (fun _ _ => 0)
        case atStart => exact ⟨rfl, Lib.hid (Ext.refl _)⟩
        case round =>
          obtain ⟨rfl, hq⟩ := hrel
          have b10 := (hx.out.trans (hy.out.trans hq.out)).cell B0.out; have b11 := (hx.out.trans (hy.out.trans hq.out)).cell B1.out
          have HY := Lib.hid (HY3.out.trans (hx.out.trans (hy.out.trans hq.out)))
          go_wp2_with (go_at_call 12; refine (awake_any _).mono ?_; rintro e w7 ⟨rfl, x7⟩)
          go_ret
          exact ⟨rfl, HY.out.trans x7⟩
set_option maxHeartbeats 1000000 in
theorem orders_walk (g : Value) (w : World) (hg : DigArg w g) :
    Calls Try.prog 5 #[g] w fun e w' => e = .returned (.bool true) ∧ Ext w w' := by
  obtain ⟨n, a, L, cap, rfl, hn0, hn1, h, hk, hL⟩ := hg
  by_cases hv : validL n L = true
  · obtain ⟨N, A, rfl, hN, hz, hA, ok⟩ := valid_nat hv
    have hz : L = zarc A := hz
    subst hz
    rw [zarc_len]
    have hle := longT_len (N := N) (A := A)
    by_cases hf : (ordT N A).length = N
    · exact orders_yes N a A cap w hN h hA ok hf
    · exact orders_no N a A cap w hN h hA ok (by omega)
  · have hv : validL n L = false := by simpa using hv
    have HV := Lib.hid (validR_bad (cap := cap) hn0 hn1 h hk hL hv)
    obtain ⟨M, hM⟩ : ∃ M, M = L.length := ⟨_, rfl⟩
    rw [← hM] at HV ⊢
    clear h hk hv hM hL
    go_enter Try.func5, Try.ntmps5
    go_wp2_with (first
      | (go_at_call 16; refine (HV.out _ ((Ext.refl _).alloc _)).mono ?_; rintro e w1 ⟨rfl, x1⟩; have X1 := ((Ext.refl w).alloc _).trans x1)
      | (go_at_call 12; refine (awake_any _).mono ?_; rintro e w7 ⟨rfl, x7⟩))
    go_ret
    exact ⟨rfl, X1.trans x7⟩
end Go.Proofs.Ytjjcjoedgmfalaa.Tp
