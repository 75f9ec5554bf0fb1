/- Packed texts: FixPost, TopLong, TopLongR, TopLawB -/
import Derived.Test.YtjjcjoedgmfalaaPt01
import Derived.ProofKit
import Derived.Test.YtjjcjoedgmfalaaPt09
import Derived.StillTailTactics
import Derived.IntWalk
import Derived.BigQuiet
set_option linter.unusedVariables false
set_option linter.unusedSimpArgs false
/- From a walk that leaves all old memory as it was to what a row asks behind the call. -/
namespace Go.Proofs.Ytjjcjoedgmfalaa.Fx
open Go.ChangeShapes Go.WideShapes Go.ChangeAt Go.RowKit
section
variable {H : Type} {enc : TypeId × Value → H} {P : Program}
theorem post_ext {f : Func} {s : ChangeSpec} {apart fresh handsOn again : Bool} {W W' : World} {args : Array Value} {v : Value} {ds gs : List (DataW H)} {places pa pv : List MemPlace}
    (hW : DataW.Whole enc P f.params.toList s.vars apart W args.toList ds gs places)
    (results : ∀ (b : Nat) (sp : Nat → Bool) (hd : Bool), DataW.TrodAll enc P W' b sp hd f.resultTypes.toList (v.resultList f.resultTypes.size) (s.fn H (ds ++ gs)).results [])
    (arguments : ∀ sp : Nat → Bool, (∀ x ∈ places, sp x.block = true) → DataW.TrodAll enc P W' 0 sp true f.params.toList args.toList (s.fn H (ds ++ gs)).args pa)
    (variables : ∀ sp : Nat → Bool, (∀ x ∈ places, sp x.block = true) → DataW.TrodVars enc P W' sp s.vars (s.fn H (ds ++ gs)).vars pv)
    (split : places = pa ++ pv) (ext : Ext W W')
    (ok : ∀ (j : Nat) (t : TypeId) (r : Value), f.resultTypes[j]? = some t → (v.resultList f.resultTypes.size)[j]? = some r → Value.okWide P W' .any 0 t r) :
    s.post enc P f apart fresh handsOn again W args v W' := by
  subst split
  have low : ∀ x ∈ pa ++ pv, x.block < W.heap.size := fun x hx => hW.lt x hx
  have mark : ∀ x ∈ pa ++ pv, (fun b => decide (b < W.heap.size)) x.block = true := fun x hx => decide_eq_true (low x hx)
  have whole := hW
  obtain ⟨_, _, _, _, _, cold, once⟩ := hW
  refine ⟨ds, gs, pa ++ pv, [], pa, pv, whole, results _ _ _, arguments _ mark, variables _ mark, World.keptBut_mono (fun x hx => ⟨hx, by simpa using hx⟩) (Below.frame ext (· ∈ pa ++ pv)), fun _ => ⟨ok, _, _, [] ++ pa ++ pv, ⟨[] ++ pa, pv, trodAll_append (arguments _ fun _ _ => rfl) (results _ _ _), variables _ fun _ _ => rfl, rfl, fun b off hb => ?_, fun ha => ?_⟩, fun x hx _ => ?_⟩⟩
  · have at' : MemPlace.cell b off ∈ pa ++ pv := by simpa using hb
    rw [Below.frozen ext (low _ at')]
    exact cold b off at'
  · have := once ha; simpa using this
  · simpa using hx
end
end Go.Proofs.Ytjjcjoedgmfalaa.Fx

/- topo.Longest. -/
namespace Go.Proofs.Ytjjcjoedgmfalaa.Tp
open Go.RowKit Go.Sort Go.Lib Fx

def LstZ (e : Ending) (w' : World) (L : List Int) (b : Bool) : Prop := ∃ a c, e = .returned (.tuple #[.slice a L.length c, .bool b]) ∧ IntIn w' a L
def lngL (N : Nat) (A : Arcs) : List Int := if (ordT N A).length < N then [] else longP N A (ordT N A)
theorem wrap_sum {x : Int} (h0 : 0 ≤ x) (h1 : x ≤ 1000000) : IntKind.i64.wrap (x + 1) = x + 1 := IntWalk.i64_in _ (by omega)
theorem blk_in {w : World} {b : Nat} {L : List Int} (h : BlkI w b L) : IntIn w (some ⟨b, 0, none⟩) L := fun j hj => ⟨b, 0, rfl, by rw [Nat.zero_add]; exact h.cell hj⟩
theorem longT_len {N : Nat} {A : Arcs} : (ordT N A).length ≤ N := nodup_len (ordT_inv N A).1.nodup (ordT_inv N A).1.lt
set_option maxHeartbeats 4000000 in
set_option maxRecDepth 100000 in
theorem long_any (N : Nat) (a : Option Addr) (A : Arcs) (cap : Nat) (w : World) (hN : N ≤ 64) (h : ArcIn w a (zarc A)) (hA : A.length ≤ 256) (ok : Ok N A) :
    Calls Try.prog 20 #[.agg #[.int .i64 N, .slice a A.length cap]] w fun e w' => LstZ e w' (lngL N A) (ordB N A) ∧ Ext w w' := by
  have hord := fun w1 (x : Ext w w1) => order_any N a A cap w1 hN (h.ext x) hA ok
  have hhd := fun w1 (x : Ext w w1) => heads_any N a A cap w1 hN (h.ext x) hA ok
  have hlen := longT_len (N := N) (A := A)
  obtain ⟨M, hM⟩ : ∃ M, M = A.length := ⟨_, rfl⟩
  rw [← hM] at hord hhd ⊢
  have HM := Lib.hid hM; have HA := Lib.hid hA; have HH := Lib.hid hhd; have HOK := Lib.hid ok
  clear hM hA hhd ok h
  by_cases hlt : (ordT N A).length < N
  · have e1 : ordL N A = [] := by unfold ordL; rw [if_pos hlt]
    have e2 : ordB N A = false := by unfold ordB; rw [decide_eq_true hlt]; rfl
    have e3 : lngL N A = [] := by unfold lngL; rw [if_pos hlt]
    rw [e1, e2] at hord
    rw [e3, e2]
    have HO := Lib.hid hord
    clear hord e1 e2 e3 hlt hlen
    go_enter Try.func20, Try.ntmps20
    go_wp2_with (go_at_call 17; refine (HO.out _ ((Ext.refl _).alloc _)).mono ?_; rintro e w1 ⟨⟨o1, c1, rfl, -⟩, x1⟩; have X1 := ((Ext.refl w).alloc _).trans x1)
    go_ret2
    exact ⟨⟨_, _, rfl, IntIn.nil _ _⟩, X1⟩
  · have e1 : ordL N A = ordT N A := by unfold ordL; rw [if_neg hlt]
    have e2 : ordB N A = true := by unfold ordB; rw [decide_eq_false hlt]; rfl
    have e3 : lngL N A = longP N A (ordT N A) := by unfold lngL; rw [if_neg hlt]
    rw [e1, e2] at hord
    rw [e3, e2]
    have holt := (ordT_inv N A).1.lt
    obtain ⟨o, ho⟩ : ∃ o, o = ordT N A := ⟨_, rfl⟩
    rw [← ho] at hord holt hlen hlt ⊢
    have hoN : o.length = N := by omega
    unfold LstB at hord
    rw [hoN] at hord
    have HO := Lib.hid hord; have HL := Lib.hid holt; have HON := Lib.hid hoN
    have hm1 := run_make_row' (P := Try.prog) 26 3 (.int .i64 0) 8 Try.underlying26 info_int rfl .i64 .i64 N (by omega) (by omega)
    clear hord e1 e2 e3 hlt hlen holt ho hoN
    go_enter Try.func20, Try.ntmps20
    go_wp2_with (first
      | (go_at_call 17; refine (HO.out _ ((Ext.refl _).alloc _)).mono ?_; rintro e w1 ⟨⟨oa, oc, rfl, hoi⟩, x1⟩; have X1 := ((Ext.refl w).alloc _).trans x1; have b1 := box_at x1; have b10 := b1.1; have b11 := b1.2; clear b1)
      | (go_at_call 23; refine (HH.out _ X1).mono ?_; rintro e w2 ⟨nb, rfl, hnx, hnb, x2⟩; have b20 := x2.cell b10; have b21 := x2.cell b11; have X2 := X1.trans x2; have hoi2 := hoi.ext x2))
    have HNX := Lib.hid hnx; have HOI := Lib.hid hoi2
    clear hm1 b20 b21 b10 b11 hnx hoi2 hoi HO HH hnb x1 x2
    go_loopw [26] (fun i' wr => ∃ k : Nat, k ≤ N ∧ i' = .int .i64 k ∧ Hid (BlkI wr w2.heap.size ((o.take k).foldl (pushL A) (List.replicate N 0))) ∧ Hid (Ext w2 wr)) (fun i' _ => N - (RowKit.intOf i').toNat)
    case atStart => exact ⟨0, Nat.zero_le _, rfl, Lib.hid (BlkI.made w2 N), Lib.hid ((Ext.refl _).alloc _)⟩
    case round =>
      obtain ⟨k, hk, rfl, hb, hx⟩ := hrel
      have hbd : Bd (0 + (o.take k).length * A.length) ((o.take k).foldl (pushL A) (List.replicate N 0)) := longP_bd A (o.take k) (Bd.zero N)
      have hdl : ((o.take k).foldl (pushL A) (List.replicate N 0)).length = N := by rw [longP_len]; simp
      by_cases hkN : k < N
      · have hko : k < o.length := by rw [HON.out]; exact hkN
        obtain ⟨og, oo, rfl, q0⟩ := (HOI.out.ext hx.out) k (by rw [zl_len]; exact hko)
        rw [zl_at _ _ hko] at q0
        have hvN := HL.out _ (List.getElem_mem hko)
        have hstep : (o.take (k + 1)).foldl (pushL A) (List.replicate N 0) = pushL A ((o.take k).foldl (pushL A) (List.replicate N 0)) o[k] := by rw [List.take_succ_eq_append_getElem hko, List.foldl_append]; rfl
        have hb64 : Bd (64 * 256) ((o.take k).foldl (pushL A) (List.replicate N 0)) := hbd.mono (by
          have h1 : (o.take k).length ≤ 64 := by rw [List.length_take]; omega
          have := Nat.mul_le_mul h1 HA.out
          omega)
        obtain ⟨v, hv⟩ : ∃ v, v = o[k] := ⟨_, rfl⟩
        obtain ⟨d, hd⟩ : ∃ d, d = (o.take k).foldl (pushL A) (List.replicate N 0) := ⟨_, rfl⟩
        rw [← hv] at q0 hvN hstep
        rw [← hd] at hstep hb64 hb hdl
        obtain ⟨ra, rc, q1', hrow, hrb⟩ := HNX.out v hvN
        have q1 := hx.out.cell q1'
        have hol := outs_len_le A v
        have hou := fun j (hj : j < (outs A v).length) => outs_lt HOK.out (v := v) hj
        have hpl : pushL A d v = (outs A v).foldl (pushS v) d := rfl
        rw [hpl] at hstep
        obtain ⟨R, hR⟩ : ∃ R, R = outs A v := ⟨_, rfl⟩
        rw [← hR] at hstep q1 hrow hol hou
        obtain ⟨rn, hrn⟩ : ∃ rn, rn = R.length := ⟨_, rfl⟩
        rw [← hrn] at q1 hol
        have HST := Lib.hid hstep; have HROW := Lib.hid hrow; have HOU := Lib.hid hou; have HRN := Lib.hid hrn; have HB64 := Lib.hid hb64; have HDL := Lib.hid hdl
        have hol2 : rn ≤ 256 := Nat.le_trans hol HA.out
        clear hv hd hR hstep hrow hou hrn hb64 hdl q1' hrb hbd hpl hol
        obtain ⟨wo, hwo⟩ : ∃ wo : World, wo = wr := ⟨_, rfl⟩
        subst hwo
        go_wp2
        clear q0 q1
        go_loopw [35] (fun i' wr => ∃ j : Nat, j ≤ rn ∧ i' = .int .i64 j ∧ Hid (BlkI wr w2.heap.size ((R.take j).foldl (pushS v) d)) ∧ Hid (Ext w2 wr)) (fun i' _ => rn - (RowKit.intOf i').toNat)
        case atStart => exact ⟨0, Nat.zero_le _, rfl, hb, hx⟩
        case round =>
          obtain ⟨j, hj, rfl, hb2, hx2⟩ := hrel
          by_cases hjr : j < rn
          · have hjR : j < R.length := by rw [← HRN.out]; exact hjr
            obtain ⟨rg, ro, rfl, q0⟩ := (HROW.out.ext hx2.out) j (by rw [zl_len]; exact hjR)
            rw [zl_at _ _ hjR] at q0
            have huN := HOU.out j hjR
            have hstep2 : (R.take (j + 1)).foldl (pushS v) d = pushS v ((R.take j).foldl (pushS v) d) R[j] := by rw [List.take_succ_eq_append_getElem hjR, List.foldl_append]; rfl
            have hbd2 : Bd (64 * 256 + 256) ((R.take j).foldl (pushS v) d) := (pushL_bd v (R.take j) HB64.out).mono (by rw [List.length_take]; omega)
            have hl2 : ((R.take j).foldl (pushS v) d).length = N := by rw [pushF_len, HDL.out]
            obtain ⟨u, hu⟩ : ∃ u, u = R[j] := ⟨_, rfl⟩
            obtain ⟨d2, hd2⟩ : ∃ d2, d2 = (R.take j).foldl (pushS v) d := ⟨_, rfl⟩
            rw [← hu] at q0 huN hstep2
            rw [← hd2] at hstep2 hbd2 hb2 hl2
            have c1 := hb2.out.cellD (j := u) (by rw [hl2]; exact huN)
            have c2 := hb2.out.cellD (j := v) (by rw [hl2]; exact hvN)
            have f1 := hb2.out.frozen u
            have hv0 := hbd2 v
            have hset := hb2.out.set u (max (d2.getD u 0) (d2.getD v 0 + 1))
            have hps : pushS v d2 u = d2.set u (max (d2.getD u 0) (d2.getD v 0 + 1)) := rfl
            rw [hps] at hstep2
            obtain ⟨x, hxx⟩ : ∃ x, x = d2.getD u 0 := ⟨_, rfl⟩
            obtain ⟨y, hyy⟩ : ∃ y, y = d2.getD v 0 := ⟨_, rfl⟩
            rw [← hxx] at c1 hset hstep2
            rw [← hyy] at c2 hset hstep2 hv0
            have hy0 : 0 ≤ y := hv0.1
            have hy1 : y ≤ 16640 := by have := hv0.2; omega
            have hws := wrap_sum hy0 (by omega)
            have b0 : (0 : Int) ≤ (v : Int) := by omega
            have b1 : (v : Int) < (N : Int) := by omega
            have b2 : (0 : Int) ≤ (u : Int) := by omega
            have b3 : (u : Int) < (N : Int) := by omega
            have HS2 := Lib.hid hstep2; have HSET := Lib.hid hset
            have HE : Hid (Ext w2 (wr.setCell ⟨w2.heap.size, u, none⟩ (.int .i64 (max x (y + 1))))) := Lib.hid (hx2.out.setCell (Nat.le_refl _) _)
            clear hu hd2 hxx hyy hstep2 hset hbd2 hl2 hv0 hps
            go_wp2_with fail
            go_still_tail 13, (by kernel_rfl)
            go_wp2
            go_roundw
            case rel => exact ⟨j + 1, by omega, by go_num, Lib.hid (by rw [HS2.out]; exact HSET.out.ext ((Ext.refl _).drew)), Lib.hid (HE.out.drew)⟩
            case measure => simp [RowKit.intOf]; omega
          · have hjn : R.take j = R := List.take_of_length_le (by rw [← HRN.out]; omega)
            rw [hjn] at hb2
            clear hjn
            go_wp2
            go_roundw
            case rel => exact ⟨k + 1, by omega, by go_num, Lib.hid (by rw [HST.out]; exact hb2.out), hx2⟩
            case measure => simp [RowKit.intOf]; omega
      · have hkn : o.take k = o := List.take_of_length_le (by rw [HON.out]; omega)
        rw [hkn] at hb hdl
        have hb2 : Hid (BlkI wr w2.heap.size (longP N A o)) := hb
        have hlp : Hid ((longP N A o).length = N) := Lib.hid hdl
        clear hkn hb hbd hdl
        go_wp2
        go_ret2
        exact ⟨⟨_, _, by rw [hlp.out]; rfl, blk_in hb2.out⟩, X2.trans hx.out⟩
end Go.Proofs.Ytjjcjoedgmfalaa.Tp

/- The document's Longest. -/
namespace Go.Proofs.Ytjjcjoedgmfalaa.Tp
open Go.RowKit Go.Sort Go.Lib Fx

def lngR (N : Nat) (A : Arcs) : List Int := if (ordT N A).length < N then [] else longR N A (ordT N A)
theorem lng_same {N : Nat} {A : Arcs} (ok : Ok N A) : lngL N A = lngR N A := by
  unfold lngL lngR
  by_cases h : (ordT N A).length < N
  · rw [if_pos h, if_pos h]
  · rw [if_neg h, if_neg h, long_same ok (ordT N A) (ordT_inv N A).1 (by have := longT_len (N := N) (A := A); omega)]
theorem nat_neq {u v : Nat} (h : u ≠ v) : ((u : Int) == (v : Int)) = false := (neq_facts (x := (u : Int)) (k := (v : Int)) (by omega)).1
set_option maxHeartbeats 4000000 in
set_option maxRecDepth 100000 in
theorem longR_any (N : Nat) (a : Option Addr) (A : Arcs) (cap : Nat) (w : World) (hN : N ≤ 64) (h : ArcIn w a (zarc A)) (hA : A.length ≤ 256) (ok : Ok N A) :
    Calls Try.prog 21 #[.agg #[.int .i64 N, .slice a A.length cap]] w fun e w' => LstZ e w' (lngR N A) (ordB N A) ∧ Ext w w' := by
  have hord := fun w1 (x : Ext w w1) => orderR_any N a A cap w1 hN (h.ext x) hA ok
  have hlen := longT_len (N := N) (A := A)
  have HI := Lib.hid h
  obtain ⟨M, hM⟩ : ∃ M, M = A.length := ⟨_, rfl⟩
  rw [← hM] at hord hA ⊢
  have HM := Lib.hid hM; have HOK := Lib.hid ok
  clear hM ok h
  by_cases hlt : (ordT N A).length < N
  · have e1 : ordL N A = [] := by unfold ordL; rw [if_pos hlt]
    have e2 : ordB N A = false := by unfold ordB; rw [decide_eq_true hlt]; rfl
    have e3 : lngR N A = [] := by unfold lngR; rw [if_pos hlt]
    rw [e1, e2] at hord
    rw [e3, e2]
    have HO := Lib.hid hord
    clear hord e1 e2 e3 hlt hlen
    go_enter Try.func21, Try.ntmps21
    go_wp2_with (go_at_call 19; refine (HO.out _ ((Ext.refl _).alloc _)).mono ?_; rintro e w1 ⟨⟨o1, c1, rfl, -⟩, x1⟩; have X1 := ((Ext.refl w).alloc _).trans x1)
    go_ret2
    exact ⟨⟨_, _, rfl, IntIn.nil _ _⟩, X1⟩
  · have e1 : ordL N A = ordT N A := by unfold ordL; rw [if_neg hlt]
    have e2 : ordB N A = true := by unfold ordB; rw [decide_eq_false hlt]; rfl
    have e3 : lngR N A = longR N A (ordT N A) := by unfold lngR; rw [if_neg hlt]
    rw [e1, e2] at hord
    rw [e3, e2]
    have holt := (ordT_inv N A).1.lt
    obtain ⟨o, ho⟩ : ∃ o, o = ordT N A := ⟨_, rfl⟩
    rw [← ho] at hord holt hlen hlt ⊢
    have hoN : o.length = N := by omega
    unfold LstB at hord
    rw [hoN] at hord
    have HO := Lib.hid hord; have HL := Lib.hid holt; have HON := Lib.hid hoN
    have hm1 := run_make_row' (P := Try.prog) 26 3 (.int .i64 0) 8 Try.underlying26 info_int rfl .i64 .i64 N (by omega) (by omega)
    clear hord e1 e2 e3 hlt hlen holt ho hoN
    go_enter Try.func21, Try.ntmps21
    go_wp2_with (go_at_call 19; refine (HO.out _ ((Ext.refl _).alloc _)).mono ?_; rintro e w1 ⟨⟨oa, oc, rfl, hoi⟩, x1⟩; have X1 := ((Ext.refl w).alloc _).trans x1; have b1 := box_at x1; have b10 := b1.1; have b11 := b1.2; clear b1)
    have HOI := Lib.hid hoi; have B0 := Lib.hid b10; have B1 := Lib.hid b11; have HX1 := Lib.hid X1
    clear hm1 b10 b11 hoi HO x1
    go_loopw [7] (fun i' wr => ∃ k : Nat, k ≤ N ∧ i' = .int .i64 k ∧ Hid (BlkI wr w1.heap.size ((o.take k).foldl (pullL A) (List.replicate N 0))) ∧ Hid (Ext w1 wr)) (fun i' _ => N - (RowKit.intOf i').toNat)
    case atStart => exact ⟨0, Nat.zero_le _, rfl, Lib.hid (BlkI.made w1 N), Lib.hid ((Ext.refl _).alloc _)⟩
    case round =>
      obtain ⟨k, hk, rfl, hb, hx⟩ := hrel
      have hbd : Bd (0 + (o.take k).length * A.length) ((o.take k).foldl (pullL A) (List.replicate N 0)) := longR_bd A (o.take k) (Bd.zero N)
      have hdl : ((o.take k).foldl (pullL A) (List.replicate N 0)).length = N := by rw [longR_len]; simp
      by_cases hkN : k < N
      · have hko : k < o.length := by rw [HON.out]; exact hkN
        obtain ⟨og, oo, rfl, q0'⟩ := HOI.out k (by rw [zl_len]; exact hko)
        rw [zl_at _ _ hko] at q0'
        have hvN := HL.out _ (List.getElem_mem hko)
        have hstep : (o.take (k + 1)).foldl (pullL A) (List.replicate N 0) = pullL A ((o.take k).foldl (pullL A) (List.replicate N 0)) o[k] := by rw [List.take_succ_eq_append_getElem hko, List.foldl_append]; rfl
        have hb64 : Bd (64 * 256) ((o.take k).foldl (pullL A) (List.replicate N 0)) := hbd.mono (by
          have h1 : (o.take k).length ≤ 64 := by rw [List.length_take]; omega
          have h2 : A.length ≤ 256 := by have := HM.out; omega
          have := Nat.mul_le_mul h1 h2
          omega)
        obtain ⟨v, hv⟩ : ∃ v, v = o[k] := ⟨_, rfl⟩
        obtain ⟨d, hd⟩ : ∃ d, d = (o.take k).foldl (pullL A) (List.replicate N 0) := ⟨_, rfl⟩
        rw [← hv] at q0' hvN hstep
        rw [← hd] at hstep hb64 hb hdl
        have hpl : pullL A d v = A.foldl (pullS v) d := rfl
        rw [hpl] at hstep
        have HST := Lib.hid hstep; have HB64 := Lib.hid hb64; have HDL := Lib.hid hdl; have HQ := Lib.hid q0'
        clear hv hd hstep hb64 hdl q0' hbd hpl
        obtain ⟨wo, hwo⟩ : ∃ wo : World, wo = wr := ⟨_, rfl⟩
        subst hwo
        go_wp2
        go_loopw [8] (fun i' wr => ∃ j : Nat, j ≤ M ∧ i' = .int .i64 j ∧ Hid (BlkI wr w1.heap.size ((A.take j).foldl (pullS v) d)) ∧ Hid (Ext w1 wr)) (fun i' _ => M - (RowKit.intOf i').toNat)
        case atStart => exact ⟨0, Nat.zero_le _, rfl, hb, hx⟩
        case round =>
          obtain ⟨j, hj, rfl, hb2, hx2⟩ := hrel
          have b10 := hx2.out.cell B0.out; have b11 := hx2.out.cell B1.out
          have q0 := hx2.out.cell HQ.out
          by_cases hjr : j < M
          · have hjR : j < A.length := by rw [← HM.out]; exact hjr
            obtain ⟨g, o', rfl, d0, d1⟩ := (HI.out.ext (HX1.out.trans hx2.out)) j (by rw [zarc_len]; exact hjR)
            rw [zarc_at A j hjR] at d0 d1
            have hok := HOK.out _ (List.getElem_mem hjR)
            have hstep2 : (A.take (j + 1)).foldl (pullS v) d = pullS v ((A.take j).foldl (pullS v) d) A[j] := by rw [List.take_succ_eq_append_getElem hjR, List.foldl_append]; rfl
            have hbd2 : Bd (64 * 256 + 256) ((A.take j).foldl (pullS v) d) := (pullL_bd v (A.take j) HB64.out).mono (by rw [List.length_take]; omega)
            have hl2 : ((A.take j).foldl (pullS v) d).length = N := by rw [pullF_len, HDL.out]
            unfold pullS at hstep2
            obtain ⟨u, hu⟩ : ∃ u, u = A[j].1 := ⟨_, rfl⟩
            obtain ⟨t, ht⟩ : ∃ t, t = A[j].2 := ⟨_, rfl⟩
            obtain ⟨d2, hd2⟩ : ∃ d2, d2 = (A.take j).foldl (pullS v) d := ⟨_, rfl⟩
            rw [← hu] at d0 hok hstep2
            rw [← ht] at d1 hok hstep2
            rw [show (A.take j).foldl (fun d p => if p.2 = v then d.set v (max (d.getD v 0) (d.getD p.1 0 + 1)) else d) d = d2 from hd2.symm] at hstep2
            rw [← hd2] at hbd2 hb2 hl2
            have hbase : (A.take (j + 1)).foldl (fun d p => if p.2 = v then d.set v (max (d.getD v 0) (d.getD p.1 0 + 1)) else d) d = (A.take (j + 1)).foldl (pullS v) d := rfl
            rw [hbase] at hstep2
            clear hu ht hd2 hbase
            by_cases htv : t = v
            · subst htv
              rw [if_pos rfl] at hstep2
              have f0 := (eq_facts (x := (t : Int)) (k := (t : Int)) rfl).1
              go_wp2_with fail
              go_quiet (fail)
              go_wp2_with fail
              have x9 : Ext wr (wr.drewN nq) := (Ext.refl _).drewN nq
              obtain ⟨w9, hw9⟩ : ∃ w9, w9 = wr.drewN nq := ⟨_, rfl⟩
              rw [← hw9] at x9 ⊢
              have b19 := x9.cell b10; have b119 := x9.cell b11; have q9 := x9.cell q0; have d09 := x9.cell d0; have d19 := x9.cell d1
              have hb9 := hb2.out.ext x9
              have c1 := hb9.cellD (j := t) (by rw [hl2]; exact hvN)
              have c2 := hb9.cellD (j := u) (by rw [hl2]; exact hok.1)
              have f1 := hb9.frozen t
              have hv0 := hbd2 u
              have hset := hb9.set t (max (d2.getD t 0) (d2.getD u 0 + 1))
              obtain ⟨x, hxx⟩ : ∃ x, x = d2.getD t 0 := ⟨_, rfl⟩
              obtain ⟨y, hyy⟩ : ∃ y, y = d2.getD u 0 := ⟨_, rfl⟩
              rw [← hxx] at c1 hset hstep2
              rw [← hyy] at c2 hset hstep2 hv0
              have hy0 : 0 ≤ y := hv0.1
              have hy1 : y ≤ 16640 := by have := hv0.2; omega
              have b0 : (0 : Int) ≤ (t : Int) := by omega
              have b1 : (t : Int) < (N : Int) := by omega
              have b2 : (0 : Int) ≤ (u : Int) := by omega
              have b3 : (u : Int) < (N : Int) := by omega
              have hws := wrap_sum hy0 (by omega)
              have HS2 := Lib.hid hstep2; have HSET := Lib.hid hset
              have HE : Hid (Ext w1 (w9.setCell ⟨w1.heap.size, t, none⟩ (.int .i64 (max x (y + 1))))) := Lib.hid ((hx2.out.trans x9).setCell (Nat.le_refl _) _)
              clear hxx hyy hstep2 hset hbd2 hl2 hv0 hb9 x9 hw9 b10 b11 q0 d0 d1 f0
              go_still_tail 24, (by kernel_rfl)
              go_wp2
              go_roundw
              case rel => exact ⟨j + 1, by omega, by go_num, Lib.hid (by rw [HS2.out]; exact HSET.out.ext ((Ext.refl _).drew)), Lib.hid (HE.out.drew)⟩
              case measure => simp [RowKit.intOf]; omega
            · rw [if_neg htv] at hstep2
              have f0 := nat_neq htv
              have HS2 := Lib.hid hstep2
              clear hstep2 htv hbd2 hl2
              go_wp2_with fail
              go_quiet (fail)
              go_wp2
              go_roundw
              case rel => exact ⟨j + 1, by omega, by go_num, Lib.hid (by rw [HS2.out]; first | exact hb2.out | exact hb2.out.ext ((Ext.refl _).drew) | exact hb2.out.ext ((Ext.refl _).drewN _)), by first | exact hx2 | exact Lib.hid (hx2.out.drew) | exact Lib.hid (hx2.out.drewN _)⟩
              case measure => simp [RowKit.intOf]; omega
          · have hjn : A.take j = A := List.take_of_length_le (by rw [← HM.out]; omega)
            rw [hjn] at hb2
            clear hjn
            go_wp2
            go_roundw
            case rel => exact ⟨k + 1, by omega, by go_num, Lib.hid (by rw [HST.out]; exact hb2.out), hx2⟩
            case measure => simp [RowKit.intOf]; omega
      · have hkn : o.take k = o := List.take_of_length_le (by rw [HON.out]; omega)
        rw [hkn] at hb hdl
        have hb2 : Hid (BlkI wr w1.heap.size (longR N A o)) := hb
        have hlp : Hid ((longR N A o).length = N) := Lib.hid hdl
        clear hkn hb hbd hdl
        go_wp2
        go_ret2
        exact ⟨⟨_, _, by rw [hlp.out]; rfl, blk_in hb2.out⟩, HX1.out.trans hx.out⟩
end Go.Proofs.Ytjjcjoedgmfalaa.Tp

/- The law of Order and Longest, walked. -/
namespace Go.Proofs.Ytjjcjoedgmfalaa.Tp
open Go.RowKit Go.Sort Go.Lib Fx

section
variable {n : Int} {a : Option Addr} {L : ArcZ} {cap : Nat} {w : World}
set_option maxHeartbeats 1000000 in
theorem long_bad (hn0 : -9223372036854775808 ≤ n) (hn1 : n ≤ 9223372036854775807) (h : ArcIn w a L) (hk : ArcOk L) (hL : L.length ≤ 9223372036854775807) (hv : validL n L = false) :
    Calls Try.prog 20 #[.agg #[.int .i64 n, .slice a L.length cap]] w fun e w' => e = .returned (.tuple #[.slice none 0 0, .bool false]) ∧ Ext w w' := by
  have HV := Lib.hid (fun w1 (x : Ext w w1) => order_bad (cap := cap) hn0 hn1 (h.ext x) hk hL hv)
  obtain ⟨M, hM⟩ : ∃ M, M = L.length := ⟨_, rfl⟩
  rw [← hM] at HV ⊢
  clear h hk hv hM hL
  go_enter Try.func20, Try.ntmps20
  go_wp2_with (go_at_call 17; refine (HV.out _ ((Ext.refl _).alloc _)).mono ?_; rintro e w1 ⟨rfl, x1⟩; have X1 := ((Ext.refl w).alloc _).trans x1)
  go_ret2
  exact ⟨rfl, X1⟩
set_option maxHeartbeats 1000000 in
theorem longR_bad (hn0 : -9223372036854775808 ≤ n) (hn1 : n ≤ 9223372036854775807) (h : ArcIn w a L) (hk : ArcOk L) (hL : L.length ≤ 9223372036854775807) (hv : validL n L = false) :
    Calls Try.prog 21 #[.agg #[.int .i64 n, .slice a L.length cap]] w fun e w' => e = .returned (.tuple #[.slice none 0 0, .bool false]) ∧ Ext w w' := by
  have HV := Lib.hid (fun w1 (x : Ext w w1) => orderR_bad (cap := cap) hn0 hn1 (h.ext x) hk hL hv)
  obtain ⟨M, hM⟩ : ∃ M, M = L.length := ⟨_, rfl⟩
  rw [← hM] at HV ⊢
  clear h hk hv hM hL
  go_enter Try.func21, Try.ntmps21
  go_wp2_with (go_at_call 19; refine (HV.out _ ((Ext.refl _).alloc _)).mono ?_; rintro e w1 ⟨rfl, x1⟩; have X1 := ((Ext.refl w).alloc _).trans x1)
  go_ret2
  exact ⟨rfl, X1⟩
theorem lngL_len {N : Nat} {A : Arcs} : (lngL N A).length ≤ N := by
  unfold lngL longP; split
  · exact Nat.zero_le _
  · rw [longP_len]; simp
theorem ordL_len {N : Nat} {A : Arcs} : (ordL N A).length ≤ N := by
  unfold ordL; split
  · exact Nat.zero_le _
  · exact longT_len
/-- What the four functions hand back. -/
theorem ord_all (hn0 : -9223372036854775808 ≤ n) (hn1 : n ≤ 9223372036854775807) (h : ArcIn w a L) (hk : ArcOk L) (hL : L.length ≤ 9223372036854775807) :
    ∃ (R D : List Int) (b : Bool), R.length ≤ 64 ∧ D.length ≤ 64 ∧
      (∀ w1, Ext w w1 → Calls Try.prog 17 #[.agg #[.int .i64 n, .slice a L.length cap]] w1 fun e w' => ∃ p c, e = .returned (.tuple #[.slice p R.length c, .bool b]) ∧ IntIn w' p R ∧ Ext w1 w') ∧
      (∀ w1, Ext w w1 → Calls Try.prog 19 #[.agg #[.int .i64 n, .slice a L.length cap]] w1 fun e w' => ∃ p c, e = .returned (.tuple #[.slice p R.length c, .bool b]) ∧ IntIn w' p R ∧ Ext w1 w') ∧
      (∀ w1, Ext w w1 → Calls Try.prog 20 #[.agg #[.int .i64 n, .slice a L.length cap]] w1 fun e w' => ∃ p c, e = .returned (.tuple #[.slice p D.length c, .bool b]) ∧ IntIn w' p D ∧ Ext w1 w') ∧
      (∀ w1, Ext w w1 → Calls Try.prog 21 #[.agg #[.int .i64 n, .slice a L.length cap]] w1 fun e w' => ∃ p c, e = .returned (.tuple #[.slice p D.length c, .bool b]) ∧ IntIn w' p D ∧ Ext w1 w') := by
  by_cases hv : validL n L = true
  · obtain ⟨N, A, rfl, hN, hz, hA, ok⟩ := valid_nat hv
    have hz : L = zarc A := hz
    subst hz
    have l1 := ordL_len (N := N) (A := A)
    have l2 := lngL_len (N := N) (A := A)
    refine ⟨zl (ordL N A), lngL N A, ordB N A, by rw [zl_len]; omega, by omega, fun w1 x => ?_, fun w1 x => ?_, fun w1 x => ?_, fun w1 x => ?_⟩
    · rw [zarc_len, zl_len]
      refine (order_any N a A cap w1 hN (h.ext x) hA ok).mono ?_
      rintro e w' ⟨⟨p, c, rfl, hi⟩, y⟩
      exact ⟨p, c, rfl, hi, y⟩
    · rw [zarc_len, zl_len]
      refine (orderR_any N a A cap w1 hN (h.ext x) hA ok).mono ?_
      rintro e w' ⟨⟨p, c, rfl, hi⟩, y⟩
      exact ⟨p, c, rfl, hi, y⟩
    · rw [zarc_len]
      refine (long_any N a A cap w1 hN (h.ext x) hA ok).mono ?_
      rintro e w' ⟨⟨p, c, rfl, hi⟩, y⟩
      exact ⟨p, c, rfl, hi, y⟩
    · rw [zarc_len, lng_same ok]
      refine (longR_any N a A cap w1 hN (h.ext x) hA ok).mono ?_
      rintro e w' ⟨⟨p, c, rfl, hi⟩, y⟩
      exact ⟨p, c, rfl, hi, y⟩
  · have hv : validL n L = false := by simpa using hv
    refine ⟨[], [], false, Nat.zero_le _, Nat.zero_le _, fun w1 x => (order_bad hn0 hn1 (h.ext x) hk hL hv).mono ?_, fun w1 x => (orderR_bad hn0 hn1 (h.ext x) hk hL hv).mono ?_, fun w1 x => (long_bad hn0 hn1 (h.ext x) hk hL hv).mono ?_, fun w1 x => (longR_bad hn0 hn1 (h.ext x) hk hL hv).mono ?_⟩ <;>
      (rintro e w' ⟨rfl, y⟩; exact ⟨_, _, rfl, IntIn.nil _ _, y⟩)
end
set_option maxHeartbeats 4000000 in
theorem least_walk (g : Value) (w : World) (hg : DigArg w g) :
    Calls Try.prog 7 #[g] w fun e w' => e = .returned (.bool true) ∧ Ext w w' := by
  obtain ⟨n, a, L, cap, rfl, hn0, hn1, h, hk, hL⟩ := hg
  obtain ⟨R, D, b, hR, hD, h1, h2, h3, h4⟩ := ord_all (cap := cap) hn0 hn1 h hk hL
  obtain ⟨M, hM⟩ : ∃ M, M = L.length := ⟨_, rfl⟩
  obtain ⟨K, hK⟩ : ∃ K, K = R.length := ⟨_, rfl⟩
  obtain ⟨J, hJ⟩ : ∃ J, J = D.length := ⟨_, rfl⟩
  rw [← hM, ← hK] at h1 h2
  rw [← hM, ← hJ] at h3 h4
  rw [← hM]
  have H1 := Lib.hid h1; have H2 := Lib.hid h2; have H3 := Lib.hid h3; have H4 := Lib.hid h4; have HR := Lib.hid hR; have HK := Lib.hid hK; have HD := Lib.hid hD; have HJ := Lib.hid hJ
  clear h hk hL hM h1 h2 h3 h4 hR hK hD hJ
  cases b <;> (
    go_enter Try.func7, Try.ntmps7
    go_wp2_with (first
      | (go_at_call 17; refine (H1.out _ ((Ext.refl _).alloc _)).mono ?_; rintro e w1 ⟨q1, k1, rfl, i1, x1⟩; have b1 := box_at x1; have b10 := b1.1; have b11 := b1.2; have Y1 := ((Ext.refl w).alloc _).trans x1; clear b1)
      | (go_at_call 19; refine (H2.out _ Y1).mono ?_; rintro e w2 ⟨q2, k2, rfl, i2, x2⟩; have b20 := x2.cell b10; have b21 := x2.cell b11; have Y2 := Y1.trans x2)
      | (go_at_call 20; refine (H3.out _ Y2).mono ?_; rintro e w3 ⟨q3, k3, rfl, i3, x3⟩; have b30 := x3.cell b20; have b31 := x3.cell b21; have Y3 := Y2.trans x3)
      | (go_at_call 21; refine (H4.out _ Y3).mono ?_; rintro e w4 ⟨q4, k4, rfl, i4, x4⟩; have b40 := x4.cell b30; have b41 := x4.cell b31; have Y4 := Y3.trans x4)
      | (have Y5' := Y5; go_at_call 9; refine (same_eq HJ.out HD.out ((i3.ext x4).ext x5) (i4.ext x5)).mono ?_; rintro e w6 ⟨rfl, x6⟩; have Y6 := Y5.trans x6)
      | (go_at_call 9; refine (same_eq HK.out HR.out (((i1.ext x2).ext x3).ext x4) ((i2.ext x3).ext x4)).mono ?_; rintro e w5 ⟨rfl, x5⟩; have Y5 := Y4.trans x5)
      | (go_at_call 12; refine (awake_any _).mono ?_; rintro e w7 ⟨rfl, x7⟩))
    go_ret
    exact ⟨rfl, Y6.trans x7⟩)
end Go.Proofs.Ytjjcjoedgmfalaa.Tp
