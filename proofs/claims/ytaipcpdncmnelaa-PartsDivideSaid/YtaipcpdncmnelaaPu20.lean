/- Packed texts: PrtBriR, PrtCutR, PrtBadR, TopStr -/
import Derived.Test.YtaipcpdncmnelaaPu18
import Derived.Test.YtaipcpdncmnelaaPu04
import Derived.BigQuiet
import Derived.Test.YtaipcpdncmnelaaPu19
import Derived.Test.YtaipcpdncmnelaaPu01
set_option linter.unusedVariables false
set_option linter.unusedSimpArgs false
/- The document's Bridges, as bridgesR computes them. -/
namespace Go.Proofs.Ytaipcpdncmnelaa.Pt
open Go.RowKit Go.Sort Go.Lib Fx Tp

/-- The ends of an edge have different labels without it. -/
def brQ (N : Nat) (A : Arcs) (i : Nat) : Bool := (labT N A i (-1)).getD (arcN A i).1 0 != (labT N A i (-1)).getD (arcN A i).2 0
def brRK (N : Nat) (A : Arcs) (k : Nat) : List Nat := (List.range k).filter (brQ N A)
/-- The document's Bridges. -/
def bridgesR (N : Nat) (A : Arcs) : List Nat := brRK N A A.length
theorem brRK_succ (N : Nat) (A : Arcs) (k : Nat) : brRK N A (k + 1) = brRK N A k ++ (if brQ N A k = true then [k] else []) := range_filter' _ k
theorem brRK_len (N : Nat) (A : Arcs) (k : Nat) : (brRK N A k).length ≤ k := Nat.le_trans (List.length_filter_le _ _) (by simp)

set_option maxHeartbeats 8000000 in
set_option maxRecDepth 100000 in
theorem bridgesR_any (N : Nat) (a : Option Addr) (A : Arcs) (cap : Nat) (w : World) (hN : N ≤ 64) (h : ArcIn w a (zarc A)) (hA : A.length ≤ 256) (ok : Ok N A) :
    Calls Try.prog 17 #[.agg #[.int .i64 N, .slice a A.length cap]] w fun e w' => (∃ b c, e = .returned (.slice b (bridgesR N A).length c) ∧ IntIn w' b (zl (bridgesR N A))) ∧ Ext w w' := by
  have hval := fun w1 (x : Ext w w1) => validR_any N a (zarc A) cap w1 (by omega) (by omega) (h.ext x) (zarc_ok hN ok) (by rw [zarc_len]; omega)
  rw [valid_ok hN hA ok, zarc_len] at hval
  have hlab := fun (i : Nat) (hi : i < A.length) w1 (x : Ext w w1) => labels_any N a A cap i (-1) w1 hN (h.ext x) hA ok (by omega) (by omega)
  have hbr : bridgesR N A = brRK N A A.length := rfl
  obtain ⟨M, hM⟩ : ∃ M, M = A.length := ⟨_, rfl⟩
  rw [← hM] at hA hval hlab hbr ⊢
  obtain ⟨i0, hi, hz0, hz1, hz2⟩ := info_parts info_int
  have HV := Lib.hid hval; have HL := Lib.hid hlab; have HI := Lib.hid h; have HM := Lib.hid hM; have HOK := Lib.hid ok; have HBR := Lib.hid hbr
  clear h hM hval hlab ok hbr
  go_enter Try.func17, Try.ntmps17
  go_wp2_with (go_at_call 24; refine (HV.out _ (((Ext.refl _).alloc _).alloc _)).mono ?_; rintro e w1 ⟨rfl, x1⟩)
  obtain ⟨wb, hwb⟩ : ∃ wb, wb = w.alloc (.cells #[.int .i64 N, .slice a M cap] 24) := ⟨_, rfl⟩
  have X0 : Hid (Ext (w.alloc (.cells #[.int .i64 N, .slice a M cap] 24)) wb) := Lib.hid (by rw [hwb]; exact Ext.refl _)
  have hws : Hid (wb.heap.size = w.heap.size + 1) := Lib.hid (by rw [hwb]; simp)
  rw [← hwb] at x1
  clear hwb
  have hown0 : Hid (w1.ownsRow wb.heap.size 3 1 (.slice (some ⟨w.heap.size + 1, 0, none⟩) 0 0) 0 (iv [])) := Lib.hid (own_ext' (by rw [← hws.out]; exact World.ownsRow_lit wb #[] 0 (Nat.le_refl _) (by unfold maxLen; omega) rfl) x1)
  have y1 : Hid (Ext wb w1) := Lib.hid (((Ext.refl _).alloc _).trans x1)
  clear x1
  go_loopw [3, 4] (fun o' i' wr => ∃ (k : Nat) (sl : Value), k ≤ M ∧ sl = o' ∧ i' = .int .i64 k ∧ Hid (wr.ownsRow wb.heap.size 3 1 sl (brRK N A k).length (iv (zl (brRK N A k)))) ∧ Ext wb wr) (fun _ i' _ => M - (RowKit.intOf i').toNat)
  case atStart => exact ⟨0, _, Nat.zero_le _, rfl, rfl, hown0, y1.out⟩
  case round =>
    clear hown0
    obtain ⟨k, sl, hk, rfl, rfl, hown, hx⟩ := hrel
    obtain ⟨b10, b11⟩ := box_two (X0.out.trans hx)
    by_cases hlt : k < M
    · have hkA : k < A.length := by rw [← HM.out]; exact hlt
      have hst := brRK_succ N A k
      have hlen := brRK_len N A k
      obtain ⟨R, hR⟩ : ∃ R, R = brRK N A k := ⟨_, rfl⟩
      rw [← hR] at hown hst hlen
      have hak : arcN A k = A[k] := by unfold arcN; rw [List.getD_eq_getElem?_getD, List.getElem?_eq_getElem hkA]; rfl
      have hok := HOK.out _ (List.getElem_mem hkA)
      have XW : Hid (Ext w wr) := Lib.hid ((((Ext.refl _).alloc _).trans X0.out).trans hx)
      go_wp2_with (go_at_call 33; refine (HL.out k hlt _ XW.out).mono ?_; rintro e w2 ⟨⟨wa, wcap, rfl, hin2, -⟩, x2⟩)
      have hx2 := hx.trans x2
      have hown2 := Lib.hid (own_ext' hown.out x2)
      obtain ⟨g, o, rfl, d0, d1⟩ := (HI.out.ext (XW.out.trans x2)) k (by rw [zarc_len]; exact hkA)
      obtain ⟨c10, c11⟩ := box_two (X0.out.trans hx2)
      rw [zarc_at A k hkA] at d0 d1
      obtain ⟨x, hxe⟩ : ∃ x, x = A[k].1 := ⟨_, rfl⟩
      obtain ⟨y, hye⟩ : ∃ x, x = A[k].2 := ⟨_, rfl⟩
      rw [← hxe] at d0 hok; rw [← hye] at d1 hok
      have hlw : (labT N A k (-1)).length = N := labT_len _ _ _ _
      obtain ⟨W, hW⟩ : ∃ W, W = labT N A k (-1) := ⟨_, rfl⟩
      rw [← hW] at hlw hin2
      have HBQ : Hid (brQ N A k = (W.getD x 0 != W.getD y 0)) := Lib.hid (by unfold brQ; rw [hak, ← hW, hxe, hye])
      obtain ⟨gw, ow, rfl, cw⟩ := hin2 x (by rw [hlw]; exact hok.1)
      obtain ⟨gw2, ow2, ha, cv⟩ := hin2 y (by rw [hlw]; exact hok.2)
      cases ha
      have hwp : W[x]'(by rw [hlw]; exact hok.1) = W.getD x 0 := by rw [List.getD_eq_getElem?_getD, List.getElem?_eq_getElem (by rw [hlw]; exact hok.1)]; rfl
      have hwq : W[y]'(by rw [hlw]; exact hok.2) = W.getD y 0 := by rw [List.getD_eq_getElem?_getD, List.getElem?_eq_getElem (by rw [hlw]; exact hok.2)]; rfl
      rw [hwp] at cw; rw [hwq] at cv
      obtain ⟨p, hp⟩ : ∃ z, z = W.getD x 0 := ⟨_, rfl⟩
      obtain ⟨q, hq⟩ : ∃ x, x = W.getD y 0 := ⟨_, rfl⟩
      rw [← hp] at cw HBQ; rw [← hq] at cv HBQ
      have b0 : (0 : Int) ≤ (k : Int) := by omega
      have b1 : (k : Int) < (M : Int) := by omega
      have b2 : (0 : Int) ≤ (x : Int) := by omega
      have b3 : (x : Int) < (N : Int) := by omega
      have b4 : (0 : Int) ≤ (y : Int) := by omega
      have b5 : (y : Int) < (N : Int) := by omega
      have HST := Lib.hid hst
      clear hwp hwq hin2 hW hlw hak hxe hye hp hq hst hR b10 b11 hown hx x2
      by_cases hpq : p = q
      · obtain ⟨f1, f2⟩ := eq_facts hpq
        have hE : Hid (brRK N A (k + 1) = R) := Lib.hid (by rw [HST.out, HBQ.out, f2]; simp)
        clear hpq
        go_wp2_with fail
        go_quiet (fail)
        go_wp2
        go_roundw
        case rel => exact ⟨k + 1, _, by omega, rfl, by go_num, by rw [hE.out]; exact Lib.hid (own_ext' hown2.out (by first | exact (Ext.refl _).drewN _ | exact (Ext.refl _).drew)), by first | exact hx2.drewN _ | exact hx2.drew⟩
        case measure => simp [RowKit.intOf]; omega
      · obtain ⟨f1, f2⟩ := neq_facts hpq
        have hE : Hid (brRK N A (k + 1) = R ++ [k]) := Lib.hid (by rw [HST.out, HBQ.out, f2]; rfl)
        clear hpq
        go_wp2_with fail
        go_quiet (fail)
        have x9 : Ext w2 (w2.drewN nq) := (Ext.refl _).drewN _
        obtain ⟨wt, hwt⟩ : ∃ wt, wt = w2.drewN nq := ⟨_, rfl⟩
        rw [← hwt] at x9 ⊢
        clear hwt
        have hown9 := Lib.hid (own_ext' hown2.out x9)
        have hy9 := hx2.trans x9
        obtain ⟨rl, hrl⟩ : ∃ rl, rl = R.length := ⟨_, rfl⟩
        have HRL := Lib.hid hrl
        rw [← hrl] at hown9 hlen
        clear hown2 hx2 x9 hrl
        go_wp2_with (at_builtin; refine wpList_append_lies _ rfl _ _ 31 rfl wb.heap.size 3 i0 _ 1 8 Try.underlying31 hi hz0 hz1 hz2 rfl (by decide) _ _ _ rfl (hown9.out.alloc _) ⟨wt.heap.size, 0, none⟩ 1 1 [.int .i64 k] rfl rfl ?c1 ?c2 (by decide) ?c3 ?c4 ?c5 _ rfl ?_)
        case c1 => exact new_cells' _ [_] _ _ rfl
        case c2 => simp [Value.oneCell']
        case c3 => unfold maxLen; omega
        case c4 => omega
        case c5 => have := hy9.size; simp; omega
        intro gg cc w3 hown3 hgrow3 _ _
        have hx3 : Ext wb w3 := Below.grown (hy9.alloc _) hgrow3 (by have := hy9.size; simp; omega) (fun q hq => by have := (hown9.out.lt q hq).1; omega)
        have hown4 : Hid (w3.ownsRow wb.heap.size 3 1 (.slice (some ⟨gg, 0, none⟩) (rl + 1) cc) (R ++ [k]).length (iv (zl (R ++ [k])))) := Lib.hid (by rw [zl_app, iv_app, List.length_append, ← HRL.out]; exact hown3)
        clear hown3 hgrow3
        go_wp2
        go_roundw
        case rel => exact ⟨k + 1, _, by omega, rfl, by go_num, by rw [hE.out]; exact hown4, hx3⟩
        case measure => simp [RowKit.intOf]; omega
    · have hkM : k = M := by omega
      rw [hkM, ← HBR.out] at hown
      clear hkM
      obtain ⟨pa, pc, rfl, hpi, -⟩ := own_ints hown.out (by rw [zl_len])
      rw [zl_len]
      go_wp2
      go_ret
      exact ⟨⟨_, _, rfl, hpi⟩, (((Ext.refl _).alloc _).trans X0.out).trans hx⟩
end Go.Proofs.Ytaipcpdncmnelaa.Pt

/- The document's Cuts, as cutsR computes them. -/
namespace Go.Proofs.Ytaipcpdncmnelaa.Pt
open Go.RowKit Go.Sort Go.Lib Fx Tp

/-- Two vertices are joined (labels W), and are not without v (labels L). -/
def cutP (W L : List Int) (v a b : Nat) : Bool := decide (a ≠ v) && (decide (b ≠ v) && ((W.getD a 0 == W.getD b 0) && (L.getD a 0 != L.getD b 0)))
def cutB (W L : List Int) (v a n : Nat) : Bool := (List.range n).any (cutP W L v a)
def cutA (W L : List Int) (v n : Nat) : Bool := (List.range n).any (fun a => cutB W L v a a)
theorem cutB_succ (W L : List Int) (v a n : Nat) : cutB W L v a (n + 1) = (cutB W L v a n || cutP W L v a n) := by unfold cutB; rw [List.range_succ, List.any_append]; simp
theorem cutA_succ (W L : List Int) (v n : Nat) : cutA W L v (n + 1) = (cutA W L v n || cutB W L v n n) := by unfold cutA; rw [List.range_succ, List.any_append]; simp
def cutQ (N : Nat) (A : Arcs) (v : Nat) : Bool := cutA (labT N A (-1) (-1)) (labT N A (-1) v) v N
def cutRK (N : Nat) (A : Arcs) (k : Nat) : List Nat := (List.range k).filter (cutQ N A)
/-- The document's Cuts. -/
def cutsR (N : Nat) (A : Arcs) : List Nat := cutRK N A N
theorem cutRK_succ (N : Nat) (A : Arcs) (k : Nat) : cutRK N A (k + 1) = cutRK N A k ++ (if cutQ N A k = true then [k] else []) := range_filter' _ k
theorem cutRK_len (N : Nat) (A : Arcs) (k : Nat) : (cutRK N A k).length ≤ k := Nat.le_trans (List.length_filter_le _ _) (by simp)
theorem int_neq {u v : Nat} (h : u ≠ v) : (u : Int) ≠ (v : Int) := by omega

set_option maxHeartbeats 16000000 in
set_option maxRecDepth 100000 in
theorem cutsR_any (N : Nat) (a : Option Addr) (A : Arcs) (cap : Nat) (w : World) (hN : N ≤ 64) (h : ArcIn w a (zarc A)) (hA : A.length ≤ 256) (ok : Ok N A) :
    Calls Try.prog 19 #[.agg #[.int .i64 N, .slice a A.length cap]] w fun e w' => (∃ b c, e = .returned (.slice b (cutsR N A).length c) ∧ IntIn w' b (zl (cutsR N A))) ∧ Ext w w' := by
  have hval := fun w1 (x : Ext w w1) => validR_any N a (zarc A) cap w1 (by omega) (by omega) (h.ext x) (zarc_ok hN ok) (by rw [zarc_len]; omega)
  rw [valid_ok hN hA ok, zarc_len] at hval
  have hlab0 := fun w1 (x : Ext w w1) => labels_any N a A cap (-1) (-1) w1 hN (h.ext x) hA ok (by omega) (by omega)
  have hlab := fun (v : Nat) (hv : v < N) w1 (x : Ext w w1) => labels_any N a A cap (-1) v w1 hN (h.ext x) hA ok (by omega) (by omega)
  obtain ⟨M, hM⟩ : ∃ M, M = A.length := ⟨_, rfl⟩
  rw [← hM] at hA hval hlab hlab0 ⊢
  obtain ⟨i0, hi, hz0, hz1, hz2⟩ := info_parts info_int
  have HV := Lib.hid hval; have HL := Lib.hid hlab; have HL0 := Lib.hid hlab0
  clear h hM hval hlab hlab0 ok
  go_enter Try.func19, Try.ntmps19
  go_wp2_with (first
    | (go_at_call 33; refine (HL0.out _ ((((Ext.refl _).alloc _).alloc _).trans x1)).mono ?_; rintro e w2 ⟨⟨wa, wcap, rfl, hin2, hwg⟩, x2⟩)
    | (go_at_call 24; refine (HV.out _ (((Ext.refl _).alloc _).alloc _)).mono ?_; rintro e w1 ⟨rfl, x1⟩; have b1 := box_two (((Ext.refl _).alloc _).trans x1); have b10 := b1.1; have b11 := b1.2))
  obtain ⟨wb, hwb⟩ : ∃ wb, wb = w.alloc (.cells #[.int .i64 N, .slice a M cap] 24) := ⟨_, rfl⟩
  have X0 : Hid (Ext (w.alloc (.cells #[.int .i64 N, .slice a M cap] 24)) wb) := Lib.hid (by rw [hwb]; exact Ext.refl _)
  have hws : Hid (wb.heap.size = w.heap.size + 1) := Lib.hid (by rw [hwb]; simp)
  have XB : Hid (Ext w wb) := Lib.hid (((Ext.refl _).alloc _).trans X0.out)
  rw [← hwb] at x1
  clear hwb b1 b10 b11
  have ys : Hid (w.heap.size + 2 ≤ w1.heap.size ∧ w1.heap.size ≤ w2.heap.size) := Lib.hid ⟨by have h1 := x1.size; have h2 := hws.out; simp at h1; omega, x2.size⟩
  have hown0 : Hid (w2.ownsRow wb.heap.size 3 1 (.slice (some ⟨w.heap.size + 1, 0, none⟩) 0 0) 0 (iv [])) := Lib.hid (own_ext' (by rw [← hws.out]; exact World.ownsRow_lit wb #[] 0 (Nat.le_refl _) (by unfold maxLen; omega) rfl) (x1.trans x2))
  have y2 : Hid (Ext wb w2) := Lib.hid ((((Ext.refl _).alloc _).trans x1).trans x2)
  have HWG : Hid (∀ g o, wa = some ⟨g, o, none⟩ → ¬ g = w.heap.size + 1) := Lib.hid (fun g o e e2 => by have := (hwg g o e).1; have := ys.out.1; omega)
  have HLW : Hid ((labT N A (-1) (-1)).length = N) := Lib.hid (labT_len _ _ _ _)
  obtain ⟨W, hW⟩ : ∃ W, W = labT N A (-1) (-1) := ⟨_, rfl⟩
  rw [← hW] at hin2 HLW
  have HIN := Lib.hid hin2; have HW := Lib.hid hW
  clear x1 x2 hin2 hwg hW
  go_loopw [3, 5] (fun o' v' wr => ∃ (v : Nat) (sl : Value), v ≤ N ∧ sl = o' ∧ v' = .int .i64 v ∧ Hid (wr.ownsRow wb.heap.size 3 1 sl (cutRK N A v).length (iv (zl (cutRK N A v)))) ∧ Hid (Keep (· = w.heap.size + 1) w2 wr) ∧ Hid (∀ g, OB sl g → g = w.heap.size + 1 ∨ w2.heap.size ≤ g) ∧ Ext wb wr) (fun _ v' _ => N - (RowKit.intOf v').toNat)
  case atStart => exact ⟨0, _, Nat.zero_le _, rfl, rfl, hown0, Lib.hid (Keep.refl _ _), Lib.hid (fun g e => .inl (by simpa [Value.ownBlock] using e.symm)), y2.out⟩
  case round =>
    clear hown0
    obtain ⟨v, sl, hv, rfl, rfl, hown, hkp, hob, hx⟩ := hrel
    obtain ⟨b10, b11⟩ := box_two (X0.out.trans hx)
    by_cases hlt : v < N
    · have hst := cutRK_succ N A v
      have hlen := cutRK_len N A v
      obtain ⟨R, hR⟩ : ∃ R, R = cutRK N A v := ⟨_, rfl⟩
      rw [← hR] at hown hst hlen
      go_wp2_with (go_at_call 33; refine (HL.out v hlt _ (XB.out.trans hx)).mono ?_; rintro e w3 ⟨⟨la, lcap, rfl, hin3, -⟩, x3⟩)
      have hx3 := Lib.hid (hx.trans x3)
      have hown3 := Lib.hid (own_ext' hown.out x3)
      have hkp3 := Lib.hid (hkp.out.ext x3)
      have HLL : Hid ((labT N A (-1) v).length = N) := Lib.hid (labT_len _ _ _ _)
      obtain ⟨L, hL⟩ : ∃ L, L = labT N A (-1) v := ⟨_, rfl⟩
      rw [← hL] at hin3 HLL
      have HQ : Hid (cutQ N A v = cutA W L v N) := Lib.hid (by unfold cutQ; rw [← HW.out, ← hL])
      have HIL := Lib.hid hin3
      have HIW := Lib.hid (intIn_keep HIN.out hkp3.out HWG.out)
      have HST := Lib.hid hst
      clear hown hkp hx b10 b11 hin3 hL x3 hst hR
      go_loopw [7, 8] (fun c' a' wr => ∃ n : Nat, n ≤ N ∧ c' = .bool (cutA W L v n) ∧ a' = .int .i64 n ∧ Ext w3 wr) (fun _ a' _ => N - (RowKit.intOf a').toNat)
      case atStart => exact ⟨0, Nat.zero_le _, rfl, rfl, Ext.refl _⟩
      case round =>
        obtain ⟨n, hn, rfl, rfl, hy⟩ := hrel
        obtain ⟨b10, b11⟩ := box_two ((X0.out.trans hx3.out).trans hy)
        by_cases hln : n < N
        · have hsa := cutA_succ W L v n
          obtain ⟨ca, hca⟩ : ∃ c, c = cutA W L v n := ⟨_, rfl⟩
          rw [← hca] at hsa ⊢
          have HSA := Lib.hid hsa
          clear hsa hca
          go_wp2
          go_loopw [7, 9] (fun c' b' wr => ∃ m : Nat, m ≤ n ∧ c' = .bool (ca || cutB W L v n m) ∧ b' = .int .i64 m ∧ Ext w3 wr) (fun _ b' _ => n - (RowKit.intOf b').toNat)
          case atStart => exact ⟨0, Nat.zero_le _, by simp [cutB], rfl, hy⟩
          case round =>
            clear b10 b11 hy
            obtain ⟨m, hm, rfl, rfl, hy⟩ := hrel
            by_cases hlm : m < n
            · have hsb := cutB_succ W L v n m
              have hgo : (ca || cutB W L v n (m + 1)) = ((ca || cutB W L v n m) || cutP W L v n m) := by rw [hsb, Bool.or_assoc]
              obtain ⟨cc, hcc⟩ : ∃ c, c = (ca || cutB W L v n m) := ⟨_, rfl⟩
              rw [← hcc] at hgo ⊢
              have HGO := Lib.hid hgo
              clear hsb hgo hcc
              obtain ⟨g, o, rfl, w0⟩ := (HIW.out.ext hy) n (by rw [HLW.out]; exact hln)
              obtain ⟨g2, o2, ha, w1'⟩ := (HIW.out.ext hy) m (by rw [HLW.out]; omega)
              cases ha
              obtain ⟨g3, o3, rfl, l0⟩ := (HIL.out.ext hy) n (by rw [HLL.out]; exact hln)
              obtain ⟨g4, o4, ha, l1⟩ := (HIL.out.ext hy) m (by rw [HLL.out]; omega)
              cases ha
              have e0 : W[n]'(by rw [HLW.out]; exact hln) = W.getD n 0 := by rw [List.getD_eq_getElem?_getD, List.getElem?_eq_getElem (by rw [HLW.out]; exact hln)]; rfl
              have e1 : W[m]'(by rw [HLW.out]; omega) = W.getD m 0 := by rw [List.getD_eq_getElem?_getD, List.getElem?_eq_getElem (by rw [HLW.out]; omega)]; rfl
              have e2 : L[n]'(by rw [HLL.out]; exact hln) = L.getD n 0 := by rw [List.getD_eq_getElem?_getD, List.getElem?_eq_getElem (by rw [HLL.out]; exact hln)]; rfl
              have e3 : L[m]'(by rw [HLL.out]; omega) = L.getD m 0 := by rw [List.getD_eq_getElem?_getD, List.getElem?_eq_getElem (by rw [HLL.out]; omega)]; rfl
              rw [e0] at w0; rw [e1] at w1'; rw [e2] at l0; rw [e3] at l1
              have HP : Hid (cutP W L v n m = (decide (n ≠ v) && (decide (m ≠ v) && ((W.getD n 0 == W.getD m 0) && (L.getD n 0 != L.getD m 0))))) := Lib.hid rfl
              obtain ⟨p0, hp0⟩ : ∃ z, z = W.getD n 0 := ⟨_, rfl⟩
              obtain ⟨p1, hp1⟩ : ∃ z, z = W.getD m 0 := ⟨_, rfl⟩
              obtain ⟨q0, hq0⟩ : ∃ z, z = L.getD n 0 := ⟨_, rfl⟩
              obtain ⟨q1, hq1⟩ : ∃ z, z = L.getD m 0 := ⟨_, rfl⟩
              rw [← hp0] at w0 HP; rw [← hp1] at w1' HP; rw [← hq0] at l0 HP; rw [← hq1] at l1 HP
              have b0 : (0 : Int) ≤ (n : Int) := by omega
              have b1 : (n : Int) < (N : Int) := by omega
              have b2 : (0 : Int) ≤ (m : Int) := by omega
              have b3 : (m : Int) < (N : Int) := by omega
              clear e0 e1 e2 e3 hp0 hp1 hq0 hq1
              cases cc with
              | true =>
                have hE : Hid ((ca || cutB W L v n (m + 1)) = true) := Lib.hid (by rw [HGO.out]; rfl)
                go_wp2_with fail
                go_quiet (fail)
                go_wp2
                go_roundw
                case rel => exact ⟨m + 1, by omega, by rw [hE.out], by go_num, by first | exact hy.drewN _ | exact hy.drew⟩
                case measure => simp [RowKit.intOf]; omega
              | false =>
                by_cases c1 : n = v
                · have hE : Hid ((ca || cutB W L v n (m + 1)) = false) := Lib.hid (by rw [HGO.out, HP.out, decide_eq_false (fun h => h c1)]; rfl)
                  obtain ⟨f1, f2⟩ := eq_facts (x := (n : Int)) (k := (v : Int)) (by omega)
                  clear c1
                  go_wp2_with fail
                  go_quiet (fail)
                  go_wp2
                  go_roundw
                  case rel => exact ⟨m + 1, by omega, by rw [hE.out], by go_num, by first | exact hy.drewN _ | exact hy.drew⟩
                  case measure => simp [RowKit.intOf]; omega
                · obtain ⟨f1, f2⟩ := neq_facts (int_neq c1)
                  have d1 : decide (n ≠ v) = true := decide_eq_true c1
                  clear c1
                  by_cases c2 : m = v
                  · have hE : Hid ((ca || cutB W L v n (m + 1)) = false) := Lib.hid (by rw [HGO.out, HP.out, decide_eq_false (p := m ≠ v) (fun h => h c2)]; simp)
                    obtain ⟨g1, g2⟩ := eq_facts (x := (m : Int)) (k := (v : Int)) (by omega)
                    clear c2 d1
                    go_wp2_with fail
                    go_quiet (fail)
                    go_wp2
                    go_roundw
                    case rel => exact ⟨m + 1, by omega, by rw [hE.out], by go_num, by first | exact hy.drewN _ | exact hy.drew⟩
                    case measure => simp [RowKit.intOf]; omega
                  · obtain ⟨g1, g2⟩ := neq_facts (int_neq c2)
                    have hE : Hid ((ca || cutB W L v n (m + 1)) = ((p0 == p1) && (q0 != q1))) := Lib.hid (by rw [HGO.out, HP.out, d1, decide_eq_true (p := m ≠ v) c2]; rfl)
                    clear c2 d1
                    by_cases c3 : p0 = p1
                    · obtain ⟨h1, h2⟩ := eq_facts c3
                      by_cases c4 : q0 = q1
                      · obtain ⟨k1, k2⟩ := eq_facts c4
                        have hE2 : Hid ((ca || cutB W L v n (m + 1)) = false) := Lib.hid (by rw [hE.out, h1, k2]; rfl)
                        clear c3 c4 hE
                        go_wp2_with fail
                        go_quiet (fail)
                        go_wp2
                        go_roundw
                        case rel => exact ⟨m + 1, by omega, by rw [hE2.out], by go_num, by first | exact hy.drewN _ | exact hy.drew⟩
                        case measure => simp [RowKit.intOf]; omega
                      · obtain ⟨k1, k2⟩ := neq_facts c4
                        have hE2 : Hid ((ca || cutB W L v n (m + 1)) = true) := Lib.hid (by rw [hE.out, h1, k2]; rfl)
                        clear c3 c4 hE
                        go_wp2_with fail
                        go_quiet (fail)
                        go_wp2
                        go_roundw
                        case rel => exact ⟨m + 1, by omega, by rw [hE2.out], by go_num, by first | exact hy.drewN _ | exact hy.drew⟩
                        case measure => simp [RowKit.intOf]; omega
                    · obtain ⟨h1, h2⟩ := neq_facts c3
                      have hE2 : Hid ((ca || cutB W L v n (m + 1)) = false) := Lib.hid (by rw [hE.out, h1]; rfl)
                      clear c3 hE
                      go_wp2_with fail
                      go_quiet (fail)
                      go_wp2
                      go_roundw
                      case rel => exact ⟨m + 1, by omega, by rw [hE2.out], by go_num, by first | exact hy.drewN _ | exact hy.drew⟩
                      case measure => simp [RowKit.intOf]; omega
            · have hmn : m = n := by omega
              have hE : Hid ((ca || cutB W L v n m) = cutA W L v (n + 1)) := Lib.hid (by rw [HSA.out, hmn])
              clear hmn
              go_wp2
              go_roundw
              case rel => exact ⟨n + 1, by omega, by rw [hE.out], by go_num, hy⟩
              case measure => simp [RowKit.intOf]; omega
        · have hnN : n = N := by omega
          have hown4 := Lib.hid (own_ext' hown3.out hy)
          have hkp4 := Lib.hid (hkp3.out.ext hy)
          have hx4 := hx3.out.trans hy
          by_cases hc : cutA W L v n = true
          · have hE : Hid (cutRK N A (v + 1) = R ++ [v]) := Lib.hid (by rw [HST.out, HQ.out, ← hnN, if_pos hc])
            rw [hc]
            obtain ⟨rl, hrl⟩ : ∃ rl, rl = R.length := ⟨_, rfl⟩
            have HRL := Lib.hid hrl
            rw [← hrl] at hown4 hlen
            clear hc hnN hown3 hkp3 hx3 hrl
            go_wp2_with (at_builtin; refine wpList_append_lies _ rfl _ _ 31 rfl wb.heap.size 3 i0 _ 1 8 Try.underlying31 hi hz0 hz1 hz2 rfl (by decide) _ _ _ rfl (hown4.out.alloc _) ⟨wr.heap.size, 0, none⟩ 1 1 [.int .i64 v] rfl rfl ?c1 ?c2 (by decide) ?c3 ?c4 ?c5 _ rfl ?_)
            case c1 => exact new_cells' _ [_] _ _ rfl
            case c2 => simp [Value.oneCell']
            case c3 => unfold maxLen; omega
            case c4 => omega
            case c5 => have := hx4.size; simp; omega
            intro gg cc w5 hown5 hgrow5 hat5 _
            have hx5 : Ext wb w5 := Below.grown (hx4.alloc _) hgrow5 (by have := hx4.size; simp; omega) (fun q hq => by have := (hown4.out.lt q hq).1; omega)
            have hkp5 : Hid (Keep (· = w.heap.size + 1) w2 w5) := Lib.hid ((hkp4.out.alloc _).grown hgrow5 (fun q hq hlt => (hob.out q hq).resolve_right (by omega)))
            have hob5 : Hid (∀ g, OB (.slice (some ⟨gg, 0, none⟩) (rl + 1) cc) g → g = w.heap.size + 1 ∨ w2.heap.size ≤ g) := Lib.hid (fun g e => by
              have e : gg = g := by simpa [OB, Value.ownBlock] using e
              subst e
              rcases hat5 with h1 | h1
              · exact hob.out _ h1
              · right; have := hkp4.out.size; rw [h1]; simp; omega)
            have hown6 : Hid (w5.ownsRow wb.heap.size 3 1 (.slice (some ⟨gg, 0, none⟩) (rl + 1) cc) (R ++ [v]).length (iv (zl (R ++ [v])))) := Lib.hid (by rw [zl_app, iv_app, List.length_append, ← HRL.out]; exact hown5)
            clear hown5 hgrow5 hat5
            go_wp2
            go_roundw
            case rel => exact ⟨v + 1, _, by omega, rfl, by go_num, by rw [hE.out]; exact hown6, hkp5, hob5, hx5⟩
            case measure => simp [RowKit.intOf]; omega
          · have hE : Hid (cutRK N A (v + 1) = R) := Lib.hid (by rw [HST.out, HQ.out, ← hnN, if_neg hc, List.append_nil])
            have hcf : cutA W L v n = false := by simpa using hc
            rw [hcf]
            clear hc hcf hnN hown3 hkp3 hx3
            go_wp2
            go_roundw
            case rel => exact ⟨v + 1, _, by omega, rfl, by go_num, by rw [hE.out]; exact hown4, hkp4, hob, hx4⟩
            case measure => simp [RowKit.intOf]; omega
    · have hvN : v = N := by omega
      rw [hvN] at hown
      have hown : Hid (wr.ownsRow wb.heap.size 3 1 sl (cutsR N A).length (iv (zl (cutsR N A)))) := hown
      clear hvN
      obtain ⟨pa, pc, rfl, hpi, -⟩ := own_ints hown.out (by rw [zl_len])
      rw [zl_len]
      go_wp2
      go_ret
      exact ⟨⟨_, _, rfl, hpi⟩, XB.out.trans hx⟩
end Go.Proofs.Ytaipcpdncmnelaa.Pt

/- The document's Blocks, Bridges, Cuts and Biconnected of digraphs that are not valid; Biconnected. -/
namespace Go.Proofs.Ytaipcpdncmnelaa.Pt
open Go.RowKit Go.Sort Go.Lib Fx Tp

set_option maxHeartbeats 4000000 in
theorem blocksR_bad (n : Int) (a : Option Addr) (L : ArcZ) (cap : Nat) (w : World) (hn0 : -9223372036854775808 ≤ n) (hn1 : n ≤ 9223372036854775807) (h : ArcIn w a L) (hk : ArcOk L) (hL : L.length ≤ 9223372036854775807) (hv : validL n L = false) :
    Calls Try.prog 23 #[.agg #[.int .i64 n, .slice a L.length cap]] w fun e w' => e = .returned (.slice none 0 0) ∧ Ext w w' := by
  have hval := fun w1 (x : Ext w w1) => validR_any n a L cap w1 hn0 hn1 (h.ext x) hk hL
  rw [hv] at hval
  obtain ⟨M, hM⟩ : ∃ M, M = L.length := ⟨_, rfl⟩
  rw [← hM] at hL hval ⊢
  have HV := Lib.hid hval
  clear h hM hval hk hv
  go_enter Try.func23, Try.ntmps23
  go_wp2_with (go_at_call 24; refine (HV.out _ ((Ext.refl _).alloc _)).mono ?_; rintro e w1 ⟨rfl, x1⟩)
  go_ret
  exact ⟨rfl, ((Ext.refl _).alloc _).trans x1⟩
set_option maxHeartbeats 4000000 in
theorem bridgesR_bad (n : Int) (a : Option Addr) (L : ArcZ) (cap : Nat) (w : World) (hn0 : -9223372036854775808 ≤ n) (hn1 : n ≤ 9223372036854775807) (h : ArcIn w a L) (hk : ArcOk L) (hL : L.length ≤ 9223372036854775807) (hv : validL n L = false) :
    Calls Try.prog 17 #[.agg #[.int .i64 n, .slice a L.length cap]] w fun e w' => (∃ b c, e = .returned (.slice b 0 c)) ∧ Ext w w' := by
  have hval := fun w1 (x : Ext w w1) => validR_any n a L cap w1 hn0 hn1 (h.ext x) hk hL
  rw [hv] at hval
  obtain ⟨M, hM⟩ : ∃ M, M = L.length := ⟨_, rfl⟩
  rw [← hM] at hL hval ⊢
  have HV := Lib.hid hval
  clear h hM hval hk hv
  go_enter Try.func17, Try.ntmps17
  go_wp2_with (go_at_call 24; refine (HV.out _ (((Ext.refl _).alloc _).alloc _)).mono ?_; rintro e w1 ⟨rfl, x1⟩)
  go_ret
  exact ⟨⟨_, _, rfl⟩, (((Ext.refl _).alloc _).alloc _).trans x1⟩
set_option maxHeartbeats 4000000 in
theorem cutsR_bad (n : Int) (a : Option Addr) (L : ArcZ) (cap : Nat) (w : World) (hn0 : -9223372036854775808 ≤ n) (hn1 : n ≤ 9223372036854775807) (h : ArcIn w a L) (hk : ArcOk L) (hL : L.length ≤ 9223372036854775807) (hv : validL n L = false) :
    Calls Try.prog 19 #[.agg #[.int .i64 n, .slice a L.length cap]] w fun e w' => (∃ b c, e = .returned (.slice b 0 c)) ∧ Ext w w' := by
  have hval := fun w1 (x : Ext w w1) => validR_any n a L cap w1 hn0 hn1 (h.ext x) hk hL
  rw [hv] at hval
  obtain ⟨M, hM⟩ : ∃ M, M = L.length := ⟨_, rfl⟩
  rw [← hM] at hL hval ⊢
  have HV := Lib.hid hval
  clear h hM hval hk hv
  go_enter Try.func19, Try.ntmps19
  go_wp2_with (go_at_call 24; refine (HV.out _ (((Ext.refl _).alloc _).alloc _)).mono ?_; rintro e w1 ⟨rfl, x1⟩)
  go_ret
  exact ⟨⟨_, _, rfl⟩, (((Ext.refl _).alloc _).alloc _).trans x1⟩
set_option maxHeartbeats 4000000 in
theorem biconR_any (N : Nat) (a : Option Addr) (A : Arcs) (cap : Nat) (w : World) (hN : N ≤ 64) (h : ArcIn w a (zarc A)) (hA : A.length ≤ 256) (ok : Ok N A) :
    Calls Try.prog 21 #[.agg #[.int .i64 N, .slice a A.length cap]] w fun e w' => e = .returned (.bool (((compR N A).length : Int) == 1 && ((cutsR N A).length : Int) == 0)) ∧ Ext w w' := by
  have hc := fun w1 (x : Ext w w1) => connR_any N a A cap w1 hN (h.ext x) hA ok
  have hu := fun w1 (x : Ext w w1) => cutsR_any N a A cap w1 hN (h.ext x) hA ok
  obtain ⟨M, hM⟩ : ∃ M, M = A.length := ⟨_, rfl⟩
  rw [← hM] at hA hc hu ⊢
  obtain ⟨pn, hpn⟩ : ∃ pn, pn = (compR N A).length := ⟨_, rfl⟩
  rw [← hpn] at hc ⊢
  have HC := Lib.hid hc; have HU := Lib.hid hu
  clear h hM hc hu ok hpn
  by_cases hp : (pn : Int) = 1
  · rw [(eq_facts hp).1] at HC ⊢
    clear hp
    go_enter Try.func21, Try.ntmps21
    go_wp2_with (first
      | (go_at_call 14; refine (HC.out _ ((Ext.refl _).alloc _)).mono ?_; rintro e w1 ⟨rfl, x1⟩; have b1 := box_two x1; have b10 := b1.1; have b11 := b1.2)
      | (go_at_call 19; refine (HU.out _ (((Ext.refl _).alloc _).trans x1)).mono ?_; rintro e w2 ⟨⟨cb, cc, rfl, -⟩, x2⟩))
    go_ret
    exact ⟨by rw [Bool.true_and]; rfl, (((Ext.refl _).alloc _).trans x1).trans x2⟩
  · rw [(neq_facts hp).1] at HC ⊢
    clear hp
    go_enter Try.func21, Try.ntmps21
    go_wp2_with (go_at_call 14; refine (HC.out _ ((Ext.refl _).alloc _)).mono ?_; rintro e w1 ⟨rfl, x1⟩; have b1 := box_two x1; have b10 := b1.1; have b11 := b1.2)
    go_ret
    exact ⟨rfl, ((Ext.refl _).alloc _).trans x1⟩
set_option maxHeartbeats 4000000 in
theorem biconR_bad (n : Int) (a : Option Addr) (L : ArcZ) (cap : Nat) (w : World) (hn0 : -9223372036854775808 ≤ n) (hn1 : n ≤ 9223372036854775807) (h : ArcIn w a L) (hk : ArcOk L) (hL : L.length ≤ 9223372036854775807) (hv : validL n L = false) :
    Calls Try.prog 21 #[.agg #[.int .i64 n, .slice a L.length cap]] w fun e w' => e = .returned (.bool false) ∧ Ext w w' := by
  have hc := fun w1 (x : Ext w w1) => connR_bad n a L cap w1 hn0 hn1 (h.ext x) hk hL hv
  obtain ⟨M, hM⟩ : ∃ M, M = L.length := ⟨_, rfl⟩
  rw [← hM] at hL hc ⊢
  have HC := Lib.hid hc
  clear h hM hc hk hv
  go_enter Try.func21, Try.ntmps21
  go_wp2_with (go_at_call 14; refine (HC.out _ ((Ext.refl _).alloc _)).mono ?_; rintro e w1 ⟨rfl, x1⟩)
  go_ret
  exact ⟨rfl, ((Ext.refl _).alloc _).trans x1⟩
end Go.Proofs.Ytaipcpdncmnelaa.Pt

/- Tarjan's algorithm as a relation between plain states, and that what it finds are the strong components; no program in sight. -/
namespace Go.Proofs.Ytaipcpdncmnelaa.Tp

/-- A list's numbers below 64, ascending. -/
def ascN (l : List Nat) : List Nat := (List.range 64).filter (fun x => l.contains x)
theorem mem_ascN {l : List Nat} (h : ∀ x ∈ l, x < 64) {x : Nat} : x ∈ ascN l ↔ x ∈ l := by
  unfold ascN
  rw [List.mem_filter, List.mem_range]
  exact ⟨fun h => by simpa using h.2, fun hx => ⟨h x hx, by simpa using hx⟩⟩
theorem ascN_asc (l : List Nat) : (ascN l).Pairwise (· < ·) := List.Pairwise.filter _ List.pairwise_lt_range
/-- The walk's state. -/
structure St where
  idx : List Nat
  low : List Nat
  on : List Bool
  stk : List Nat
  found : List (List Nat)
  cnt : Nat
def ix (s : St) (u : Nat) : Nat := s.idx.getD u 0
def lo (s : St) (u : Nat) : Nat := s.low.getD u 0
def onS (s : St) (u : Nat) : Bool := s.on.getD u false
def push (v : Nat) (s : St) : St := { idx := s.idx.set v (s.cnt + 1), low := s.low.set v (s.cnt + 1), on := s.on.set v true, stk := s.stk ++ [v], found := s.found, cnt := s.cnt + 1 }
def lowTo (v n : Nat) (s : St) : St := { s with low := s.low.set v (min (lo s v) n) }
def seeOld (v u : Nat) (s : St) : St := if onS s u = true then lowTo v (ix s u) s else s
def off (l : List Nat) (o : List Bool) : List Bool := l.foldl (fun o u => o.set u false) o
def fin (v : Nat) (s : St) : St :=
  if lo s v = ix s v then
    { s with stk := s.stk.take (s.stk.idxOf v), on := off (s.stk.drop (s.stk.idxOf v)) s.on, found := s.found ++ [ascN (s.stk.drop (s.stk.idxOf v))] }
  else s
/-- From the state behind v's entry to the state where the heads us have been seen. -/
inductive Loop (A : Arcs) : Nat → List Nat → St → St → Prop
  | nil (v : Nat) (s : St) : Loop A v [] s s
  | old {v : Nat} {us : List Nat} {s s1 : St} {u : Nat} : Loop A v us s s1 → ix s1 u ≠ 0 → Loop A v (us ++ [u]) s (seeOld v u s1)
  | new {v : Nat} {us : List Nat} {s s1 s2 : St} {u : Nat} : Loop A v us s s1 → ix s1 u = 0 → Loop A u (outs A u) (push u s1) s2 → Loop A v (us ++ [u]) s (lowTo v (lo (fin u s2) u) (fin u s2))

/-- What holds of a state, g being the vertices that are under way. -/
structure Inv (N : Nat) (A : Arcs) (g : List Nat) (s : St) : Prop where
  li : s.idx.length = N
  ll : s.low.length = N
  lb : s.on.length = N
  num : s.cnt + s.idx.count 0 = N
  on_ : ∀ u, onS s u = true ↔ u ∈ s.stk
  lt : ∀ u ∈ s.stk, u < N
  asc : s.stk.Pairwise (fun a b => ix s a < ix s b)
  pos : ∀ u ∈ s.stk, ix s u ≠ 0
  le : ∀ u, ix s u ≤ s.cnt
  seen : ∀ u, ix s u ≠ 0 → u ∈ s.stk ∨ ∃ c ∈ s.found, u ∈ c
  fnd : ∀ c ∈ s.found, ∀ u ∈ c, u < N ∧ ix s u ≠ 0 ∧ u ∉ s.stk
  clo : ∀ c ∈ s.found, ∀ u ∈ c, ∀ w, (u, w) ∈ A → ∃ d ∈ s.found, w ∈ d
  scc : ∀ c ∈ s.found, c.Pairwise (· < ·) ∧ ∃ r, ∀ x, x ∈ c ↔ Path A r x ∧ Path A x r
  dis : s.found.Pairwise (fun a b => ∀ x ∈ a, x ∉ b)
  gr : ∀ u ∈ g, u ∈ s.stk
  blk : ∀ u ∈ s.stk, u ∉ g → ∀ w, (u, w) ∈ A → ix s w ≠ 0
  fwd : ∀ a ∈ s.stk, ∀ b ∈ s.stk, ix s a ≤ ix s b → Path A a b
  back : ∀ y ∈ s.stk, ∃ x ∈ g, ix s x ≤ ix s y ∧ Path A y x
theorem Inv.nodup {N : Nat} {A : Arcs} {g : List Nat} {s : St} (h : Inv N A g s) : s.stk.Nodup :=
  h.asc.imp fun hlt e => by subst e; omega
/-- A path from the found stays in the found. -/
theorem Inv.found_path {N : Nat} {A : Arcs} {g : List Nat} {s : St} (h : Inv N A g s) {u w : Nat} (hu : ∃ c ∈ s.found, u ∈ c) (hp : Path A u w) : ∃ c ∈ s.found, w ∈ c :=
  Path.closed (S := fun x => ∃ c ∈ s.found, x ∈ c) (fun p hp ⟨c, hc, hm⟩ => h.clo c hc p.1 hm p.2 hp) hp hu
theorem ix_push {N : Nat} {v : Nat} {s : St} (hl : s.idx.length = N) (hv : v < N) (u : Nat) : ix (push v s) u = if v = u then s.cnt + 1 else ix s u := by
  unfold ix push
  rw [getD_set]
  by_cases e : v = u
  · rw [if_pos ⟨e, by rw [hl]; exact hv⟩, if_pos e]
  · rw [if_neg (fun x => e x.1), if_neg e]
theorem count_set (l : List Nat) (v n : Nat) (hn : n ≠ 0) (hl : v < l.length) (hz : l.getD v 0 = 0) : (l.set v n).count 0 + 1 = l.count 0 := by
  induction l generalizing v with
  | nil => simp at hl
  | cons a l ih =>
    cases v with
    | zero =>
      have : a = 0 := by simpa using hz
      subst this
      simp [hn]
    | succ v =>
      have := ih v (by simpa using hl) (by simpa using hz)
      simp [List.count_cons]; omega
theorem Inv.push {N : Nat} {A : Arcs} {g : List Nat} {s : St} (h : Inv N A g s) {v : Nat} (hv : v < N) (hz : ix s v = 0) (hp : ∀ y ∈ s.stk, Path A y v) : Inv N A (v :: g) (push v s) := by
  have hix := ix_push (s := s) h.li hv
  have hns : v ∉ s.stk := fun hm => h.pos v hm hz
  have hne : ∀ u ∈ s.stk, v ≠ u := fun u hu e => hns (by rw [e]; exact hu)
  have hold : ∀ u ∈ s.stk, ix (Tp.push v s) u = ix s u := fun u hu => by rw [hix u, if_neg (hne u hu)]
  have hnew : ix (Tp.push v s) v = s.cnt + 1 := by rw [hix v, if_pos rfl]
  have hstk : (Tp.push v s).stk = s.stk ++ [v] := rfl
  have hmem : ∀ u, u ∈ (Tp.push v s).stk ↔ u ∈ s.stk ∨ u = v := fun u => by rw [hstk, List.mem_append, List.mem_singleton]
  refine ⟨by simp [Tp.push, h.li], by simp [Tp.push, h.ll], by simp [Tp.push, h.lb], ?_, fun u => ?_, fun u hu => ?_, ?_, fun u hu => ?_, fun u => ?_, fun u hu => ?_, fun c hc u hu => ?_, h.clo, h.scc, h.dis, fun u hu => ?_, fun u hu hg w hw => ?_, fun a ha b hb hle => ?_, fun y hy => ?_⟩
  · have := count_set s.idx v (s.cnt + 1) (by omega) (by rw [h.li]; exact hv) hz
    have := h.num
    show s.cnt + 1 + (s.idx.set v (s.cnt + 1)).count 0 = N
    omega
  · rw [hmem u]
    show (s.on.set v true).getD u false = true ↔ _
    rw [getD_set]
    by_cases e : v = u
    · subst e; rw [if_pos ⟨rfl, by rw [h.lb]; exact hv⟩]; simp
    · rw [if_neg (fun x => e x.1)]
      have := h.on_ u
      unfold onS at this
      rw [this]
      exact ⟨.inl, fun x => x.elim id (fun y => absurd y.symm e)⟩
  · rcases (hmem u).1 hu with h1 | rfl
    · exact h.lt u h1
    · exact hv
  · rw [hstk, List.pairwise_append]
    refine ⟨?_, List.pairwise_singleton _ _, fun a ha b hb => ?_⟩
    · refine List.Pairwise.imp_of_mem (fun {a b} ha hb hlt => ?_) h.asc
      rw [hold a ha, hold b hb]; exact hlt
    · rw [List.mem_singleton] at hb; subst hb
      rw [hold a ha, hnew]; have := h.le a; omega
  · rcases (hmem u).1 hu with h1 | rfl
    · rw [hold u h1]; exact h.pos u h1
    · rw [hnew]; omega
  · show ix (Tp.push v s) u ≤ s.cnt + 1
    rw [hix u]; have := h.le u; split <;> omega
  · rw [hix u] at hu
    rw [hmem u]
    by_cases e : v = u
    · exact .inl (.inr e.symm)
    · rw [if_neg e] at hu
      rcases h.seen u hu with h1 | h1
      · exact .inl (.inl h1)
      · exact .inr h1
  · have h1 := h.fnd c hc u hu
    have e : v ≠ u := fun e => by rw [← e] at h1; exact h1.2.1 hz
    refine ⟨h1.1, by rw [hix u, if_neg e]; exact h1.2.1, fun hm => ?_⟩
    rcases (hmem u).1 hm with h2 | h2
    · exact h1.2.2 h2
    · exact e h2.symm
  · rw [hmem u]
    rcases List.mem_cons.1 hu with rfl | hu
    · exact .inr rfl
    · exact .inl (h.gr u hu)
  · rw [List.mem_cons, not_or] at hg
    rcases (hmem u).1 hu with h1 | h1
    · have := h.blk u h1 hg.2 w hw
      rw [hix w]; split <;> omega
    · exact absurd h1 hg.1
  · rcases (hmem a).1 ha with ha1 | ha1
    · rcases (hmem b).1 hb with hb1 | hb1
      · rw [hold a ha1, hold b hb1] at hle; exact h.fwd a ha1 b hb1 hle
      · rw [hb1]; exact hp a ha1
    · rcases (hmem b).1 hb with hb1 | hb1
      · rw [ha1, hnew, hold b hb1] at hle; have := h.le b; omega
      · rw [ha1, hb1]; exact .refl _
  · rcases (hmem y).1 hy with hy | rfl
    · obtain ⟨x, hx, h1, h2⟩ := h.back y hy
      exact ⟨x, List.mem_cons_of_mem _ hx, by rw [hold x (h.gr x hx), hold y hy]; exact h1, h2⟩
    · exact ⟨y, List.mem_cons_self .., Nat.le_refl _, .refl _⟩
/-- The numbers of low do not matter. -/
theorem Inv.low {N : Nat} {A : Arcs} {g : List Nat} {s : St} (h : Inv N A g s) (v n : Nat) : Inv N A g (lowTo v n s) :=
  ⟨h.li, by show (s.low.set v _).length = N; rw [List.length_set]; exact h.ll, h.lb, h.num, h.on_, h.lt, h.asc, h.pos, h.le, h.seen, h.fnd, h.clo, h.scc, h.dis, h.gr, h.blk, h.fwd, h.back⟩
/-- Where the heads us of v have been seen; B is the stack below v. -/
structure LoopP (N : Nat) (A : Arcs) (g B : List Nat) (v : Nat) (us : List Nat) (s0 s : St) : Prop where
  inv : Inv N A (v :: g) s
  stk : ∃ P, s.stk = B ++ v :: P ∧ ∀ y ∈ P, ∀ x ∈ B, (y, x) ∈ A → lo s v ≤ ix s x
  keep : ∀ u, ix s0 u ≠ 0 → ix s u = ix s0 u
  keepL : ∀ u, ix s0 u ≠ 0 → u ≠ v → lo s u = lo s0 u
  lowle : lo s v ≤ ix s v
  lowat : ∃ x, (x ∈ B ∨ x = v) ∧ lo s v = ix s x ∧ Path A v x
  edge : ∀ u ∈ us, ix s u ≠ 0 ∧ (u ∈ B → lo s v ≤ ix s u)
/-- Behind a visit of v. -/
structure VisP (N : Nat) (A : Arcs) (g B : List Nat) (v : Nat) (s0 s : St) : Prop where
  inv : Inv N A g s
  vis : ix s v ≠ 0
  stk : ∃ P, s.stk = B ++ P ∧ (∀ y ∈ P, ∀ x ∈ B, (y, x) ∈ A → lo s v ≤ ix s x)
  keep : ∀ u, ix s0 u ≠ 0 → ix s u = ix s0 u
  keepL : ∀ u, ix s0 u ≠ 0 → u ≠ v → lo s u = lo s0 u
  low : (∃ x ∈ B, lo s v = ix s x ∧ Path A v x) ∨ lo s v = ix s v
theorem mem_off : ∀ (l : List Nat) (o : List Bool) (u : Nat), (off l o).getD u false = true ↔ o.getD u false = true ∧ u ∉ l
  | [], o, u => by simp [off]
  | x :: l, o, u => by
    show (off l (o.set x false)).getD u false = true ↔ _
    rw [mem_off l, getD_set, List.mem_cons, not_or]
    by_cases e : x = u
    · subst e
      by_cases hl : x < o.length
      · simp [hl]
      · have : o.getD x false = false := by rw [List.getD_eq_getElem?_getD, List.getElem?_eq_none (by omega)]; rfl
        rw [if_neg (fun e => hl e.2), this]; simp
    · have e' : u ≠ x := fun y => e y.symm
      simp [e, e']
theorem off_len : ∀ (l : List Nat) (o : List Bool), (off l o).length = o.length
  | [], _ => rfl
  | x :: l, o => by show (off l (o.set x false)).length = _; rw [off_len l, List.length_set]
theorem idxOf_app {B P : List Nat} {v : Nat} (h : v ∉ B) : (B ++ v :: P).idxOf v = B.length := by
  rw [List.idxOf_append, if_neg h]; simp
theorem LoopP.fin {N : Nat} {A : Arcs} (ok : Ok N A) (hN : N ≤ 64) {g B : List Nat} {v : Nat} {s0 s : St} (h : LoopP N A g B v (outs A v) s0 s) (hB : ∀ x ∈ B, x ∉ g → True) (hg : ∀ x ∈ g, x ∈ B) : VisP N A g B v s0 (fin v s) := by
  obtain ⟨P, hs, hP⟩ := h.stk
  have I := h.inv
  have hnd := I.nodup
  rw [hs] at hnd
  have hnd' := List.nodup_append.1 hnd
  have hvB : v ∉ B := fun hm => hnd'.2.2 v hm v (List.mem_cons_self ..) rfl
  have hvs : v ∈ s.stk := by rw [hs]; simp
  have hBs : ∀ x ∈ B, x ∈ s.stk := fun x hx => by rw [hs]; exact List.mem_append_left _ hx
  have hPs : ∀ x ∈ v :: P, x ∈ s.stk := fun x hx => by rw [hs]; exact List.mem_append_right _ hx
  have hasc := I.asc
  rw [hs] at hasc
  have hasc' := List.pairwise_append.1 hasc
  have hBlt : ∀ x ∈ B, ∀ y ∈ v :: P, ix s x < ix s y := hasc'.2.2
  have hvP : ∀ y ∈ v :: P, ix s v ≤ ix s y := fun y hy => by
    rcases List.mem_cons.1 hy with rfl | hy
    · exact Nat.le_refl _
    · exact Nat.le_of_lt ((List.pairwise_cons.1 hasc'.2.1).1 y hy)
  have hidx : s.stk.idxOf v = B.length := by rw [hs]; exact idxOf_app hvB
  by_cases hc : lo s v = ix s v
  · -- the part from v on is a component
    have htake : s.stk.take (s.stk.idxOf v) = B := by rw [hidx, hs]; exact List.take_left
    have hdrop : s.stk.drop (s.stk.idxOf v) = v :: P := by rw [hidx, hs]; exact List.drop_left
    have hfin : Tp.fin v s = { s with stk := B, on := off (v :: P) s.on, found := s.found ++ [ascN (v :: P)] } := by
      unfold Tp.fin; rw [if_pos hc, htake, hdrop]
    have h64 : ∀ x ∈ v :: P, x < 64 := fun x hx => Nat.lt_of_lt_of_le (I.lt x (hPs x hx)) hN
    have hmem : ∀ x, x ∈ ascN (v :: P) ↔ x ∈ v :: P := fun x => mem_ascN h64
    -- arcs from the part lead into the part or to the found
    have hout : ∀ y ∈ v :: P, ∀ w, (y, w) ∈ A → w ∈ v :: P ∨ ∃ c ∈ s.found, w ∈ c := by
      intro y hy w hw
      have hwv : ix s w ≠ 0 ∧ (w ∈ B → ix s v ≤ ix s w) := by
        rcases List.mem_cons.1 hy with rfl | hy'
        · have := h.edge w (mem_outs.2 hw)
          exact ⟨this.1, fun hb => by have := this.2 hb; omega⟩
        · refine ⟨I.blk y (hPs y hy) ?_ w hw, fun hb => ?_⟩
          · rw [List.mem_cons, not_or]
            have hnc := List.nodup_cons.1 hnd'.2.1
            refine ⟨fun e => hnc.1 (by rw [← e]; exact hy'), fun hm => hnd'.2.2 y (hg y hm) y hy rfl⟩
          · have := hP y hy' w hb hw; omega
      rcases I.seen w hwv.1 with h1 | h1
      · rw [hs, List.mem_append] at h1
        rcases h1 with h1 | h1
        · have h2 := hwv.2 h1
          have h3 := hBlt w h1 v (List.mem_cons_self ..)
          omega
        · exact .inl h1
      · exact .inr h1
    have hpath : ∀ y ∈ v :: P, ∀ w, Path A y w → w ∈ v :: P ∨ ∃ c ∈ s.found, w ∈ c := by
      intro y hy w hw
      refine Path.closed (S := fun x => x ∈ v :: P ∨ ∃ c ∈ s.found, x ∈ c) (fun p hp hS => ?_) hw (.inl hy)
      rcases hS with hS | ⟨c, hc1, hc2⟩
      · exact hout p.1 hS p.2 hp
      · exact .inr (I.clo c hc1 p.1 hc2 p.2 hp)
    have hback : ∀ y ∈ v :: P, Path A y v := by
      intro y hy
      obtain ⟨x, hx, h1, h2⟩ := I.back y (hPs y hy)
      rcases List.mem_cons.1 hx with rfl | hx
      · exact h2
      · exfalso
        have hxB := hg x hx
        rcases hpath y hy x h2 with h3 | ⟨c, h3, h4⟩
        · exact hnd'.2.2 x hxB x h3 rfl
        · exact (I.fnd c h3 x h4).2.2 (hBs x hxB)
    have hfwd : ∀ y ∈ v :: P, Path A v y := fun y hy => I.fwd v hvs y (hPs y hy) (hvP y hy)
    have hscc : ∀ x, x ∈ ascN (v :: P) ↔ Path A v x ∧ Path A x v := fun x => by
      rw [hmem]
      refine ⟨fun hx => ⟨hfwd x hx, hback x hx⟩, fun ⟨h1, h2⟩ => ?_⟩
      rcases hpath v (List.mem_cons_self ..) x h1 with h3 | h3
      · exact h3
      · obtain ⟨c, h4, h5⟩ := I.found_path h3 h2
        exact absurd hvs (I.fnd c h4 v h5).2.2
    have hfm : ∀ c, c ∈ s.found ++ [ascN (v :: P)] ↔ c ∈ s.found ∨ c = ascN (v :: P) := fun c => by rw [List.mem_append, List.mem_singleton]
    rw [hfin]
    refine ⟨⟨I.li, I.ll, by show (off _ _).length = N; rw [off_len]; exact I.lb, I.num, fun u => ?_, fun u hu => I.lt u (hBs u hu), hasc'.1, fun u hu => I.pos u (hBs u hu), I.le, fun u hu => ?_, fun c hcm u hu => ?_, fun c hcm u hu w hw => ?_, fun c hcm => ?_, ?_, hg, fun u hu hgu w hw => I.blk u (hBs u hu) ?_ w hw, fun a ha b hb => I.fwd a (hBs a ha) b (hBs b hb), fun y hy => ?_⟩, ?_, ⟨[], by simp, fun y hy => (by cases hy)⟩, h.keep, h.keepL, .inr hc⟩
    · show (off (v :: P) s.on).getD u false = true ↔ u ∈ B
      rw [mem_off]
      have := I.on_ u
      unfold onS at this
      rw [this, hs, List.mem_append]
      constructor
      · rintro ⟨h1 | h1, h2⟩
        · exact h1
        · exact absurd h1 h2
      · intro h1
        exact ⟨.inl h1, fun h2 => hnd'.2.2 u h1 u h2 rfl⟩
    · rcases I.seen u hu with h1 | ⟨c, h1, h2⟩
      · rw [hs, List.mem_append] at h1
        rcases h1 with h1 | h1
        · exact .inl h1
        · exact .inr ⟨_, (hfm _).2 (.inr rfl), (hmem u).2 h1⟩
      · exact .inr ⟨c, (hfm c).2 (.inl h1), h2⟩
    · rcases (hfm c).1 hcm with h1 | rfl
      · have := I.fnd c h1 u hu
        exact ⟨this.1, this.2.1, fun hb => this.2.2 (hBs u hb)⟩
      · have hu' := (hmem u).1 hu
        exact ⟨I.lt u (hPs u hu'), I.pos u (hPs u hu'), fun hb => hnd'.2.2 u hb u hu' rfl⟩
    · rcases (hfm c).1 hcm with h1 | rfl
      · obtain ⟨d, h2, h3⟩ := I.clo c h1 u hu w hw
        exact ⟨d, (hfm d).2 (.inl h2), h3⟩
      · rcases hout u ((hmem u).1 hu) w hw with h1 | ⟨d, h2, h3⟩
        · exact ⟨_, (hfm _).2 (.inr rfl), (hmem w).2 h1⟩
        · exact ⟨d, (hfm d).2 (.inl h2), h3⟩
    · rcases (hfm c).1 hcm with h1 | rfl
      · exact I.scc c h1
      · exact ⟨ascN_asc _, v, hscc⟩
    · show (s.found ++ [ascN (v :: P)]).Pairwise _
      rw [List.pairwise_append]
      refine ⟨I.dis, List.pairwise_singleton _ _, fun a ha b hb x hx hxb => ?_⟩
      rw [List.mem_singleton] at hb; subst hb
      exact (I.fnd a ha x hx).2.2 (hPs x ((hmem x).1 hxb))
    · rw [List.mem_cons, not_or]
      exact ⟨fun e => hvB (by rw [← e]; exact hu), hgu⟩
    · obtain ⟨x, hx, h1, h2⟩ := I.back y (hBs y hy)
      rcases List.mem_cons.1 hx with rfl | hx
      · have := hBlt y hy x (List.mem_cons_self ..); omega
      · exact ⟨x, hx, h1, h2⟩
    · exact I.pos v hvs
  · -- v stays on the stack
    have hfin : Tp.fin v s = s := by unfold Tp.fin; rw [if_neg hc]
    have hlt : lo s v < ix s v := by have := h.lowle; omega
    obtain ⟨x, hx, hx1, hx2⟩ := h.lowat
    have hxB : x ∈ B := by
      rcases hx with hx | rfl
      · exact hx
      · omega
    rw [hfin]
    refine ⟨⟨I.li, I.ll, I.lb, I.num, I.on_, I.lt, I.asc, I.pos, I.le, I.seen, I.fnd, I.clo, I.scc, I.dis, fun u hu => hBs u (hg u hu), fun u hu hgu w hw => ?_, I.fwd, fun y hy => ?_⟩, I.pos v hvs, ⟨v :: P, hs, fun y hy z hz hyz => ?_⟩, h.keep, h.keepL, .inl ⟨x, hxB, hx1, hx2⟩⟩
    · by_cases e : u = v
      · subst e; exact (h.edge w (mem_outs.2 hw)).1
      · exact I.blk u hu (by rw [List.mem_cons, not_or]; exact ⟨e, hgu⟩) w hw
    · obtain ⟨z, hz, h1, h2⟩ := I.back y hy
      rcases List.mem_cons.1 hz with rfl | hz
      · -- y reaches v, v reaches x below, x reaches one that is under way
        obtain ⟨z2, hz2, h3, h4⟩ := I.back x (hBs x hxB)
        rcases List.mem_cons.1 hz2 with rfl | hz2
        · have := hBlt x hxB z2 (List.mem_cons_self ..); omega
        · exact ⟨z2, hz2, by omega, (h2.trans hx2).trans h4⟩
      · exact ⟨z, hz, h1, h2⟩
    · rcases List.mem_cons.1 hy with rfl | hy
      · exact (h.edge z (mem_outs.2 hyz)).2 hz
      · exact hP y hy z hz hyz
theorem lo_lowTo {N : Nat} {s : St} (hl : s.low.length = N) {v : Nat} (hv : v < N) (n u : Nat) : lo (lowTo v n s) u = if v = u then min (lo s v) n else lo s u := by
  show (s.low.set v _).getD u 0 = _
  rw [getD_set]
  by_cases e : v = u
  · rw [if_pos ⟨e, by rw [hl]; exact hv⟩, if_pos e]
  · rw [if_neg (fun x => e x.1), if_neg e]; rfl
/-- The loop's law. -/
theorem Loop.law {N : Nat} {A : Arcs} (ok : Ok N A) (hN : N ≤ 64) {v : Nat} {us : List Nat} {s0 s : St} (h : Loop A v us s0 s) :
    ∀ (g B : List Nat), Inv N A (v :: g) s0 → s0.stk = B ++ [v] → lo s0 v = ix s0 v → (∀ u ∈ us, (v, u) ∈ A) → (∀ x ∈ g, x ∈ B) → LoopP N A g B v us s0 s := by
  induction h with
  | nil v s =>
    intro g B I hs hl _ _
    exact ⟨I, ⟨[], hs, fun y hy => (by cases hy)⟩, fun _ _ => rfl, fun _ _ _ => rfl, Nat.le_of_eq hl, ⟨v, .inr rfl, hl, .refl _⟩, fun u hu => (by cases hu)⟩
  | @old v us s s1 u _ hu ih =>
    intro g B I hs hl ha hg
    have L := ih g B I hs hl (fun x hx => ha x (List.mem_append_left _ hx)) hg
    have hvu := ha u (by simp)
    obtain ⟨P, hs1, hP⟩ := L.stk
    have hvs : v ∈ s1.stk := by rw [hs1]; simp
    have hvN := L.inv.lt v hvs
    unfold seeOld
    by_cases hon : onS s1 u = true
    · rw [if_pos hon]
      have hus := (L.inv.on_ u).1 hon
      have hlow := fun x => lo_lowTo L.inv.ll hvN (ix s1 u) x
      have hlv : lo (lowTo v (ix s1 u) s1) v = min (lo s1 v) (ix s1 u) := by rw [hlow v, if_pos rfl]
      refine ⟨L.inv.low _ _, ⟨P, hs1, fun y hy x hx hyx => ?_⟩, L.keep, fun x hx hxv => ?_, ?_, ?_, fun x hx => ?_⟩
      · rw [hlv]; have := hP y hy x hx hyx; show _ ≤ ix s1 x; omega
      · rw [hlow x, if_neg (fun e => hxv e.symm)]; exact L.keepL x hx hxv
      · rw [hlv]; have := L.lowle; show _ ≤ ix s1 v; omega
      · rw [hlv]
        by_cases hc : lo s1 v ≤ ix s1 u
        · obtain ⟨x, h1, h2, h3⟩ := L.lowat
          exact ⟨x, h1, by show _ = ix s1 x; omega, h3⟩
        · refine ⟨u, ?_, by show _ = ix s1 u; omega, Path.arc hvu⟩
          have hasc := L.inv.asc
          rw [hs1] at hasc hus
          have hasc' := List.pairwise_append.1 hasc
          rcases List.mem_append.1 hus with h1 | h1
          · exact .inl h1
          · rcases List.mem_cons.1 h1 with h1 | h1
            · exact .inr h1
            · have := (List.pairwise_cons.1 hasc'.2.1).1 u h1
              have := L.lowle; omega
      · rw [hlv]
        rcases List.mem_append.1 hx with hx | hx
        · have := L.edge x hx
          exact ⟨this.1, fun hb => by have := this.2 hb; show _ ≤ ix s1 x; omega⟩
        · rw [List.mem_singleton] at hx; subst hx
          exact ⟨hu, fun _ => by show _ ≤ ix s1 x; omega⟩
    · rw [if_neg hon]
      refine ⟨L.inv, L.stk, L.keep, L.keepL, L.lowle, L.lowat, fun x hx => ?_⟩
      rcases List.mem_append.1 hx with hx | hx
      · exact L.edge x hx
      · rw [List.mem_singleton] at hx; subst hx
        refine ⟨hu, fun hb => absurd ((L.inv.on_ x).2 (by rw [hs1]; exact List.mem_append_left _ hb)) hon⟩
  | @new v us s s1 s2 u _ hu _ ih ih2 =>
    intro g B I hs hl ha hg
    have L := ih g B I hs hl (fun x hx => ha x (List.mem_append_left _ hx)) hg
    have hvu := ha u (by simp)
    obtain ⟨P, hs1, hP⟩ := L.stk
    have hvs : v ∈ s1.stk := by rw [hs1]; simp
    have hvN := L.inv.lt v hvs
    have huN := (ok _ hvu).2
    have hBs : ∀ x ∈ B, x ∈ s1.stk := fun x hx => by rw [hs1]; exact List.mem_append_left _ hx
    have hasc := L.inv.asc
    rw [hs1] at hasc
    have hasc' := List.pairwise_append.1 hasc
    have hgv : ∀ x ∈ v :: g, ix s1 x ≤ ix s1 v := fun x hx => by
      rcases List.mem_cons.1 hx with rfl | hx
      · exact Nat.le_refl _
      · exact Nat.le_of_lt (hasc'.2.2 x (hg x hx) v (List.mem_cons_self ..))
    have hpre : ∀ y ∈ s1.stk, Path A y u := fun y hy => by
      obtain ⟨x, hx, h1, h2⟩ := L.inv.back y hy
      exact .step (h2.trans (L.inv.fwd x (L.inv.gr x hx) v hvs (hgv x hx))) hvu
    have hixu := ix_push (s := s1) L.inv.li huN
    have I2 := L.inv.push huN hu hpre
    have hpl : lo (push u s1) u = ix (push u s1) u := by
      rw [hixu u, if_pos rfl]
      show (s1.low.set u _).getD u 0 = _
      rw [getD_set, if_pos ⟨rfl, by rw [L.inv.ll]; exact huN⟩]
    have L2 := ih2 (v :: g) s1.stk I2 rfl hpl (fun x hx => mem_outs.1 hx) (fun x hx => L.inv.gr x hx)
    have V := L2.fin ok hN (fun _ _ _ => trivial) (fun x hx => L.inv.gr x hx)
    obtain ⟨P', hs2, hP'⟩ := V.stk
    have hne : ∀ x, ix s1 x ≠ 0 → u ≠ x := fun x hx e => hx (by rw [← e]; exact hu)
    have hkeep : ∀ x, ix s1 x ≠ 0 → ix (fin u s2) x = ix s1 x := fun x hx => by
      have := V.keep x (by rw [hixu x, if_neg (hne x hx)]; exact hx)
      rw [this, hixu x, if_neg (hne x hx)]
    have hkeepL : ∀ x, ix s1 x ≠ 0 → lo (fin u s2) x = lo s1 x := fun x hx => by
      have h1 := V.keepL x (by rw [hixu x, if_neg (hne x hx)]; exact hx) (fun e => hne x hx e.symm)
      rw [h1]
      show (s1.low.set u _).getD x 0 = _
      rw [getD_set, if_neg (fun e => hne x hx e.1)]; rfl
    have hvz := L.inv.pos v hvs
    have hlow := fun x => lo_lowTo V.inv.ll hvN (lo (fin u s2) u) x
    have hlv : lo (lowTo v (lo (fin u s2) u) (fin u s2)) v = min (lo s1 v) (lo (fin u s2) u) := by rw [hlow v, if_pos rfl, hkeepL v hvz]
    have hstk : (lowTo v (lo (fin u s2) u) (fin u s2)).stk = B ++ v :: (P ++ P') := by
      show (fin u s2).stk = _
      rw [hs2, hs1]; simp
    have hixB : ∀ x ∈ B, ix (fin u s2) x = ix s1 x := fun x hx => hkeep x (L.inv.pos x (hBs x hx))
    have hunew : s1.cnt + 1 ≤ ix (fin u s2) u := by
      have := V.keep u (by rw [hixu u, if_pos rfl]; omega)
      rw [this, hixu u, if_pos rfl]; exact Nat.le_refl _
    refine ⟨V.inv.low _ _, ⟨P ++ P', hstk, fun y hy x hx hyx => ?_⟩, fun x hx => ?_, fun x hx hxv => ?_, ?_, ?_, fun x hx => ?_⟩
    · rw [hlv]
      show _ ≤ ix (fin u s2) x
      rcases List.mem_append.1 hy with hy | hy
      · have := hP y hy x hx hyx; rw [hixB x hx]; omega
      · have := hP' y hy x (hBs x hx) hyx; omega
    · have h1 := L.keep x hx
      show ix (fin u s2) x = _
      rw [hkeep x (by rw [h1]; exact hx), h1]
    · have h1 := L.keep x hx
      rw [hlow x, if_neg (fun e => hxv e.symm), hkeepL x (by rw [h1]; exact hx)]
      exact L.keepL x hx hxv
    · rw [hlv]
      show _ ≤ ix (fin u s2) v
      rw [hkeep v hvz]; have := L.lowle; omega
    · rw [hlv]
      by_cases hc : lo s1 v ≤ lo (fin u s2) u
      · obtain ⟨x, h1, h2, h3⟩ := L.lowat
        refine ⟨x, h1, ?_, h3⟩
        show _ = ix (fin u s2) x
        have : ix (fin u s2) x = ix s1 x := by
          rcases h1 with h1 | rfl
          · exact hixB x h1
          · exact hkeep x hvz
        rw [this]; omega
      · rcases V.low with ⟨x, h1, h2, h3⟩ | h1
        · have hxz := L.inv.pos x h1
          have hx1 := hkeep x hxz
          refine ⟨x, .inl ?_, by show _ = ix (fin u s2) x; omega, (Path.arc hvu).trans h3⟩
          have hlt : ix s1 x < ix s1 v := by have := L.lowle; omega
          rw [hs1] at h1
          rcases List.mem_append.1 h1 with h4 | h4
          · exact h4
          · rcases List.mem_cons.1 h4 with h4 | h4
            · subst h4; omega
            · have := (List.pairwise_cons.1 hasc'.2.1).1 x h4; omega
        · have := L.inv.le v
          have := L.lowle
          omega
    · rw [hlv]
      show ix (fin u s2) x ≠ 0 ∧ (x ∈ B → _ ≤ ix (fin u s2) x)
      rcases List.mem_append.1 hx with hx | hx
      · have h1 := L.edge x hx
        rw [hkeep x h1.1]
        exact ⟨h1.1, fun hb => by have := h1.2 hb; omega⟩
      · rw [List.mem_singleton] at hx; subst hx
        refine ⟨V.vis, fun hb => absurd hu (L.inv.pos x (hBs x hb))⟩
/-- A visit's law. -/
theorem visit_law {N : Nat} {A : Arcs} (ok : Ok N A) (hN : N ≤ 64) {v : Nat} {s0 s : St} {g : List Nat} (I : Inv N A g s0) (hv : v < N) (hz : ix s0 v = 0) (hp : ∀ y ∈ s0.stk, Path A y v) (h : Loop A v (outs A v) (push v s0) s) : VisP N A g s0.stk v (push v s0) (fin v s) := by
  have hpl : lo (push v s0) v = ix (push v s0) v := by
    rw [ix_push I.li hv, if_pos rfl]
    show (s0.low.set v _).getD v 0 = _
    rw [getD_set, if_pos ⟨rfl, by rw [I.ll]; exact hv⟩]
  have L := h.law ok hN g s0.stk (I.push hv hz hp) rfl hpl (fun x hx => mem_outs.1 hx) (fun x hx => I.gr x hx)
  exact L.fin ok hN (fun _ _ _ => trivial) (fun x hx => I.gr x hx)
theorem Loop.snd {A : Arcs} {v : Nat} {us : List Nat} {s0 s : St} (h : Loop A v us s0 s) : s.idx.count 0 ≤ s0.idx.count 0 := by
  induction h with
  | nil => exact Nat.le_refl _
  | @old v us s s1 u _ _ ih => unfold seeOld; split <;> exact ih
  | @new v us s s1 s2 u _ hu _ ih ih2 =>
    have e : (fin u s2).idx = s2.idx := by unfold fin; split <;> rfl
    show (fin u s2).idx.count 0 ≤ _
    rw [e]
    refine Nat.le_trans ih2 (Nat.le_trans ?_ ih)
    show (s1.idx.set u _).count 0 ≤ _
    by_cases hl : u < s1.idx.length
    · have := count_set s1.idx u (s1.cnt + 1) (by omega) hl hu; omega
    · rw [List.set_eq_of_length_le (by omega)]; exact Nat.le_refl _
theorem push_count {N : Nat} {A : Arcs} {g : List Nat} {s : St} (I : Inv N A g s) {v : Nat} (hv : v < N) (hz : ix s v = 0) : (push v s).idx.count 0 + 1 = s.idx.count 0 :=
  count_set s.idx v (s.cnt + 1) (by omega) (by rw [I.li]; exact hv) hz

/-! ### the document's components -/
def mutu (N : Nat) (A : Arcs) (v u : Nat) : Bool := (reachT N A v).contains u && (reachT N A u).contains v
def compT (N : Nat) (A : Arcs) (v : Nat) : List Nat := (List.range N).filter (mutu N A v)
def strongT (N : Nat) (A : Arcs) : List (List Nat) := (List.range N).filterMap (fun v => if (compT N A v).getD 0 0 = v then some (compT N A v) else none)
theorem mem_compT {N : Nat} {A : Arcs} (ok : Ok N A) {v u : Nat} (hv : v < N) : u ∈ compT N A v ↔ u < N ∧ Path A v u ∧ Path A u v := by
  unfold compT mutu
  rw [List.mem_filter, List.mem_range, Bool.and_eq_true]
  constructor
  · rintro ⟨h1, h2, h3⟩
    exact ⟨h1, (mem_reachT ok hv).1 (by simpa using h2), (mem_reachT ok h1).1 (by simpa using h3)⟩
  · rintro ⟨h1, h2, h3⟩
    exact ⟨h1, by simpa using (mem_reachT ok hv).2 h2, by simpa using (mem_reachT ok h1).2 h3⟩
theorem compT_asc (N : Nat) (A : Arcs) (v : Nat) : (compT N A v).Pairwise (· < ·) := List.Pairwise.filter _ List.pairwise_lt_range
/-- Lists whose keys ascend are one if they have the same members. -/
theorem asc_key {α : Type} {f : α → Nat} : ∀ {l m : List α}, l.Pairwise (fun a b => f a < f b) → m.Pairwise (fun a b => f a < f b) → (∀ x, x ∈ l ↔ x ∈ m) → l = m
  | [], [], _, _, _ => rfl
  | [], b :: m, _, _, h => by have := (h b).2 (List.mem_cons_self ..); cases this
  | a :: l, [], _, _, h => by have := (h a).1 (List.mem_cons_self ..); cases this
  | a :: l, b :: m, hl, hm, h => by
    have hl' := List.pairwise_cons.1 hl
    have hm' := List.pairwise_cons.1 hm
    have e : a = b := by
      rcases List.mem_cons.1 ((h a).1 (List.mem_cons_self ..)) with h1 | h1
      · exact h1
      · rcases List.mem_cons.1 ((h b).2 (List.mem_cons_self ..)) with h2 | h2
        · exact h2.symm
        · have := hl'.1 b h2; have := hm'.1 a h1; omega
    subst e
    refine congrArg _ (asc_key hl'.2 hm'.2 fun x => ?_)
    have hx := h x
    simp only [List.mem_cons] at hx
    constructor
    · intro h1
      rcases hx.1 (.inr h1) with h2 | h2
      · subst h2; have := hl'.1 x h1; omega
      · exact h2
    · intro h1
      rcases hx.2 (.inr h1) with h2 | h2
      · subst h2; have := hm'.1 x h1; omega
      · exact h2
theorem head_mem {l : List Nat} (h : l ≠ []) : l.getD 0 0 ∈ l := by
  cases l with
  | nil => exact absurd rfl h
  | cons a l => simp
theorem head_least {l : List Nat} (h : l.Pairwise (· < ·)) {x : Nat} (hx : x ∈ l) : l.getD 0 0 ≤ x := by
  cases l with
  | nil => cases hx
  | cons a l =>
    rcases List.mem_cons.1 hx with rfl | hx
    · exact Nat.le_refl _
    · exact Nat.le_of_lt ((List.pairwise_cons.1 h).1 x hx)
theorem strongT_keys (N : Nat) (A : Arcs) : (strongT N A).Pairwise (fun a b => a.getD 0 0 < b.getD 0 0) := by
  unfold strongT
  rw [List.pairwise_filterMap]
  refine List.Pairwise.imp (fun {a b} hab => ?_) (List.pairwise_lt_range (n := N))
  intro x hx y hy
  by_cases h1 : (compT N A a).getD 0 0 = a
  · rw [if_pos h1] at hx
    by_cases h2 : (compT N A b).getD 0 0 = b
    · rw [if_pos h2] at hy
      cases hx; cases hy
      omega
    · rw [if_neg h2] at hy; cases hy
  · rw [if_neg h1] at hx; cases hx
/-- All found: the components, sorted by their heads, are the document's. -/
theorem found_strong {N : Nat} {A : Arcs} (ok : Ok N A) {s : St} (I : Inv N A [] s) (hall : ∀ u, u < N → ix s u ≠ 0) {l : List (List Nat)} (hp : l.Perm s.found) (hs : l.Pairwise (fun a b => ¬ b.getD 0 0 < a.getD 0 0)) : l = strongT N A := by
  have hstk : ∀ y, y ∉ s.stk := fun y hy => by
    obtain ⟨x, hx, _⟩ := I.back y hy; cases hx
  have hin : ∀ u, u < N → ∃ c ∈ s.found, u ∈ c := fun u hu => (I.seen u (hall u hu)).elim (fun h => absurd h (hstk u)) id
  have hscc : ∀ c ∈ s.found, c ≠ [] ∧ (∀ x ∈ c, x < N) ∧ ∀ x ∈ c, ∀ y, y ∈ c ↔ Path A x y ∧ Path A y x := fun c hc => by
    obtain ⟨h1, r, h2⟩ := I.scc c hc
    refine ⟨fun e => ?_, fun x hx => (I.fnd c hc x hx).1, fun x hx y => ?_⟩
    · have := (h2 r).2 ⟨.refl _, .refl _⟩; rw [e] at this; cases this
    · have hx' := (h2 x).1 hx
      rw [h2 y]
      exact ⟨fun ⟨a, b⟩ => ⟨hx'.2.trans a, b.trans hx'.1⟩, fun ⟨a, b⟩ => ⟨hx'.1.trans a, b.trans hx'.2⟩⟩
  have hcomp : ∀ c ∈ s.found, ∀ x ∈ c, c = compT N A x := fun c hc x hx => by
    obtain ⟨h1, h2, h3⟩ := hscc c hc
    refine asc_ext (I.scc c hc).1 (compT_asc N A x) fun y => ?_
    rw [mem_compT ok (h2 x hx), h3 x hx y]
    exact ⟨fun h => ⟨h.1.lt ok (h2 x hx), h⟩, fun h => h.2⟩
  have hmem : ∀ c, c ∈ s.found ↔ c ∈ strongT N A := fun c => by
    unfold strongT
    rw [List.mem_filterMap]
    constructor
    · intro hc
      obtain ⟨h1, h2, h3⟩ := hscc c hc
      have hh := head_mem h1
      refine ⟨c.getD 0 0, List.mem_range.2 (h2 _ hh), ?_⟩
      rw [← hcomp c hc _ hh, if_pos rfl]
    · rintro ⟨v, hv, h⟩
      by_cases h1 : (compT N A v).getD 0 0 = v
      case neg => rw [if_neg h1] at h; cases h
      rw [if_pos h1] at h
      cases h
      have hv := List.mem_range.1 hv
      obtain ⟨c, hc, hvc⟩ := hin v hv
      rw [← hcomp c hc v hvc]; exact hc
  refine asc_key (f := fun c => c.getD 0 0) ?_ (strongT_keys N A) (fun x => by rw [hp.mem_iff, hmem])
  have hdis : l.Pairwise (fun a b => ∀ x ∈ a, x ∉ b) := hp.symm.pairwise I.dis (fun {a b} h x hx hy => h x hy hx)
  refine List.Pairwise.imp_of_mem (fun {a b} ha hb h => ?_) (hs.and hdis)
  have h1 := hscc a (hp.mem_iff.1 ha)
  have h2 := hscc b (hp.mem_iff.1 hb)
  have h3 := head_mem h1.1
  rcases Nat.lt_or_ge (a.getD 0 0) (b.getD 0 0) with h4 | h4
  · exact h4
  · exfalso
    have : a.getD 0 0 = b.getD 0 0 := by have := h.1; omega
    exact h.2 _ h3 (by rw [this]; exact head_mem h2.1)
end Go.Proofs.Ytaipcpdncmnelaa.Tp
