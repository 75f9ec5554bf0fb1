/- Packed texts: TopAwake, TopBad, TopOpen, TopLawA -/
import Derived.Test.YtjjcjoedgmfalaaPt07
import Derived.Test.YtjjcjoedgmfalaaPt08
import Derived.Test.YtjjcjoedgmfalaaPt02
import Derived.ProofKit
import Derived.Deep.Slices
import Derived.OpenShut
import Derived.Lib.SmallJoins
set_option linter.unusedVariables false
set_option linter.unusedSimpArgs false
/- awake. -/
namespace Go.Proofs.Ytjjcjoedgmfalaa.Tp
open Go.RowKit Go.Sort Go.Lib Fx

def A0 : Arcs := [(3, 1), (1, 0)]
theorem a0_ok : Ok 4 A0 := fun p hp => by
  simp [A0] at hp
  rcases hp with rfl | rfl <;> exact ⟨by decide, by decide⟩
theorem a0_ord : ordL 4 A0 = [2, 3, 1, 0] := by kernel_rfl
theorem a0_ordB : ordB 4 A0 = true := by kernel_rfl
theorem a0_reach : reachT 4 A0 3 = [0, 1, 3] := by kernel_rfl
theorem a0_strong : (strongT 4 A0).length = 4 := by kernel_rfl
theorem lit_in (w : World) (L : List Int) : IntIn (w.alloc (.cells (iv L).toArray 3)) (some ⟨w.heap.size, 0, none⟩) L := fun j hj => by
  refine ⟨_, _, rfl, ?_⟩
  rw [Nat.zero_add, Lib.cell_of_heap (heap_alloc_new w _)]
  unfold iv; simp [hj]
theorem arc0 (w : World) : ArcIn (w.alloc (.cells #[.int .i64 3, .int .i64 1, .int .i64 1, .int .i64 0] 37)) (some ⟨w.heap.size, 0, none⟩) (zarc A0) := fun k hk => by
  have hk2 : k < 2 := hk
  refine ⟨_, _, rfl, ?_, ?_⟩ <;> rw [Lib.cell_of_heap (heap_alloc_new w _)] <;> (match k, hk2 with | 0, _ => rfl | 1, _ => rfl)
theorem order0 (a : Option Addr) (cap : Nat) (w : World) (h : ArcIn w a (zarc A0)) : Calls Try.prog 17 #[.agg #[.int .i64 4, .slice a 2 cap]] w fun e w' => ∃ b c, e = .returned (.tuple #[.slice b 4 c, .bool true]) ∧ IntIn w' b [2, 3, 1, 0] ∧ Ext w w' := by
  refine (order_any 4 a A0 cap w (by decide) h (by decide) a0_ok).mono ?_
  rintro e w' ⟨⟨b, c, rfl, h1⟩, x⟩
  rw [a0_ord] at h1
  exact ⟨b, c, by rw [a0_ord, a0_ordB]; rfl, h1, x⟩
theorem reach0 (a : Option Addr) (cap : Nat) (w : World) (h : ArcIn w a (zarc A0)) : Calls Try.prog 10 #[.agg #[.int .i64 4, .slice a 2 cap], .int .i64 3] w fun e w' => ∃ b c, e = .returned (.slice b 3 c) ∧ IntIn w' b [0, 1, 3] ∧ Ext w w' := by
  refine (reach_any 4 a A0 cap 3 w (by decide) h (by decide) a0_ok (by decide)).mono ?_
  rintro e w' ⟨⟨b, c, rfl, h1⟩, x⟩
  rw [a0_reach] at h1
  exact ⟨b, c, by rw [a0_reach]; rfl, h1, x⟩
theorem strong0 (a : Option Addr) (cap : Nat) (w : World) (h : ArcIn w a (zarc A0)) : Calls Try.prog 14 #[.agg #[.int .i64 4, .slice a 2 cap]] w fun e w' => ∃ b c, e = .returned (.slice b 4 c) ∧ Ext w w' := by
  refine (strong_any 4 a A0 cap w (by decide) h (by decide) a0_ok).mono ?_
  rintro e w' ⟨⟨b, c, rfl, _⟩, x⟩
  exact ⟨b, c, by rw [a0_strong], x⟩
theorem same0 (a b : Option Addr) (ca cb n : Nat) (L : List Int) (w : World) (hn : L.length = n) (hs : n ≤ 4) (ha : IntIn w a L) (hb : IntIn w b L) : Calls Try.prog 9 #[.slice a n ca, .slice b n cb] w fun e w' => e = .returned (.bool true) ∧ Ext w w' := by
  subst hn
  refine (same_any a b L L ca cb w ha hb (by omega) (by omega)).mono ?_
  rintro e w' ⟨rfl, x⟩
  exact ⟨by rw [decide_eq_true rfl], x⟩
theorem lit4 (w : World) : IntIn (w.alloc (.cells #[.int .i64 2, .int .i64 3, .int .i64 1, .int .i64 0] 3)) (some ⟨w.heap.size, 0, none⟩) [2, 3, 1, 0] := lit_in w [2, 3, 1, 0]
theorem lit3 (w : World) : IntIn (w.alloc (.cells #[.int .i64 0, .int .i64 1, .int .i64 3] 3)) (some ⟨w.heap.size, 0, none⟩) [0, 1, 3] := lit_in w [0, 1, 3]
set_option maxHeartbeats 1000000 in
theorem awake_any (w : World) : Calls Try.prog 12 #[] w fun e w' => e = .returned (.bool true) ∧ Ext w w' := by
  have ha := arc0 w
  go_enter Try.func12, Try.ntmps12
  go_wp2_with (first
    | (go_at_call 17; refine (order0 _ _ _ (ha.ext ((Ext.refl _).alloc _))).mono ?_; rintro e w1 ⟨a1, c1, rfl, h1, x1⟩; have X1 := (((Ext.refl w).alloc _).alloc _).trans x1; have H1 := (ha.ext ((Ext.refl _).alloc _)).ext x1; have b1 := box_at x1; have b10 := b1.1; have b11 := b1.2; simp only [World.size_alloc] at b10 b11; clear b1)
    | (go_at_call 10; refine (reach0 _ _ _ (H1.ext (((Ext.refl _).alloc _).trans x2))).mono ?_; rintro e w3 ⟨a3, c3, rfl, h3, x3⟩; have X3 := (((Ext.refl w1).alloc _).trans x2).trans x3; have b30 := X3.cell b10; have b31 := X3.cell b11)
    | (go_at_call 14; refine (strong0 _ _ _ (H1.ext (X3.trans (((Ext.refl _).alloc _).trans x4)))).mono ?_; rintro e w5 ⟨a5, c5, rfl, x5⟩)
    | (have hh3 := h3; go_at_call 9; refine (same0 _ _ _ _ 3 _ _ rfl (by decide) (h3.ext ((Ext.refl _).alloc _)) (lit3 w3)).mono ?_; rintro e w4 ⟨rfl, x4⟩; have b40 := (((Ext.refl w3).alloc _).trans x4).cell b30; have b41 := (((Ext.refl w3).alloc _).trans x4).cell b31)
    | (go_at_call 9; refine (same0 _ _ _ _ 4 _ _ rfl (by decide) (h1.ext ((Ext.refl _).alloc _)) (lit4 w1)).mono ?_; rintro e w2 ⟨rfl, x2⟩; have b20 := (((Ext.refl w1).alloc _).trans x2).cell b10; have b21 := (((Ext.refl w1).alloc _).trans x2).cell b11))
  go_ret
  exact ⟨rfl, X1.trans (X3.trans ((((Ext.refl _).alloc _).trans x4).trans x5))⟩
end Go.Proofs.Ytjjcjoedgmfalaa.Tp

/- What the functions hand back where the digraph is not valid, or the vertex is none. -/
namespace Go.Proofs.Ytjjcjoedgmfalaa.Tp
open Go.RowKit Go.Sort Go.Lib Fx

variable {n : Int} {a : Option Addr} {L : ArcZ} {cap : Nat} {w : World}
theorem valid_bad (hn0 : -9223372036854775808 ≤ n) (hn1 : n ≤ 9223372036854775807) (h : ArcIn w a L) (hk : ArcOk L) (hL : L.length ≤ 9223372036854775807) (hv : validL n L = false) : ∀ w1, Ext w w1 →
    Calls Try.prog 22 #[.agg #[.int .i64 n, .slice a L.length cap]] w1 fun e w' => e = .returned (.bool false) ∧ Ext w1 w' := fun w1 x => by
  have := valid_any n a L cap w1 hn0 hn1 (h.ext x) hk hL
  rw [hv] at this; exact this
theorem validR_bad (hn0 : -9223372036854775808 ≤ n) (hn1 : n ≤ 9223372036854775807) (h : ArcIn w a L) (hk : ArcOk L) (hL : L.length ≤ 9223372036854775807) (hv : validL n L = false) : ∀ w1, Ext w w1 →
    Calls Try.prog 16 #[.agg #[.int .i64 n, .slice a L.length cap]] w1 fun e w' => e = .returned (.bool false) ∧ Ext w1 w' := fun w1 x => by
  have := validR_any n a L cap w1 hn0 hn1 (h.ext x) hk hL
  rw [hv] at this; exact this
set_option maxHeartbeats 1000000 in
theorem reach_bad (hn0 : -9223372036854775808 ≤ n) (hn1 : n ≤ 9223372036854775807) (h : ArcIn w a L) (hk : ArcOk L) (hL : L.length ≤ 9223372036854775807) (hv : validL n L = false) (v : Int) :
    Calls Try.prog 10 #[.agg #[.int .i64 n, .slice a L.length cap], .int .i64 v] w fun e w' => e = .returned (.slice none 0 0) ∧ Ext w w' := by
  have HV := Lib.hid (valid_bad (cap := cap) hn0 hn1 h hk hL hv)
  obtain ⟨M, hM⟩ : ∃ M, M = L.length := ⟨_, rfl⟩
  rw [← hM] at HV ⊢
  clear h hk hv hM hL
  go_enter Try.func10, Try.ntmps10
  go_wp2_with (go_at_call 22; refine (HV.out _ ((Ext.refl _).alloc _)).mono ?_; rintro e w1 ⟨rfl, x1⟩; have X1 := ((Ext.refl w).alloc _).trans x1)
  go_ret
  exact ⟨rfl, X1⟩
set_option maxHeartbeats 1000000 in
theorem reachR_bad (hn0 : -9223372036854775808 ≤ n) (hn1 : n ≤ 9223372036854775807) (h : ArcIn w a L) (hk : ArcOk L) (hL : L.length ≤ 9223372036854775807) (hv : validL n L = false) (v : Int) :
    Calls Try.prog 11 #[.agg #[.int .i64 n, .slice a L.length cap], .int .i64 v] w fun e w' => e = .returned (.slice none 0 0) ∧ Ext w w' := by
  have HV := Lib.hid (validR_bad (cap := cap) hn0 hn1 h hk hL hv)
  obtain ⟨M, hM⟩ : ∃ M, M = L.length := ⟨_, rfl⟩
  rw [← hM] at HV ⊢
  clear h hk hv hM hL
  go_enter Try.func11, Try.ntmps11
  go_wp2_with (go_at_call 16; refine (HV.out _ ((Ext.refl _).alloc _)).mono ?_; rintro e w1 ⟨rfl, x1⟩; have X1 := ((Ext.refl w).alloc _).trans x1)
  go_ret
  exact ⟨rfl, X1⟩
set_option maxHeartbeats 1000000 in
theorem reach_oob (hn0 : -9223372036854775808 ≤ n) (hn1 : n ≤ 9223372036854775807) (h : ArcIn w a L) (hk : ArcOk L) (hL : L.length ≤ 9223372036854775807) (hv : validL n L = true) (v : Int) (ho : v < 0 ∨ n ≤ v) :
    Calls Try.prog 10 #[.agg #[.int .i64 n, .slice a L.length cap], .int .i64 v] w fun e w' => e = .returned (.slice none 0 0) ∧ Ext w w' := by
  have hval := fun w1 (x : Ext w w1) => valid_any n a L cap w1 hn0 hn1 (h.ext x) hk hL
  rw [hv] at hval
  have HV := Lib.hid hval
  obtain ⟨M, hM⟩ : ∃ M, M = L.length := ⟨_, rfl⟩
  rw [← hM] at HV ⊢
  clear h hk hv hM hL hval
  by_cases h0 : v < 0
  · have c0 : decide (v < 0) = true := decide_eq_true h0
    clear ho
    go_enter Try.func10, Try.ntmps10
    go_wp2_with (go_at_call 22; refine (HV.out _ ((Ext.refl _).alloc _)).mono ?_; rintro e w1 ⟨rfl, x1⟩; have X1 := ((Ext.refl w).alloc _).trans x1; have b1 := box_at x1; have b10 := b1.1; have b11 := b1.2)
    go_ret
    exact ⟨rfl, X1⟩
  · have h1 : n ≤ v := by omega
    have c0 : decide (v < 0) = false := decide_eq_false h0
    have c1 : decide (n ≤ v) = true := decide_eq_true h1
    clear ho
    go_enter Try.func10, Try.ntmps10
    go_wp2_with (go_at_call 22; refine (HV.out _ ((Ext.refl _).alloc _)).mono ?_; rintro e w1 ⟨rfl, x1⟩; have X1 := ((Ext.refl w).alloc _).trans x1; have b1 := box_at x1; have b10 := b1.1; have b11 := b1.2)
    go_ret
    exact ⟨rfl, X1⟩
set_option maxHeartbeats 1000000 in
theorem reachR_oob (hn0 : -9223372036854775808 ≤ n) (hn1 : n ≤ 9223372036854775807) (h : ArcIn w a L) (hk : ArcOk L) (hL : L.length ≤ 9223372036854775807) (hv : validL n L = true) (v : Int) (ho : v < 0 ∨ n ≤ v) :
    Calls Try.prog 11 #[.agg #[.int .i64 n, .slice a L.length cap], .int .i64 v] w fun e w' => e = .returned (.slice none 0 0) ∧ Ext w w' := by
  have hval := fun w1 (x : Ext w w1) => validR_any n a L cap w1 hn0 hn1 (h.ext x) hk hL
  rw [hv] at hval
  have HV := Lib.hid hval
  obtain ⟨M, hM⟩ : ∃ M, M = L.length := ⟨_, rfl⟩
  rw [← hM] at HV ⊢
  clear h hk hv hM hL hval
  by_cases h0 : v < 0
  · have c0 : decide (v < 0) = true := decide_eq_true h0
    clear ho
    go_enter Try.func11, Try.ntmps11
    go_wp2_with (go_at_call 16; refine (HV.out _ ((Ext.refl _).alloc _)).mono ?_; rintro e w1 ⟨rfl, x1⟩; have X1 := ((Ext.refl w).alloc _).trans x1; have b1 := box_at x1; have b10 := b1.1; have b11 := b1.2)
    go_ret
    exact ⟨rfl, X1⟩
  · have h1 : n ≤ v := by omega
    have c0 : decide (v < 0) = false := decide_eq_false h0
    have c1 : decide (n ≤ v) = true := decide_eq_true h1
    clear ho
    go_enter Try.func11, Try.ntmps11
    go_wp2_with (go_at_call 16; refine (HV.out _ ((Ext.refl _).alloc _)).mono ?_; rintro e w1 ⟨rfl, x1⟩; have X1 := ((Ext.refl w).alloc _).trans x1; have b1 := box_at x1; have b10 := b1.1; have b11 := b1.2)
    go_ret
    exact ⟨rfl, X1⟩
set_option maxHeartbeats 1000000 in
theorem strong_bad (hn0 : -9223372036854775808 ≤ n) (hn1 : n ≤ 9223372036854775807) (h : ArcIn w a L) (hk : ArcOk L) (hL : L.length ≤ 9223372036854775807) (hv : validL n L = false) :
    Calls Try.prog 14 #[.agg #[.int .i64 n, .slice a L.length cap]] w fun e w' => e = .returned (.slice none 0 0) ∧ Ext w w' := by
  have HV := Lib.hid (valid_bad (cap := cap) hn0 hn1 h hk hL hv)
  obtain ⟨M, hM⟩ : ∃ M, M = L.length := ⟨_, rfl⟩
  rw [← hM] at HV ⊢
  clear h hk hv hM hL
  go_enter Try.func14, Try.ntmps14
  go_wp2_with (go_at_call 22; refine (HV.out _ ((Ext.refl _).alloc _)).mono ?_; rintro e w1 ⟨rfl, x1⟩; have X1 := ((Ext.refl w).alloc _).trans x1)
  go_ret
  exact ⟨rfl, X1⟩
set_option maxHeartbeats 1000000 in
theorem strongR_bad (hn0 : -9223372036854775808 ≤ n) (hn1 : n ≤ 9223372036854775807) (h : ArcIn w a L) (hk : ArcOk L) (hL : L.length ≤ 9223372036854775807) (hv : validL n L = false) :
    Calls Try.prog 15 #[.agg #[.int .i64 n, .slice a L.length cap]] w fun e w' => e = .returned (.slice none 0 0) ∧ Ext w w' := by
  have HV := Lib.hid (validR_bad (cap := cap) hn0 hn1 h hk hL hv)
  obtain ⟨M, hM⟩ : ∃ M, M = L.length := ⟨_, rfl⟩
  rw [← hM] at HV ⊢
  clear h hk hv hM hL
  go_enter Try.func15, Try.ntmps15
  go_wp2_with (go_at_call 16; refine (HV.out _ ((Ext.refl _).alloc _)).mono ?_; rintro e w1 ⟨rfl, x1⟩; have X1 := ((Ext.refl w).alloc _).trans x1)
  go_ret
  exact ⟨rfl, X1⟩
set_option maxHeartbeats 1000000 in
theorem order_bad (hn0 : -9223372036854775808 ≤ n) (hn1 : n ≤ 9223372036854775807) (h : ArcIn w a L) (hk : ArcOk L) (hL : L.length ≤ 9223372036854775807) (hv : validL n L = false) :
    Calls Try.prog 17 #[.agg #[.int .i64 n, .slice a L.length cap]] w fun e w' => e = .returned (.tuple #[.slice none 0 0, .bool false]) ∧ Ext w w' := by
  have HV := Lib.hid (valid_bad (cap := cap) hn0 hn1 h hk hL hv)
  obtain ⟨M, hM⟩ : ∃ M, M = L.length := ⟨_, rfl⟩
  rw [← hM] at HV ⊢
  clear h hk hv hM hL
  go_enter Try.func17, Try.ntmps17
  go_wp2_with (go_at_call 22; refine (HV.out _ ((Ext.refl _).alloc _)).mono ?_; rintro e w1 ⟨rfl, x1⟩; have X1 := ((Ext.refl w).alloc _).trans x1)
  go_ret2
  exact ⟨rfl, X1⟩
set_option maxHeartbeats 1000000 in
theorem orderR_bad (hn0 : -9223372036854775808 ≤ n) (hn1 : n ≤ 9223372036854775807) (h : ArcIn w a L) (hk : ArcOk L) (hL : L.length ≤ 9223372036854775807) (hv : validL n L = false) :
    Calls Try.prog 19 #[.agg #[.int .i64 n, .slice a L.length cap]] w fun e w' => e = .returned (.tuple #[.slice none 0 0, .bool false]) ∧ Ext w w' := by
  have HV := Lib.hid (validR_bad (cap := cap) hn0 hn1 h hk hL hv)
  obtain ⟨M, hM⟩ : ∃ M, M = L.length := ⟨_, rfl⟩
  rw [← hM] at HV ⊢
  clear h hk hv hM hL
  go_enter Try.func19, Try.ntmps19
  go_wp2_with (go_at_call 16; refine (HV.out _ ((Ext.refl _).alloc _)).mono ?_; rintro e w1 ⟨rfl, x1⟩; have X1 := ((Ext.refl w).alloc _).trans x1)
  go_ret2
  exact ⟨rfl, X1⟩
end Go.Proofs.Ytjjcjoedgmfalaa.Tp

/- An argument that is a digraph, opened. -/
namespace Go.Proofs.Ytjjcjoedgmfalaa.Tp
open Go.RowKit Go.Lib Fx Go.ChangeShapes Go.WideShapes Go.Deep

theorem cI : Try.prog.cellsOf 3 = 1 := by kernel_rfl
theorem cArc : Try.prog.cellsOf 37 = 2 := by kernel_rfl
theorem cDig : Try.prog.cellsOf 24 = 2 := by kernel_rfl
theorem add_off2 (g o k j : Nat) : ((⟨g, o, none⟩ : Addr).add (k * 2)).add j = ⟨g, o + k * 2 + j, none⟩ := by
  simp only [Addr.add]
  by_cases h1 : k * 2 = 0
  · rw [h1]; by_cases h2 : j = 0 <;> simp [h2]
  · by_cases h2 : j = 0 <;> simp [h1, h2]
theorem wf_i64 {n : Int} (h : (Lit.int .i64 n).wf = true) : -9223372036854775808 ≤ n ∧ n ≤ 9223372036854775807 := bounds_i64 h
set_option maxRecDepth 100000 in
theorem open_arc {H : Type} {enc : TypeId × Value → H} {W : World} {base : Nat} {sp : Nat → Bool} {held : Bool} {n : Nat} {cs : List Value} {x : DataW H × List MemPlace}
    (h : DataW.trod enc Try.prog W base sp held n 37 cs = some x) : ∃ (k m : Int), cs = [.int .i64 k, .int .i64 m] ∧ -9223372036854775808 ≤ k ∧ k ≤ 9223372036854775807 ∧ -9223372036854775808 ≤ m ∧ m ≤ 9223372036854775807 := by
  obtain ⟨xs, n', _, _, hlen, hxl, hg⟩ := DataW.trod_struct Try.underlying37 h
  rw [cArc] at hlen
  have hxl2 : xs.length = 2 := hxl
  clear hxl
  match cs, hlen with
  | [a, b], _ =>
    obtain ⟨y0, y1, rfl⟩ : ∃ y0 y1, xs = [y0, y1] := by
      match xs, hxl2 with
      | [y0, y1], _ => exact ⟨y0, y1, rfl⟩
    have h0 : DataW.trod enc Try.prog W base sp held n' 3 [a] = some y0 := by simpa [cI] using hg 0 _ rfl
    have h1 : DataW.trod enc Try.prog W base sp held n' 3 [b] = some y1 := by simpa [cI] using hg 1 _ rfl
    obtain ⟨k, e0, _, w0⟩ := DataW.trod_int Try.underlying3 h0
    obtain ⟨m, e1, _, w1⟩ := DataW.trod_int Try.underlying3 h1
    simp only [List.cons.injEq, and_true] at e0 e1
    subst e0; subst e1
    exact ⟨k, m, rfl, (wf_i64 w0).1, (wf_i64 w0).2, wf_i64 w1⟩
set_option maxRecDepth 100000 in
theorem open_arcs {H : Type} {enc : TypeId × Value → H} {W : World} {base : Nat} {sp : Nat → Bool} {held : Bool} {fuel : Nat} {cs : List Value} {x : DataW H × List MemPlace}
    (h : DataW.trod enc Try.prog W base sp held fuel 22 cs = some x) : ∃ (a : Option Addr) (L : ArcZ) (cap : Nat), cs = [.slice a L.length cap] ∧ ArcIn W a L ∧ ArcOk L ∧ L.length ≤ maxLen := by
  rcases open_slice Try.underlying22 h with ⟨rfl, _⟩ | ⟨a, len, cap, m, n, D, Pl, rfl, _, hl, hm, hmm, _, hx⟩
  · exact ⟨none, [], 0, rfl, (fun k h => absurd h (Nat.not_lt_zero _)), (fun t ht => by cases ht), Nat.zero_le _⟩
  · have hlm : len ≤ m := by rw [hmm]; split <;> omega
    rw [cArc] at hx
    have hone : ∀ i, i < len → ∃ t : Int × Int, (-9223372036854775808 ≤ t.1 ∧ t.1 ≤ 9223372036854775807 ∧ -9223372036854775808 ≤ t.2 ∧ t.2 ≤ 9223372036854775807) ∧ ∃ g o, a = ⟨g, o, none⟩ ∧ W.cell? ⟨g, o + i * 2, none⟩ = some (.int .i64 t.1) ∧ W.cell? ⟨g, o + i * 2 + 1, none⟩ = some (.int .i64 t.2) := fun i hi => by
      obtain ⟨cs', h1, h2⟩ := hx i (by omega)
      obtain ⟨k, m, rfl, hb⟩ := open_arc h2
      obtain ⟨_, _, hc⟩ := World.cells?_some h1
      have c0 := hc 0 (by omega); have c1 := hc 1 (by omega)
      obtain ⟨g, o, spot⟩ := a
      have hspot : spot = none := by
        obtain ⟨cs0, q1, q2⟩ := hx 0 (by omega)
        obtain ⟨k0, m0, rfl, _⟩ := open_arc q2
        obtain ⟨_, _, hc0⟩ := World.cells?_some q1
        have h := World.cell?_spot (show W.cell? _ = some (.int .i64 k0) from hc0 0 (by omega))
        simpa [Addr.add] using h
      subst hspot
      rw [add_off2] at c0 c1
      exact ⟨(k, m), hb, g, o, rfl, c0, c1⟩
    obtain ⟨F, hF⟩ := choose_lt (α := Int × Int) hone
    refine ⟨some a, (List.range len).map F, cap, by simp, ?_, ?_, by simp; omega⟩
    · intro k hk
      have hk' : k < len := by simpa using hk
      obtain ⟨_, g, o, rfl, r⟩ := hF k hk'
      exact ⟨g, o, rfl, by simpa using r⟩
    · intro t ht
      obtain ⟨i, hi, rfl⟩ := List.mem_map.1 ht
      exact (hF i (List.mem_range.1 hi)).1
/-- What the walks take of an argument that is a digraph. -/
def DigArg (w : World) (v : Value) : Prop := ∃ (n : Int) (a : Option Addr) (L : ArcZ) (cap : Nat), v = .agg #[.int .i64 n, .slice a L.length cap] ∧ -9223372036854775808 ≤ n ∧ n ≤ 9223372036854775807 ∧ ArcIn w a L ∧ ArcOk L ∧ L.length ≤ 9223372036854775807
set_option maxRecDepth 100000 in
theorem dig_arg {H : Type} {enc : TypeId × Value → H} {W : World} {r : Reach} {b base : Nat} {sp : Nat → Bool} {held : Bool} {v : Value} {d : DataW H} {p : List MemPlace}
    (hv : Value.okWide Try.prog W r b 24 v) (h : DataW.Trod enc Try.prog W base sp held 24 v d p) : DigArg W v := by
  obtain ⟨v0, v1, y0, y1, n, rfl, rfl, rfl, h0, h1⟩ := Go.Joins.open_agg2 Try.underlying24 (by kernel_rfl) cDig hv h
  have h0 : DataW.trod enc Try.prog W base sp held n 3 [v0] = some y0 := h0
  have h1 : DataW.trod enc Try.prog W base sp held n 22 [v1] = some y1 := h1
  obtain ⟨k, e0, _, w0⟩ := DataW.trod_int Try.underlying3 h0
  obtain ⟨a, L, c, e1, i1, k1, m1⟩ := open_arcs h1
  simp only [List.cons.injEq, and_true] at e0 e1
  subst e0; subst e1
  unfold maxLen at m1
  exact ⟨k, a, L, c, rfl, (wf_i64 w0).1, (wf_i64 w0).2, i1, k1, m1⟩
end Go.Proofs.Ytjjcjoedgmfalaa.Tp

/- The law of Reach, walked. -/
namespace Go.Proofs.Ytjjcjoedgmfalaa.Tp
open Go.RowKit Go.Sort Go.Lib Fx

theorem reachT_len {N : Nat} {A : Arcs} (ok : Ok N A) {v : Nat} (hv : v < N) : (reachT N A v).length ≤ N :=
  nodup_len (by unfold reachT; exact List.Pairwise.filter _ List.nodup_range) (fun x hx => by
    unfold reachT at hx
    exact List.mem_range.1 (List.mem_filter.1 hx).1)
/-- What both functions hand back. -/
theorem reach_all {n : Int} {a : Option Addr} {L : ArcZ} {cap : Nat} {w : World} (hn0 : -9223372036854775808 ≤ n) (hn1 : n ≤ 9223372036854775807) (h : ArcIn w a L) (hk : ArcOk L) (hL : L.length ≤ 9223372036854775807) (v : Int) :
    ∃ R : List Int, R.length ≤ 64 ∧ (∀ w1, Ext w w1 → Calls Try.prog 10 #[.agg #[.int .i64 n, .slice a L.length cap], .int .i64 v] w1 fun e w' => ∃ b c, e = .returned (.slice b R.length c) ∧ IntIn w' b R ∧ Ext w1 w') ∧
      (∀ w1, Ext w w1 → Calls Try.prog 11 #[.agg #[.int .i64 n, .slice a L.length cap], .int .i64 v] w1 fun e w' => ∃ b c, e = .returned (.slice b R.length c) ∧ IntIn w' b R ∧ Ext w1 w') := by
  by_cases hv : validL n L = true
  · by_cases ho : v < 0 ∨ n ≤ v
    · refine ⟨[], Nat.zero_le _, fun w1 x => (reach_oob hn0 hn1 (h.ext x) hk hL hv v ho).mono ?_, fun w1 x => (reachR_oob hn0 hn1 (h.ext x) hk hL hv v ho).mono ?_⟩ <;>
        (rintro e w' ⟨rfl, y⟩; exact ⟨_, _, rfl, IntIn.nil _ _, y⟩)
    · obtain ⟨N, A, rfl, hN, hz, hA, ok⟩ := valid_nat hv
      obtain ⟨V, rfl⟩ : ∃ V : Nat, v = V := ⟨v.toNat, by omega⟩
      have hV : V < N := by omega
      have hz : L = zarc A := hz
      subst hz
      refine ⟨zl (reachT N A V), by rw [zl_len]; have := reachT_len ok hV; omega, fun w1 x => ?_, fun w1 x => ?_⟩
      · rw [zarc_len, zl_len]
        refine (reach_any N a A cap V w1 hN (h.ext x) hA ok hV).mono ?_
        rintro e w' ⟨⟨b, c, rfl, hi⟩, y⟩
        exact ⟨b, c, rfl, hi, y⟩
      · rw [zarc_len, zl_len]
        refine (reachR_any N a A cap V w1 hN (h.ext x) hA ok hV).mono ?_
        rintro e w' ⟨⟨b, c, rfl, hi⟩, y⟩
        exact ⟨b, c, rfl, hi, y⟩
  · have hv : validL n L = false := by simpa using hv
    refine ⟨[], Nat.zero_le _, fun w1 x => (reach_bad hn0 hn1 (h.ext x) hk hL hv v).mono ?_, fun w1 x => (reachR_bad hn0 hn1 (h.ext x) hk hL hv v).mono ?_⟩ <;>
      (rintro e w' ⟨rfl, y⟩; exact ⟨_, _, rfl, IntIn.nil _ _, y⟩)
theorem same_eq {a b : Option Addr} {ca cb K : Nat} {R : List Int} (hK : K = R.length) (hl : R.length ≤ 64) {w : World} (ha : IntIn w a R) (hb : IntIn w b R) :
    Calls Try.prog 9 #[.slice a K ca, .slice b K cb] w fun e w' => e = .returned (.bool true) ∧ Ext w w' := by
  subst hK
  refine (same_any a b R R ca cb w ha hb (by omega) (by omega)).mono ?_
  rintro e w' ⟨rfl, x⟩
  exact ⟨by rw [decide_eq_true rfl], x⟩
set_option maxHeartbeats 4000000 in
theorem reaches_walk (g : Value) (v : Int) (w : World) (hg : DigArg w g) (_ : (Lit.int .i64 v).wf = true) :
    Calls Try.prog 3 #[g, .int .i64 v] w fun e w' => e = .returned (.bool true) ∧ Ext w w' := by
  obtain ⟨n, a, L, cap, rfl, hn0, hn1, h, hk, hL⟩ := hg
  obtain ⟨R, hR, h1, h2⟩ := reach_all (cap := cap) hn0 hn1 h hk hL v
  obtain ⟨M, hM⟩ : ∃ M, M = L.length := ⟨_, rfl⟩
  obtain ⟨K, hK⟩ : ∃ K, K = R.length := ⟨_, rfl⟩
  rw [← hM, ← hK] at h1 h2
  rw [← hM]
  have H1 := Lib.hid h1; have H2 := Lib.hid h2; have HR := Lib.hid hR; have HK := Lib.hid hK
  have b0 := box_at (Ext.refl (w.alloc (.cells #[.int .i64 n, .slice a M cap] 24)))
  have b10 := b0.1
  have b11 := b0.2
  clear h hk hL hM h1 h2 hR hK b0
  go_enter Try.func3, Try.ntmps3
  go_wp2_with fail
  go_region_held3 (fun w' => w'.cell? ⟨w.heap.size, 0, none⟩ = some (.int .i64 n) ∧ w'.cell? ⟨w.heap.size, 1, none⟩ = some (.slice a M cap))
    (refine ⟨Ext.cell (w := w.alloc (.cells #[.int .i64 n, .slice a M cap] 24)) ?_ b10, Ext.cell (w := w.alloc (.cells #[.int .i64 n, .slice a M cap] 24)) ?_ b11⟩ <;> (repeat (first | assumption | exact Ext.refl _ | refine Ext.alloc ?_ _ | refine Ext.drew ?_)))
    (first
      | (go_at_call 10; refine (H1.out _ (by (repeat (first | assumption | exact Ext.refl _ | refine Ext.alloc ?_ _ | refine Ext.drew ?_)))).mono ?_; rintro e w1 ⟨q1, k1, rfl, i1, x1⟩; have X1 := Ext.trans (a := w.alloc (.cells #[.int .i64 n, .slice a M cap] 24)) (by (repeat (first | assumption | exact Ext.refl _ | refine Ext.alloc ?_ _ | refine Ext.drew ?_))) x1; have Y1 := Ext.trans (a := w) (by (repeat (first | assumption | exact Ext.refl _ | refine Ext.alloc ?_ _ | refine Ext.drew ?_))) x1)
      | (go_at_call 11; refine (H2.out _ (by (repeat (first | assumption | exact Ext.refl _ | refine Ext.alloc ?_ _ | refine Ext.drew ?_)))).mono ?_; rintro e w2 ⟨q2, k2, rfl, i2, x2⟩; have X2 := Ext.trans (a := w.alloc (.cells #[.int .i64 n, .slice a M cap] 24)) (by (repeat (first | assumption | exact Ext.refl _ | refine Ext.alloc ?_ _ | refine Ext.drew ?_))) x2; have Y2 := Ext.trans (a := w) (by (repeat (first | assumption | exact Ext.refl _ | refine Ext.alloc ?_ _ | refine Ext.drew ?_))) x2)
      | (go_at_call 9; refine (same_eq HK.out HR.out (by first | exact i1 | exact i1.ext x2) (by first | exact i2 | exact i2.ext x1)).mono ?_; rintro e w3 ⟨rfl, x3⟩; have X3 := Ext.trans (a := w.alloc (.cells #[.int .i64 n, .slice a M cap] 24)) (by (repeat (first | assumption | exact Ext.refl _ | refine Ext.alloc ?_ _ | refine Ext.drew ?_))) x3; have Y3 := Ext.trans (a := w) (by (repeat (first | assumption | exact Ext.refl _ | refine Ext.alloc ?_ _ | refine Ext.drew ?_))) x3)
      | (go_at_call 12; refine (awake_any _).mono ?_; rintro e w4 ⟨rfl, x4⟩; have X4 := Ext.trans (a := w.alloc (.cells #[.int .i64 n, .slice a M cap] 24)) (by (repeat (first | assumption | exact Ext.refl _ | refine Ext.alloc ?_ _ | refine Ext.drew ?_))) x4; have Y4 := Ext.trans (a := w) (by (repeat (first | assumption | exact Ext.refl _ | refine Ext.alloc ?_ _ | refine Ext.drew ?_))) x4))
  all_goals (
    go_wp2_with fail
    go_ret
    exact ⟨rfl, Y4⟩)
end Go.Proofs.Ytjjcjoedgmfalaa.Tp
