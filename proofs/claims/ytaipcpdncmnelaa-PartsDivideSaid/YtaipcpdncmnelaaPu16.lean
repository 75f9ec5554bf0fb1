/- Packed texts: PrtConn, PrtBad, PrtAwake, PrtOpen -/
import Derived.Test.YtaipcpdncmnelaaPu15
import Derived.Test.YtaipcpdncmnelaaPu14
import Derived.Test.YtaipcpdncmnelaaPu02
import Derived.ProofKit
import Derived.Deep.Slices
import Derived.OpenShut
import Derived.Lib.SmallJoins
set_option linter.unusedVariables false
set_option linter.unusedSimpArgs false
/- Connected; Components and Connected of digraphs that are not valid. -/
namespace Go.Proofs.Ytaipcpdncmnelaa.Pt
open Go.RowKit Go.Sort Go.Lib Fx Tp

set_option maxHeartbeats 4000000 in
theorem comp_bad (n : Int) (a : Option Addr) (L : ArcZ) (cap : Nat) (w : World) (hn0 : -9223372036854775808 ≤ n) (hn1 : n ≤ 9223372036854775807) (h : ArcIn w a L) (hk : ArcOk L) (hL : L.length ≤ 9223372036854775807) (hv : validL n L = false) :
    Calls Try.prog 11 #[.agg #[.int .i64 n, .slice a L.length cap]] w fun e w' => e = .returned (.slice none 0 0) ∧ Ext w w' := by
  have hval := fun w1 (x : Ext w w1) => valid_any n a L cap w1 hn0 hn1 (h.ext x) hk hL
  rw [hv] at hval
  obtain ⟨M, hM⟩ : ∃ M, M = L.length := ⟨_, rfl⟩
  rw [← hM] at hL hval ⊢
  have HV := Lib.hid hval
  clear h hM hval hk hv
  go_enter Try.func11, Try.ntmps11
  go_wp2_with (go_at_call 27; refine (HV.out _ ((Ext.refl _).alloc _)).mono ?_; rintro e w1 ⟨rfl, x1⟩; have b1 := box_load x1; have b10 := b1.1; have b11 := b1.2)
  go_ret
  exact ⟨rfl, ((Ext.refl _).alloc _).trans x1⟩
set_option maxHeartbeats 4000000 in
theorem conn_any (N : Nat) (a : Option Addr) (A : Arcs) (cap : Nat) (w : World) (hN : N ≤ 64) (h : ArcIn w a (zarc A)) (hA : A.length ≤ 256) (ok : Ok N A) :
    Calls Try.prog 13 #[.agg #[.int .i64 N, .slice a A.length cap]] w fun e w' => e = .returned (.bool (((compP N A).length : Int) == 1)) ∧ Ext w w' := by
  have hc := fun w1 (x : Ext w w1) => comp_any N a A cap w1 hN (h.ext x) hA ok
  obtain ⟨M, hM⟩ : ∃ M, M = A.length := ⟨_, rfl⟩
  rw [← hM] at hA hc ⊢
  have HC := Lib.hid hc
  clear h hM hc ok
  go_enter Try.func13, Try.ntmps13
  go_wp2_with (go_at_call 11; refine (HC.out _ ((Ext.refl _).alloc _)).mono ?_; rintro e w1 ⟨⟨fv, rfl, hr⟩, x1⟩; obtain ⟨fa, fc, rfl, hr2⟩ := hr.rows; clear hr hr2)
  go_ret
  exact ⟨rfl, ((Ext.refl _).alloc _).trans x1⟩
set_option maxHeartbeats 4000000 in
theorem conn_bad (n : Int) (a : Option Addr) (L : ArcZ) (cap : Nat) (w : World) (hn0 : -9223372036854775808 ≤ n) (hn1 : n ≤ 9223372036854775807) (h : ArcIn w a L) (hk : ArcOk L) (hL : L.length ≤ 9223372036854775807) (hv : validL n L = false) :
    Calls Try.prog 13 #[.agg #[.int .i64 n, .slice a L.length cap]] w fun e w' => e = .returned (.bool false) ∧ Ext w w' := by
  have hc := fun w1 (x : Ext w w1) => comp_bad n a L cap w1 hn0 hn1 (h.ext x) hk hL hv
  obtain ⟨M, hM⟩ : ∃ M, M = L.length := ⟨_, rfl⟩
  rw [← hM] at hL hc ⊢
  have HC := Lib.hid hc
  clear h hM hc hk hv
  go_enter Try.func13, Try.ntmps13
  go_wp2_with (go_at_call 11; refine (HC.out _ ((Ext.refl _).alloc _)).mono ?_; rintro e w1 ⟨rfl, x1⟩)
  go_ret
  exact ⟨rfl, ((Ext.refl _).alloc _).trans x1⟩
end Go.Proofs.Ytaipcpdncmnelaa.Pt

/- Blocks, Bridges, Cuts and Biconnected of digraphs that are not valid; Biconnected. -/
namespace Go.Proofs.Ytaipcpdncmnelaa.Pt
open Go.RowKit Go.Sort Go.Lib Fx Tp

set_option maxHeartbeats 4000000 in
theorem blocks_bad (n : Int) (a : Option Addr) (L : ArcZ) (cap : Nat) (w : World) (hn0 : -9223372036854775808 ≤ n) (hn1 : n ≤ 9223372036854775807) (h : ArcIn w a L) (hk : ArcOk L) (hL : L.length ≤ 9223372036854775807) (hv : validL n L = false) :
    Calls Try.prog 22 #[.agg #[.int .i64 n, .slice a L.length cap]] w fun e w' => e = .returned (.slice none 0 0) ∧ Ext w w' := by
  have hval := fun w1 (x : Ext w w1) => valid_any n a L cap w1 hn0 hn1 (h.ext x) hk hL
  rw [hv] at hval
  obtain ⟨M, hM⟩ : ∃ M, M = L.length := ⟨_, rfl⟩
  rw [← hM] at hL hval ⊢
  have HV := Lib.hid hval
  clear h hM hval hk hv
  go_enter Try.func22, Try.ntmps22
  go_wp2_with (go_at_call 27; refine (HV.out _ ((Ext.refl _).alloc _)).mono ?_; rintro e w1 ⟨rfl, x1⟩; have b1 := box_two x1; have b10 := b1.1; have b11 := b1.2)
  go_ret
  exact ⟨rfl, ((Ext.refl _).alloc _).trans x1⟩
set_option maxHeartbeats 4000000 in
theorem cuts_bad (n : Int) (a : Option Addr) (L : ArcZ) (cap : Nat) (w : World) (hn0 : -9223372036854775808 ≤ n) (hn1 : n ≤ 9223372036854775807) (h : ArcIn w a L) (hk : ArcOk L) (hL : L.length ≤ 9223372036854775807) (hv : validL n L = false) :
    Calls Try.prog 18 #[.agg #[.int .i64 n, .slice a L.length cap]] w fun e w' => e = .returned (.slice none 0 0) ∧ Ext w w' := by
  have hval := fun w1 (x : Ext w w1) => valid_any n a L cap w1 hn0 hn1 (h.ext x) hk hL
  rw [hv] at hval
  obtain ⟨M, hM⟩ : ∃ M, M = L.length := ⟨_, rfl⟩
  rw [← hM] at hL hval ⊢
  have HV := Lib.hid hval
  clear h hM hval hk hv
  go_enter Try.func18, Try.ntmps18
  go_wp2_with (go_at_call 27; refine (HV.out _ ((Ext.refl _).alloc _)).mono ?_; rintro e w1 ⟨rfl, x1⟩; have b1 := box_two x1; have b10 := b1.1; have b11 := b1.2)
  go_ret
  exact ⟨rfl, ((Ext.refl _).alloc _).trans x1⟩
set_option maxHeartbeats 4000000 in
theorem bridges_bad (n : Int) (a : Option Addr) (L : ArcZ) (cap : Nat) (w : World) (hn0 : -9223372036854775808 ≤ n) (hn1 : n ≤ 9223372036854775807) (h : ArcIn w a L) (hk : ArcOk L) (hL : L.length ≤ 9223372036854775807) (hv : validL n L = false) :
    Calls Try.prog 16 #[.agg #[.int .i64 n, .slice a L.length cap]] w fun e w' => e = .returned (.slice none 0 0) ∧ Ext w w' := by
  have hbk := fun w1 (x : Ext w w1) => blocks_bad n a L cap w1 hn0 hn1 (h.ext x) hk hL hv
  obtain ⟨M, hM⟩ : ∃ M, M = L.length := ⟨_, rfl⟩
  rw [← hM] at hL hbk ⊢
  have HV := Lib.hid hbk
  clear h hM hbk hk hv
  go_enter Try.func16, Try.ntmps16
  go_wp2_with (go_at_call 22; refine (HV.out _ ((Ext.refl _).alloc _)).mono ?_; rintro e w1 ⟨rfl, x1⟩)
  refine wp_loop_rounds 1 ?_
  rw [rounds_succ]
  go_wp2
  go_ret
  exact ⟨rfl, ((Ext.refl _).alloc _).trans x1⟩
set_option maxHeartbeats 4000000 in
theorem bicon_any (VIS : Vis) (N : Nat) (a : Option Addr) (A : Arcs) (cap : Nat) (w : World) (hN : N ≤ 64) (h : ArcIn w a (zarc A)) (hA : A.length ≤ 256) (ok : Ok N A) :
    Calls Try.prog 20 #[.agg #[.int .i64 N, .slice a A.length cap]] w fun e w' => e = .returned (.bool (((compP N A).length : Int) == 1 && ((cutsT N A).length : Int) == 0)) ∧ Ext w w' := by
  have hc := fun w1 (x : Ext w w1) => conn_any N a A cap w1 hN (h.ext x) hA ok
  have hu := fun w1 (x : Ext w w1) => cuts_of VIS N a A cap w1 hN (h.ext x) hA ok
  obtain ⟨M, hM⟩ : ∃ M, M = A.length := ⟨_, rfl⟩
  rw [← hM] at hA hc hu ⊢
  obtain ⟨pn, hpn⟩ : ∃ pn, pn = (compP N A).length := ⟨_, rfl⟩
  rw [← hpn] at hc ⊢
  have HC := Lib.hid hc; have HU := Lib.hid hu
  clear h hM hc hu ok hpn
  by_cases hp : (pn : Int) = 1
  · rw [(eq_facts hp).1] at HC ⊢
    clear hp
    go_enter Try.func20, Try.ntmps20
    go_wp2_with (first
      | (go_at_call 13; refine (HC.out _ ((Ext.refl _).alloc _)).mono ?_; rintro e w1 ⟨rfl, x1⟩; have b1 := box_two x1; have b10 := b1.1; have b11 := b1.2)
      | (go_at_call 18; refine (HU.out _ (((Ext.refl _).alloc _).trans x1)).mono ?_; rintro e w2 ⟨⟨cb, cc, rfl, -⟩, x2⟩))
    go_ret
    exact ⟨by rw [Bool.true_and]; rfl, (((Ext.refl _).alloc _).trans x1).trans x2⟩
  · rw [(neq_facts hp).1] at HC ⊢
    clear hp
    go_enter Try.func20, Try.ntmps20
    go_wp2_with (go_at_call 13; refine (HC.out _ ((Ext.refl _).alloc _)).mono ?_; rintro e w1 ⟨rfl, x1⟩; have b1 := box_two x1; have b10 := b1.1; have b11 := b1.2)
    go_ret
    exact ⟨rfl, ((Ext.refl _).alloc _).trans x1⟩
set_option maxHeartbeats 4000000 in
theorem bicon_bad (n : Int) (a : Option Addr) (L : ArcZ) (cap : Nat) (w : World) (hn0 : -9223372036854775808 ≤ n) (hn1 : n ≤ 9223372036854775807) (h : ArcIn w a L) (hk : ArcOk L) (hL : L.length ≤ 9223372036854775807) (hv : validL n L = false) :
    Calls Try.prog 20 #[.agg #[.int .i64 n, .slice a L.length cap]] w fun e w' => e = .returned (.bool false) ∧ Ext w w' := by
  have hc := fun w1 (x : Ext w w1) => conn_bad n a L cap w1 hn0 hn1 (h.ext x) hk hL hv
  obtain ⟨M, hM⟩ : ∃ M, M = L.length := ⟨_, rfl⟩
  rw [← hM] at hL hc ⊢
  have HC := Lib.hid hc
  clear h hM hc hk hv
  go_enter Try.func20, Try.ntmps20
  go_wp2_with (go_at_call 13; refine (HC.out _ ((Ext.refl _).alloc _)).mono ?_; rintro e w1 ⟨rfl, x1⟩)
  go_ret
  exact ⟨rfl, ((Ext.refl _).alloc _).trans x1⟩
end Go.Proofs.Ytaipcpdncmnelaa.Pt

/- awake. -/
namespace Go.Proofs.Ytaipcpdncmnelaa.Pt
open Go.RowKit Go.Sort Go.Lib Fx Tp

def A1 : Arcs := [(0, 1), (1, 2), (2, 0), (2, 3)]
def A2 : Arcs := [(0, 1), (0, 1)]
def A3 : Arcs := [(0, 0)]
theorem a1_ok : Ok 4 A1 := fun p hp => by
  simp [A1] at hp
  rcases hp with rfl | rfl | rfl | rfl <;> exact ⟨by decide, by decide⟩
theorem a2_ok : Ok 2 A2 := fun p hp => by
  simp [A2] at hp
  rcases hp with rfl | rfl <;> exact ⟨by decide, by decide⟩
theorem a3_ok : Ok 1 A3 := fun p hp => by
  simp [A3] at hp
  rcases hp with rfl <;> exact ⟨by decide, by decide⟩
theorem nil_ok (N : Nat) : Ok N [] := fun p hp => by cases hp
theorem a1_comp : (compP 4 A1).length = 1 := by kernel_rfl
theorem a1_br : bridgesT 4 A1 = [3] := by kernel_rfl
theorem a1_cut : cutsT 4 A1 = [2] := by kernel_rfl
theorem a1_blk : blocksT 4 A1 = [[0, 1, 2], [3]] := by kernel_rfl
theorem a2_br : bridgesT 2 A2 = [] := by kernel_rfl
theorem a2_blk : blocksT 2 A2 = [[0, 1]] := by kernel_rfl
theorem a3_comp : (compP 1 A3).length = 1 := by kernel_rfl
theorem a3_cut : cutsT 1 A3 = [] := by kernel_rfl
theorem nil_comp : (compP 0 []).length = 0 := by kernel_rfl
theorem nil2_comp : (compP 2 []).length = 2 := by kernel_rfl
/-- The two digraphs laid. -/
def wb (w : World) : World := (((w.alloc (.cells #[.int .i64 0, .int .i64 1, .int .i64 1, .int .i64 2, .int .i64 2, .int .i64 0, .int .i64 2, .int .i64 3] 37)).alloc (.cells #[.int .i64 4, .slice (some ⟨w.heap.size, 0, none⟩) 4 4] 24)).alloc (.cells #[.int .i64 0, .int .i64 1, .int .i64 0, .int .i64 1] 37)).alloc (.cells #[.int .i64 2, .slice (some ⟨w.heap.size + 1 + 1, 0, none⟩) 2 2] 24)
theorem wb_ext (w : World) : Ext w (wb w) := ((((Ext.refl w).alloc _).alloc _).alloc _).alloc _
theorem arc_lit (w : World) (cs : List Value) (A : Arcs) (h : ∀ k, k < (zarc A).length → cs[2 * k]? = some (.int .i64 ((zarc A).getD k (0, 0)).1) ∧ cs[2 * k + 1]? = some (.int .i64 ((zarc A).getD k (0, 0)).2)) : ArcIn (w.alloc (.cells cs.toArray 37)) (some ⟨w.heap.size, 0, none⟩) (zarc A) := fun k hk => by
  obtain ⟨h1, h2⟩ := h k hk
  have e : (zarc A).getD k (0, 0) = (zarc A)[k] := by rw [List.getD_eq_getElem?_getD, List.getElem?_eq_getElem hk]; rfl
  rw [e] at h1 h2
  refine ⟨_, _, rfl, ?_, ?_⟩ <;> rw [Lib.cell_of_heap (heap_alloc_new w _)]
  · simpa [Nat.mul_comm] using h1
  · simpa [Nat.mul_comm] using h2
theorem wb_arc1 (w w' : World) (x : Ext (wb w) w') : ArcIn w' (some ⟨w.heap.size, 0, none⟩) (zarc A1) :=
  (arc_lit w [.int .i64 0, .int .i64 1, .int .i64 1, .int .i64 2, .int .i64 2, .int .i64 0, .int .i64 2, .int .i64 3] A1 (fun k hk => by
    have hk2 : k < 4 := hk
    match k, hk2 with
    | 0, _ => exact ⟨rfl, rfl⟩
    | 1, _ => exact ⟨rfl, rfl⟩
    | 2, _ => exact ⟨rfl, rfl⟩
    | 3, _ => exact ⟨rfl, rfl⟩)).ext ((((Ext.refl _).alloc _).alloc _).alloc _ |>.trans x)
theorem wb_arc2 (w w' : World) (x : Ext (wb w) w') : ArcIn w' (some ⟨w.heap.size + 1 + 1, 0, none⟩) (zarc A2) := by
  have h := arc_lit ((w.alloc (.cells #[.int .i64 0, .int .i64 1, .int .i64 1, .int .i64 2, .int .i64 2, .int .i64 0, .int .i64 2, .int .i64 3] 37)).alloc (.cells #[.int .i64 4, .slice (some ⟨w.heap.size, 0, none⟩) 4 4] 24)) [.int .i64 0, .int .i64 1, .int .i64 0, .int .i64 1] A2 (fun k hk => by
    have hk2 : k < 2 := hk
    match k, hk2 with
    | 0, _ => exact ⟨rfl, rfl⟩
    | 1, _ => exact ⟨rfl, rfl⟩)
  rw [World.size_alloc, World.size_alloc] at h
  exact h.ext (((Ext.refl _).alloc _).trans x)
theorem wb_box (w w' : World) (x : Ext (wb w) w') : w'.cell? ⟨w.heap.size + 1, 0, none⟩ = some (.int .i64 4) ∧ w'.cell? ⟨w.heap.size + 1, 1, none⟩ = some (.slice (some ⟨w.heap.size, 0, none⟩) 4 4) ∧ w'.cell? ⟨w.heap.size + 1 + 1 + 1, 0, none⟩ = some (.int .i64 2) ∧ w'.cell? ⟨w.heap.size + 1 + 1 + 1, 1, none⟩ = some (.slice (some ⟨w.heap.size + 1 + 1, 0, none⟩) 2 2) := by
  have h1 := heap_alloc_new (w.alloc (.cells #[.int .i64 0, .int .i64 1, .int .i64 1, .int .i64 2, .int .i64 2, .int .i64 0, .int .i64 2, .int .i64 3] 37)) (.cells #[.int .i64 4, .slice (some ⟨w.heap.size, 0, none⟩) 4 4] 24)
  rw [World.size_alloc] at h1
  have h2 := heap_ext h1 ((((Ext.refl _).alloc (.cells #[.int .i64 0, .int .i64 1, .int .i64 0, .int .i64 1] 37)).alloc (.cells #[.int .i64 2, .slice (some ⟨w.heap.size + 1 + 1, 0, none⟩) 2 2] 24)).trans x)
  have h3 := heap_alloc_new (((w.alloc (.cells #[.int .i64 0, .int .i64 1, .int .i64 1, .int .i64 2, .int .i64 2, .int .i64 0, .int .i64 2, .int .i64 3] 37)).alloc (.cells #[.int .i64 4, .slice (some ⟨w.heap.size, 0, none⟩) 4 4] 24)).alloc (.cells #[.int .i64 0, .int .i64 1, .int .i64 0, .int .i64 1] 37)) (.cells #[.int .i64 2, .slice (some ⟨w.heap.size + 1 + 1, 0, none⟩) 2 2] 24)
  rw [World.size_alloc, World.size_alloc, World.size_alloc] at h3
  have h4 := heap_ext h3 x
  exact ⟨by rw [Lib.cell_of_heap h2]; rfl, by rw [Lib.cell_of_heap h2]; rfl, by rw [Lib.cell_of_heap h4]; rfl, by rw [Lib.cell_of_heap h4]; rfl⟩
theorem conn1 (w w' : World) (x : Ext (wb w) w') : Calls Try.prog 13 #[.agg #[.int .i64 4, .slice (some ⟨w.heap.size, 0, none⟩) 4 4]] w' fun e w2 => e = .returned (.bool true) ∧ Ext w' w2 := by
  refine (conn_any 4 _ A1 4 w' (by decide) (wb_arc1 w w' x) (by decide) a1_ok).mono ?_
  rintro e w2 ⟨rfl, x2⟩
  exact ⟨by rw [a1_comp]; rfl, x2⟩
theorem brid1 (VIS : Vis) (w w' : World) (x : Ext (wb w) w') : Calls Try.prog 16 #[.agg #[.int .i64 4, .slice (some ⟨w.heap.size, 0, none⟩) 4 4]] w' fun e w2 => (∃ b c, e = .returned (.slice b 1 c) ∧ IntIn w2 b [3]) ∧ Ext w' w2 := by
  refine (bridges_of VIS 4 _ A1 4 w' (by decide) (wb_arc1 w w' x) (by decide) a1_ok).mono ?_
  rintro e w2 ⟨⟨b, c, rfl, h⟩, x2⟩
  rw [a1_br] at h
  exact ⟨⟨b, c, by rw [a1_br]; rfl, h⟩, x2⟩
theorem cut1 (VIS : Vis) (w w' : World) (x : Ext (wb w) w') : Calls Try.prog 18 #[.agg #[.int .i64 4, .slice (some ⟨w.heap.size, 0, none⟩) 4 4]] w' fun e w2 => (∃ b c, e = .returned (.slice b 1 c) ∧ IntIn w2 b [2]) ∧ Ext w' w2 := by
  refine (cuts_of VIS 4 _ A1 4 w' (by decide) (wb_arc1 w w' x) (by decide) a1_ok).mono ?_
  rintro e w2 ⟨⟨b, c, rfl, h⟩, x2⟩
  rw [a1_cut] at h
  exact ⟨⟨b, c, by rw [a1_cut]; rfl, h⟩, x2⟩
theorem blk1 (VIS : Vis) (w w' : World) (x : Ext (wb w) w') : Calls Try.prog 22 #[.agg #[.int .i64 4, .slice (some ⟨w.heap.size, 0, none⟩) 4 4]] w' fun e w2 => (∃ b c, e = .returned (.slice b 2 c) ∧ Tp.RowsIn w2 b [[0, 1, 2], [3]]) ∧ Ext w' w2 := by
  refine (blocks_of VIS 4 _ A1 4 w' (by decide) (wb_arc1 w w' x) (by decide) a1_ok).mono ?_
  rintro e w2 ⟨⟨b, c, rfl, h⟩, x2⟩
  have h := h.rows
  rw [a1_blk] at h
  exact ⟨⟨b, c, by rw [a1_blk]; rfl, h⟩, x2⟩
theorem brid2 (VIS : Vis) (w w' : World) (x : Ext (wb w) w') : Calls Try.prog 16 #[.agg #[.int .i64 2, .slice (some ⟨w.heap.size + 1 + 1, 0, none⟩) 2 2]] w' fun e w2 => (∃ b c, e = .returned (.slice b 0 c)) ∧ Ext w' w2 := by
  refine (bridges_of VIS 2 _ A2 2 w' (by decide) (wb_arc2 w w' x) (by decide) a2_ok).mono ?_
  rintro e w2 ⟨⟨b, c, rfl, h⟩, x2⟩
  exact ⟨⟨b, c, by rw [a2_br]; rfl⟩, x2⟩
theorem blk2 (VIS : Vis) (w w' : World) (x : Ext (wb w) w') : Calls Try.prog 22 #[.agg #[.int .i64 2, .slice (some ⟨w.heap.size + 1 + 1, 0, none⟩) 2 2]] w' fun e w2 => (∃ b c, e = .returned (.slice b 1 c) ∧ Tp.RowsIn w2 b [[0, 1]]) ∧ Ext w' w2 := by
  refine (blocks_of VIS 2 _ A2 2 w' (by decide) (wb_arc2 w w' x) (by decide) a2_ok).mono ?_
  rintro e w2 ⟨⟨b, c, rfl, h⟩, x2⟩
  have h := h.rows
  rw [a2_blk] at h
  exact ⟨⟨b, c, by rw [a2_blk]; rfl, h⟩, x2⟩
theorem bic3 (VIS : Vis) (w : World) : Calls Try.prog 20 #[.agg #[.int .i64 1, .slice (some ⟨w.heap.size, 0, none⟩) 1 1]] (w.alloc (.cells #[.int .i64 0, .int .i64 0] 37)) fun e w2 => e = .returned (.bool true) ∧ Ext w w2 := by
  refine (bicon_any VIS 1 _ A3 1 _ (by decide) (arc_lit w [.int .i64 0, .int .i64 0] A3 (fun k hk => by
    have hk2 : k < 1 := hk
    match k, hk2 with
    | 0, _ => exact ⟨rfl, rfl⟩)) (by decide) a3_ok).mono ?_
  rintro e w2 ⟨rfl, x2⟩
  exact ⟨by rw [a3_comp, a3_cut]; rfl, ((Ext.refl w).alloc _).trans x2⟩
theorem arc_nil (w : World) : ArcIn w none (zarc []) := fun k hk => by cases hk
theorem conn4 (w : World) : Calls Try.prog 13 #[.agg #[.int .i64 0, .slice none 0 0]] w fun e w2 => e = .returned (.bool false) ∧ Ext w w2 := by
  refine (conn_any 0 none [] 0 w (by decide) (arc_nil w) (by decide) (nil_ok 0)).mono ?_
  rintro e w2 ⟨rfl, x2⟩
  exact ⟨by rw [nil_comp]; rfl, x2⟩
theorem comp5 (w : World) : Calls Try.prog 11 #[.agg #[.int .i64 2, .slice none 0 0]] w fun e w2 => (∃ b c, e = .returned (.slice b 2 c)) ∧ Ext w w2 := by
  refine (comp_any 2 none [] 0 w (by decide) (arc_nil w) (by decide) (nil_ok 2)).mono ?_
  rintro e w2 ⟨⟨fv, rfl, hr⟩, x2⟩
  obtain ⟨fa, fc, rfl, -⟩ := hr.rows
  exact ⟨⟨fa, fc, by rw [nil2_comp]⟩, x2⟩
theorem lit_in (w : World) (L : List Int) : IntIn (w.alloc (.cells (iv L).toArray 3)) (some ⟨w.heap.size, 0, none⟩) L := fun j hj => by
  refine ⟨_, _, rfl, ?_⟩
  rw [Nat.zero_add, Lib.cell_of_heap (heap_alloc_new w _)]
  unfold iv; simp [hj]
theorem samei (w : World) (a : Option Addr) (c : Nat) (x : Int) (h : IntIn w a [x]) : Calls Try.prog 15 #[.slice a 1 c, .slice (some ⟨w.heap.size, 0, none⟩) 1 1] (w.alloc (.cells #[.int .i64 x] 3)) fun e w2 => e = .returned (.bool true) ∧ Ext w w2 := by
  refine (same_any a _ [x] [x] c 1 _ (h.ext ((Ext.refl w).alloc _)) (lit_in w [x]) (by simp) (by simp)).mono ?_
  rintro e w2 ⟨rfl, x2⟩
  exact ⟨by rw [decide_eq_true rfl], ((Ext.refl w).alloc _).trans x2⟩
theorem lists1 (w : World) (a : Option Addr) (c : Nat) (h : Tp.RowsIn w a [[0, 1, 2], [3]]) : Calls Try.prog 10 #[.slice a 2 c, .slice (some ⟨w.heap.size + 1 + 1, 0, none⟩) 2 2] (((w.alloc (.cells #[.int .i64 0, .int .i64 1, .int .i64 2] 3)).alloc (.cells #[.int .i64 3] 3)).alloc (.cells #[.slice (some ⟨w.heap.size, 0, none⟩) 3 3, .slice (some ⟨w.heap.size + 1, 0, none⟩) 1 1] 31)) fun e w2 => e = .returned (.bool true) ∧ Ext w w2 := by
  have x : Ext w (((w.alloc (.cells #[.int .i64 0, .int .i64 1, .int .i64 2] 3)).alloc (.cells #[.int .i64 3] 3)).alloc (.cells #[.slice (some ⟨w.heap.size, 0, none⟩) 3 3, .slice (some ⟨w.heap.size + 1, 0, none⟩) 1 1] 31)) := (((Ext.refl w).alloc _).alloc _).alloc _
  have h3 := heap_alloc_new ((w.alloc (.cells #[.int .i64 0, .int .i64 1, .int .i64 2] 3)).alloc (.cells #[.int .i64 3] 3)) (.cells #[.slice (some ⟨w.heap.size, 0, none⟩) 3 3, .slice (some ⟨w.heap.size + 1, 0, none⟩) 1 1] 31)
  rw [World.size_alloc, World.size_alloc] at h3
  have l1 := lit_in w [0, 1, 2]
  have l2 := lit_in (w.alloc (.cells #[.int .i64 0, .int .i64 1, .int .i64 2] 3)) [3]
  rw [World.size_alloc] at l2
  refine (sameAll_any a _ [[0, 1, 2], [3]] [[0, 1, 2], [3]] c 2 _ (h.ext x) (fun j hj => ?_) (by decide) (by decide) (by decide) (by decide)).mono ?_
  · have hj2 : j < 2 := hj
    match j, hj2 with
    | 0, _ => exact ⟨_, _, some ⟨w.heap.size, 0, none⟩, 3, rfl, by rw [Lib.cell_of_heap h3]; rfl, l1.ext (((Ext.refl _).alloc _).alloc _)⟩
    | 1, _ => exact ⟨_, _, some ⟨w.heap.size + 1, 0, none⟩, 1, rfl, by rw [Lib.cell_of_heap h3]; rfl, l2.ext ((Ext.refl _).alloc _)⟩
  · rintro e w2 ⟨rfl, x2⟩
    exact ⟨by rw [decide_eq_true rfl], x.trans x2⟩
theorem lists2 (w : World) (a : Option Addr) (c : Nat) (h : Tp.RowsIn w a [[0, 1]]) : Calls Try.prog 10 #[.slice a 1 c, .slice (some ⟨w.heap.size + 1, 0, none⟩) 1 1] ((w.alloc (.cells #[.int .i64 0, .int .i64 1] 3)).alloc (.cells #[.slice (some ⟨w.heap.size, 0, none⟩) 2 2] 31)) fun e w2 => e = .returned (.bool true) ∧ Ext w w2 := by
  have x : Ext w ((w.alloc (.cells #[.int .i64 0, .int .i64 1] 3)).alloc (.cells #[.slice (some ⟨w.heap.size, 0, none⟩) 2 2] 31)) := ((Ext.refl w).alloc _).alloc _
  have h3 := heap_alloc_new (w.alloc (.cells #[.int .i64 0, .int .i64 1] 3)) (.cells #[.slice (some ⟨w.heap.size, 0, none⟩) 2 2] 31)
  rw [World.size_alloc] at h3
  have l1 := lit_in w [0, 1]
  refine (sameAll_any a _ [[0, 1]] [[0, 1]] c 1 _ (h.ext x) (fun j hj => ?_) (by decide) (by decide) (by decide) (by decide)).mono ?_
  · have hj2 : j < 1 := hj
    match j, hj2 with
    | 0, _ => exact ⟨_, _, some ⟨w.heap.size, 0, none⟩, 2, rfl, by rw [Lib.cell_of_heap h3]; rfl, l1.ext ((Ext.refl _).alloc _)⟩
  · rintro e w2 ⟨rfl, x2⟩
    exact ⟨by rw [decide_eq_true rfl], x.trans x2⟩
set_option maxHeartbeats 2000000 in
theorem awake_any (VIS : Vis) (w : World) : Calls Try.prog 9 #[] w fun e w' => e = .returned (.bool true) ∧ Ext w w' := by
  have V := Lib.hid VIS
  clear VIS
  go_enter Try.func9, Try.ntmps9
  go_wp2_with (first
    | (go_at_call 11; refine (comp5 _).mono ?_; rintro e w13 ⟨⟨b13, c13, rfl⟩, x13⟩)
    | (go_at_call 13; refine (conn4 w11).mono ?_; rintro e w12 ⟨rfl, x12⟩)
    | (go_at_call 20; refine (bic3 V.out w10).mono ?_; rintro e w11 ⟨rfl, x11⟩)
    | (go_at_call 10; refine (lists2 w9 _ _ h9).mono ?_; rintro e w10 ⟨rfl, x10⟩)
    | (go_at_call 22; refine (blk2 V.out w w8 X8.out).mono ?_; rintro e w9 ⟨⟨b9, c9, rfl, h9⟩, x9⟩; have X9 := Lib.hid (X8.out.trans x9))
    | (go_at_call 16; refine (brid2 V.out w w7 X7.out).mono ?_; rintro e w8 ⟨⟨b8, c8, rfl⟩, x8⟩; have X8 := Lib.hid (X7.out.trans x8); obtain ⟨-, -, k80, k81⟩ := wb_box w w8 X8.out)
    | (go_at_call 10; refine (lists1 w6 _ _ h6).mono ?_; rintro e w7 ⟨rfl, x7⟩; have X7 := Lib.hid (X6.out.trans x7); obtain ⟨-, -, k70, k71⟩ := wb_box w w7 X7.out)
    | (go_at_call 22; refine (blk1 V.out w w5 X5.out).mono ?_; rintro e w6 ⟨⟨b6, c6, rfl, h6⟩, x6⟩; have X6 := Lib.hid (X5.out.trans x6))
    | (go_at_call 15; refine (samei w4 _ _ 2 h4).mono ?_; rintro e w5 ⟨rfl, x5⟩; have X5 := Lib.hid (X4.out.trans x5); obtain ⟨k50, k51, -, -⟩ := wb_box w w5 X5.out)
    | (go_at_call 18; refine (cut1 V.out w w3 X3.out).mono ?_; rintro e w4 ⟨⟨b4, c4, rfl, h4⟩, x4⟩; have X4 := Lib.hid (X3.out.trans x4))
    | (go_at_call 15; refine (samei w2 _ _ 3 h2).mono ?_; rintro e w3 ⟨rfl, x3⟩; have X3 := Lib.hid (X2.out.trans x3); obtain ⟨k30, k31, -, -⟩ := wb_box w w3 X3.out)
    | (go_at_call 16; refine (brid1 V.out w w1 X1.out).mono ?_; rintro e w2 ⟨⟨b2, c2, rfl, h2⟩, x2⟩; have X2 := Lib.hid (X1.out.trans x2))
    | (go_at_call 13; refine (conn1 w (wb w) (Ext.refl _)).mono ?_; rintro e w1 ⟨rfl, x1⟩; have X1 := Lib.hid x1; obtain ⟨k10, k11, -, -⟩ := wb_box w w1 x1; clear x1))
  go_ret
  exact ⟨rfl, (wb_ext w).trans (X9.out.trans (x10.trans (x11.trans (x12.trans x13))))⟩
end Go.Proofs.Ytaipcpdncmnelaa.Pt

/- An argument that is a digraph, opened. -/
namespace Go.Proofs.Ytaipcpdncmnelaa.Tp
open Go.RowKit Go.Lib Fx Go.ChangeShapes Go.WideShapes Go.Deep

theorem cI : Try.prog.cellsOf 3 = 1 := by kernel_rfl
theorem cArc : Try.prog.cellsOf 37 = 2 := by kernel_rfl
theorem cDig : Try.prog.cellsOf 24 = 2 := by kernel_rfl
theorem add_off2 (g o k j : Nat) : ((⟨g, o, none⟩ : Addr).add (k * 2)).add j = ⟨g, o + k * 2 + j, none⟩ := by
  simp only [Addr.add]
  by_cases h1 : k * 2 = 0
  · rw [h1]; by_cases h2 : j = 0 <;> simp [h2]
  · by_cases h2 : j = 0 <;> simp [h1, h2]
theorem wf_i64 {n : Int} (h : (Lit.int .i64 n).wf = true) : -9223372036854775808 ≤ n ∧ n ≤ 9223372036854775807 := bounds_i64 h
set_option maxRecDepth 100000 in
theorem open_arc {H : Type} {enc : TypeId × Value → H} {W : World} {base : Nat} {sp : Nat → Bool} {held : Bool} {n : Nat} {cs : List Value} {x : DataW H × List MemPlace}
    (h : DataW.trod enc Try.prog W base sp held n 37 cs = some x) : ∃ (k m : Int), cs = [.int .i64 k, .int .i64 m] ∧ -9223372036854775808 ≤ k ∧ k ≤ 9223372036854775807 ∧ -9223372036854775808 ≤ m ∧ m ≤ 9223372036854775807 := by
  obtain ⟨xs, n', _, _, hlen, hxl, hg⟩ := DataW.trod_struct Try.underlying37 h
  rw [cArc] at hlen
  have hxl2 : xs.length = 2 := hxl
  clear hxl
  match cs, hlen with
  | [a, b], _ =>
    obtain ⟨y0, y1, rfl⟩ : ∃ y0 y1, xs = [y0, y1] := by
      match xs, hxl2 with
      | [y0, y1], _ => exact ⟨y0, y1, rfl⟩
    have h0 : DataW.trod enc Try.prog W base sp held n' 3 [a] = some y0 := by simpa [cI] using hg 0 _ rfl
    have h1 : DataW.trod enc Try.prog W base sp held n' 3 [b] = some y1 := by simpa [cI] using hg 1 _ rfl
    obtain ⟨k, e0, _, w0⟩ := DataW.trod_int Try.underlying3 h0
    obtain ⟨m, e1, _, w1⟩ := DataW.trod_int Try.underlying3 h1
    simp only [List.cons.injEq, and_true] at e0 e1
    subst e0; subst e1
    exact ⟨k, m, rfl, (wf_i64 w0).1, (wf_i64 w0).2, wf_i64 w1⟩
set_option maxRecDepth 100000 in
theorem open_arcs {H : Type} {enc : TypeId × Value → H} {W : World} {base : Nat} {sp : Nat → Bool} {held : Bool} {fuel : Nat} {cs : List Value} {x : DataW H × List MemPlace}
    (h : DataW.trod enc Try.prog W base sp held fuel 22 cs = some x) : ∃ (a : Option Addr) (L : ArcZ) (cap : Nat), cs = [.slice a L.length cap] ∧ ArcIn W a L ∧ ArcOk L ∧ L.length ≤ maxLen := by
  rcases open_slice Try.underlying22 h with ⟨rfl, _⟩ | ⟨a, len, cap, m, n, D, Pl, rfl, _, hl, hm, hmm, _, hx⟩
  · exact ⟨none, [], 0, rfl, (fun k h => absurd h (Nat.not_lt_zero _)), (fun t ht => by cases ht), Nat.zero_le _⟩
  · have hlm : len ≤ m := by rw [hmm]; split <;> omega
    rw [cArc] at hx
    have hone : ∀ i, i < len → ∃ t : Int × Int, (-9223372036854775808 ≤ t.1 ∧ t.1 ≤ 9223372036854775807 ∧ -9223372036854775808 ≤ t.2 ∧ t.2 ≤ 9223372036854775807) ∧ ∃ g o, a = ⟨g, o, none⟩ ∧ W.cell? ⟨g, o + i * 2, none⟩ = some (.int .i64 t.1) ∧ W.cell? ⟨g, o + i * 2 + 1, none⟩ = some (.int .i64 t.2) := fun i hi => by
      obtain ⟨cs', h1, h2⟩ := hx i (by omega)
      obtain ⟨k, m, rfl, hb⟩ := open_arc h2
      obtain ⟨_, _, hc⟩ := World.cells?_some h1
      have c0 := hc 0 (by omega); have c1 := hc 1 (by omega)
      obtain ⟨g, o, spot⟩ := a
      have hspot : spot = none := by
        obtain ⟨cs0, q1, q2⟩ := hx 0 (by omega)
        obtain ⟨k0, m0, rfl, _⟩ := open_arc q2
        obtain ⟨_, _, hc0⟩ := World.cells?_some q1
        have h := World.cell?_spot (show W.cell? _ = some (.int .i64 k0) from hc0 0 (by omega))
        simpa [Addr.add] using h
      subst hspot
      rw [add_off2] at c0 c1
      exact ⟨(k, m), hb, g, o, rfl, c0, c1⟩
    obtain ⟨F, hF⟩ := choose_lt (α := Int × Int) hone
    refine ⟨some a, (List.range len).map F, cap, by simp, ?_, ?_, by simp; omega⟩
    · intro k hk
      have hk' : k < len := by simpa using hk
      obtain ⟨_, g, o, rfl, r⟩ := hF k hk'
      exact ⟨g, o, rfl, by simpa using r⟩
    · intro t ht
      obtain ⟨i, hi, rfl⟩ := List.mem_map.1 ht
      exact (hF i (List.mem_range.1 hi)).1
/-- What the walks take of an argument that is a digraph. -/
def DigArg (w : World) (v : Value) : Prop := ∃ (n : Int) (a : Option Addr) (L : ArcZ) (cap : Nat), v = .agg #[.int .i64 n, .slice a L.length cap] ∧ -9223372036854775808 ≤ n ∧ n ≤ 9223372036854775807 ∧ ArcIn w a L ∧ ArcOk L ∧ L.length ≤ 9223372036854775807
set_option maxRecDepth 100000 in
theorem dig_arg {H : Type} {enc : TypeId × Value → H} {W : World} {r : Reach} {b base : Nat} {sp : Nat → Bool} {held : Bool} {v : Value} {d : DataW H} {p : List MemPlace}
    (hv : Value.okWide Try.prog W r b 24 v) (h : DataW.Trod enc Try.prog W base sp held 24 v d p) : DigArg W v := by
  obtain ⟨v0, v1, y0, y1, n, rfl, rfl, rfl, h0, h1⟩ := Go.Joins.open_agg2 Try.underlying24 (by kernel_rfl) cDig hv h
  have h0 : DataW.trod enc Try.prog W base sp held n 3 [v0] = some y0 := h0
  have h1 : DataW.trod enc Try.prog W base sp held n 22 [v1] = some y1 := h1
  obtain ⟨k, e0, _, w0⟩ := DataW.trod_int Try.underlying3 h0
  obtain ⟨a, L, c, e1, i1, k1, m1⟩ := open_arcs h1
  simp only [List.cons.injEq, and_true] at e0 e1
  subst e0; subst e1
  unfold maxLen at m1
  exact ⟨k, a, L, c, rfl, (wf_i64 w0).1, (wf_i64 w0).2, i1, k1, m1⟩
end Go.Proofs.Ytaipcpdncmnelaa.Tp
