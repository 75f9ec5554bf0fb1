/- Packed texts: TopMem, TopVal, TopSort, TopSame -/
import Derived.Test.YtjjcjoedgmfalaaPt01
import Derived.Deep.AppendLies
import Derived.Deep.LoopGhost
import Derived.Deep.RegionHeld3
import Derived.Deep.QuietTactic
import Derived.BigQuiet
import Derived.BigRegion
import Derived.Lib.Builder
import Derived.OneCell
import Derived.Deep.OwnRows
import Derived.Laws.OwnMore
import Derived.Test.YtjjcjoedgmfalaaShelf
set_option linter.unusedVariables false
set_option linter.unusedSimpArgs false
/- A digraph in memory: its arcs behind a slice; rows of numbers in blocks of their own. -/
namespace Go.Proofs.Ytjjcjoedgmfalaa.Tp
open Go.RowKit Go.Sort Go.Lib Fx

/-- The arcs as they lie in memory. -/
abbrev ArcZ := List (Int × Int)
def ArcIn (w : World) (a : Option Addr) (L : ArcZ) : Prop :=
  ∀ k (h : k < L.length), ∃ g o, a = some ⟨g, o, none⟩ ∧ w.cell? ⟨g, o + k * 2, none⟩ = some (.int .i64 L[k].1) ∧ w.cell? ⟨g, o + k * 2 + 1, none⟩ = some (.int .i64 L[k].2)
theorem ArcIn.ext {w w' : World} {a : Option Addr} {L : ArcZ} (h : ArcIn w a L) (x : Ext w w') : ArcIn w' a L := fun k hk => by
  obtain ⟨g, o, ha, h0, h1⟩ := h k hk
  exact ⟨g, o, ha, x.cell h0, x.cell h1⟩
/-- The ends are numbers of the machine. -/
def ArcOk (L : ArcZ) : Prop := ∀ p ∈ L, -9223372036854775808 ≤ p.1 ∧ p.1 ≤ 9223372036854775807 ∧ -9223372036854775808 ≤ p.2 ∧ p.2 ≤ 9223372036854775807
def goodP (n : Int) (p : Int × Int) : Bool := decide (0 ≤ p.1 ∧ 0 ≤ p.2 ∧ p.1 < n ∧ p.2 < n)
def validL (n : Int) (L : ArcZ) : Bool := decide (0 ≤ n ∧ n ≤ 64 ∧ L.length ≤ 256) && L.all (goodP n)
/-- A valid digraph in plain numbers. -/
theorem valid_nat {n : Int} {L : ArcZ} (h : validL n L = true) : ∃ (N : Nat) (A : Arcs), n = N ∧ N ≤ 64 ∧ L = A.map (fun p => ((p.1 : Int), (p.2 : Int))) ∧ A.length ≤ 256 ∧ Ok N A := by
  unfold validL at h
  rw [Bool.and_eq_true, decide_eq_true_eq, List.all_eq_true] at h
  obtain ⟨⟨h0, h1, h2⟩, h3⟩ := h
  refine ⟨n.toNat, L.map (fun p => (p.1.toNat, p.2.toNat)), by omega, by omega, ?_, by simpa using h2, fun p hp => ?_⟩
  · rw [List.map_map]
    have : L.map id = L := List.map_id _
    conv => lhs; rw [← this]
    refine List.map_congr_left fun p hp => ?_
    have := of_decide_eq_true (h3 p hp)
    obtain ⟨a, b⟩ := p
    simp only [Function.comp, id] at this ⊢
    rw [Int.toNat_of_nonneg this.1, Int.toNat_of_nonneg this.2.1]
  · obtain ⟨q, hq, rfl⟩ := List.mem_map.1 hp
    have := of_decide_eq_true (h3 q hq)
    simp only; omega
def zarc (A : Arcs) : ArcZ := A.map (fun p => ((p.1 : Int), (p.2 : Int)))
theorem zarc_len (A : Arcs) : (zarc A).length = A.length := by simp [zarc]
theorem zarc_at (A : Arcs) (k : Nat) (h : k < A.length) : (zarc A)[k]'(by rw [zarc_len]; exact h) = ((A[k].1 : Int), (A[k].2 : Int)) := by simp [zarc]

/-! ### rows of numbers -/
theorem own_ext' {w w' : World} {B : Nat} {e : TypeId} {sz : Nat} {v : Value} {n : Nat} {xs : List Value} (h : w.ownsRow B e sz v n xs) (x : Ext w w') : w'.ownsRow B e sz v n xs := by
  refine ⟨h.1, ?_⟩
  rcases h.2 with h1 | ⟨g, cap, cur, hv, hb, hg, r⟩
  · exact .inl h1
  · exact .inr ⟨g, cap, cur, hv, hb, (x.block g (Array.getElem?_eq_some_iff.1 hg).1).trans hg, r⟩
def zl (L : List Nat) : List Int := L.map (fun x : Nat => (x : Int))
theorem zl_len (L : List Nat) : (zl L).length = L.length := by simp [zl]
theorem zl_app (L M : List Nat) : zl (L ++ M) = zl L ++ zl M := by simp [zl]
theorem zl_at (L : List Nat) (k : Nat) (h : k < L.length) : (zl L)[k]'(by rw [zl_len]; exact h) = (L[k] : Int) := by simp [zl]
def iv (L : List Int) : List Value := L.map (Value.int .i64)
theorem iv_len (L : List Int) : (iv L).length = L.length := by simp [iv]
theorem iv_app (L M : List Int) : iv (L ++ M) = iv L ++ iv M := by simp [iv]
/-- Numbers behind a slice. -/
def IntIn (w : World) (a : Option Addr) (L : List Int) : Prop :=
  ∀ j (h : j < L.length), ∃ g o, a = some ⟨g, o, none⟩ ∧ w.cell? ⟨g, o + j, none⟩ = some (.int .i64 L[j])
theorem IntIn.ext {w w' : World} {a : Option Addr} {L : List Int} (h : IntIn w a L) (x : Ext w w') : IntIn w' a L := fun j hj => by
  obtain ⟨g, o, ha, h0⟩ := h j hj
  exact ⟨g, o, ha, x.cell h0⟩
theorem add_at (g j : Nat) : (⟨g, 0, none⟩ : Addr).add j = ⟨g, j, none⟩ := by
  simp [Addr.add]; exact fun h => h.symm
theorem own_ints {w : World} {B n : Nat} {v : Value} {L : List Int} (h : w.ownsRow B 3 1 v n (iv L)) (hn : n = L.length) : ∃ a c, v = .slice a L.length c ∧ IntIn w a L ∧ (L = [] ∨ ∃ g, a = some ⟨g, 0, none⟩) := by
  subst hn
  rcases h.2 with ⟨h1, h2⟩ | ⟨g, cap, cur, hv, _, hg, _⟩
  · have : L = [] := List.eq_nil_of_length_eq_zero h2
    subst this
    exact ⟨_, _, h1, fun k hk => absurd hk (by simp), .inl rfl⟩
  · refine ⟨_, cap, hv, fun k hk => ⟨g, 0, rfl, ?_⟩, .inr ⟨g, rfl⟩⟩
    have hc := h.cells (g := g) (by rw [hv]; rfl) k (.int .i64 L[k]) (by unfold iv; rw [List.getElem?_map, List.getElem?_eq_getElem hk]; rfl)
    rw [add_at] at hc
    rw [Nat.zero_add]; exact hc
/-- A whole block of numbers. -/
def BlkI (w : World) (b : Nat) (L : List Int) : Prop := w.heap[b]? = some (.cells (iv L).toArray 3 (0, 0))
def bv (L : List Bool) : List Value := L.map Value.bool
def BlkB (w : World) (b : Nat) (L : List Bool) : Prop := w.heap[b]? = some (.cells (bv L).toArray 4 (0, 0))
theorem BlkI.cell {w : World} {b : Nat} {L : List Int} (h : BlkI w b L) {j : Nat} (hj : j < L.length) : w.cell? ⟨b, j, none⟩ = some (.int .i64 L[j]) := by
  rw [Lib.cell_of_heap h]; unfold iv; simp [hj]
theorem BlkI.cell0 {w : World} {b : Nat} {L : List Int} (h : BlkI w b L) {j : Nat} (hj : j < L.length) : w.cell? ⟨b, 0 + j, none⟩ = some (.int .i64 (L.getD j 0)) := by
  rw [Nat.zero_add, h.cell hj, List.getD_eq_getElem?_getD, List.getElem?_eq_getElem hj]; rfl
theorem BlkB.cell0 {w : World} {b : Nat} {L : List Bool} (h : BlkB w b L) {j : Nat} (hj : j < L.length) : w.cell? ⟨b, 0 + j, none⟩ = some (.bool (L.getD j false)) := by
  rw [Nat.zero_add, Lib.cell_of_heap h, List.getD_eq_getElem?_getD, List.getElem?_eq_getElem hj]; unfold bv; simp [hj]
theorem BlkI.cellD {w : World} {b : Nat} {L : List Int} (h : BlkI w b L) {j : Nat} (hj : j < L.length) : w.cell? ⟨b, j, none⟩ = some (.int .i64 (L.getD j 0)) := by
  have := h.cell0 hj; rwa [Nat.zero_add] at this
theorem BlkB.cellD {w : World} {b : Nat} {L : List Bool} (h : BlkB w b L) {j : Nat} (hj : j < L.length) : w.cell? ⟨b, j, none⟩ = some (.bool (L.getD j false)) := by
  have := h.cell0 hj; rwa [Nat.zero_add] at this
theorem BlkI.frozen {w : World} {b : Nat} {L : List Int} (h : BlkI w b L) (j : Nat) : w.frozen? ⟨b, j, none⟩ = false := Lib.frozen_of_heap h j
theorem BlkB.frozen {w : World} {b : Nat} {L : List Bool} (h : BlkB w b L) (j : Nat) : w.frozen? ⟨b, j, none⟩ = false := Lib.frozen_of_heap h j
theorem heap_set {w : World} {B : Nat} {cs : Array Value} {T : TypeId} (h : w.heap[B]? = some (.cells cs T (0, 0))) (i : Nat) (v : Value) :
    (w.setCell ⟨B, i, none⟩ v).heap[B]? = some (.cells (cs.setIfInBounds i v) T (0, 0)) := by
  unfold World.setCell
  simp [Array.getElem?_modify, h]
theorem BlkI.set {w : World} {b : Nat} {L : List Int} (h : BlkI w b L) (j : Nat) (x : Int) : BlkI (w.setCell ⟨b, j, none⟩ (.int .i64 x)) b (L.set j x) := by
  have := heap_set h j (.int .i64 x)
  unfold BlkI; rw [this]; unfold iv
  simp [List.map_set]
theorem BlkB.set {w : World} {b : Nat} {L : List Bool} (h : BlkB w b L) (j : Nat) (x : Bool) : BlkB (w.setCell ⟨b, j, none⟩ (.bool x)) b (L.set j x) := by
  have := heap_set h j (.bool x)
  unfold BlkB; rw [this]; unfold bv
  simp [List.map_set]
theorem heap_ext {w w' : World} {b : Nat} {o : Obj} (h : w.heap[b]? = some o) (x : Ext w w') : w'.heap[b]? = some o :=
  (x.block b (Array.getElem?_eq_some_iff.1 h).1).trans h
theorem BlkI.ext {w w' : World} {b : Nat} {L : List Int} (h : BlkI w b L) (x : Ext w w') : BlkI w' b L := heap_ext h x
theorem BlkB.ext {w w' : World} {b : Nat} {L : List Bool} (h : BlkB w b L) (x : Ext w w') : BlkB w' b L := heap_ext h x
theorem BlkI.lt {w : World} {b : Nat} {L : List Int} (h : BlkI w b L) : b < w.heap.size := (Array.getElem?_eq_some_iff.1 h).1
theorem BlkB.lt {w : World} {b : Nat} {L : List Bool} (h : BlkB w b L) : b < w.heap.size := (Array.getElem?_eq_some_iff.1 h).1
theorem made_eq (z : Value) (n : Nat) : madeCells #[z] n = (List.replicate n z).toArray := by
  apply Array.toList_inj.1; rw [toList_madeCells_one]
theorem BlkI.made (w : World) (n : Nat) : BlkI (w.alloc (.cells (madeCells #[.int .i64 0] n) 3)) w.heap.size (List.replicate n 0) := by
  have h := heap_alloc_new w (.cells (madeCells #[.int .i64 0] n) 3)
  unfold BlkI iv; rw [h, made_eq, List.map_replicate]
theorem BlkB.made (w : World) (n : Nat) : BlkB (w.alloc (.cells (madeCells #[.bool false] n) 4)) w.heap.size (List.replicate n false) := by
  have h := heap_alloc_new w (.cells (madeCells #[.bool false] n) 4)
  unfold BlkB bv; rw [h, made_eq, List.map_replicate]
theorem BlkI.intIn {w : World} {b : Nat} {L : List Int} (h : BlkI w b L) : IntIn w (some ⟨b, 0, none⟩) L := fun j hj => ⟨b, 0, rfl, by rw [Nat.zero_add]; exact h.cell hj⟩
/-- Another block is as it was. -/
theorem heap_other {w : World} {b c : Nat} {o : Obj} (h : w.heap[b]? = some o) (j : Nat) (v : Value) (hne : b ≠ c) : (w.setCell ⟨c, j, none⟩ v).heap[b]? = some o := by
  rw [Below.heap_setCell _ _ _ _ hne]; exact h
theorem heap_grown {w w' : World} {b : Nat} {o : Obj} {row : Option Nat} (h : w.heap[b]? = some o) (g : w.grownBy w' row) (hne : some b ≠ row) : w'.heap[b]? = some o :=
  (g.block b (Array.getElem?_eq_some_iff.1 h).1 hne).trans h
theorem info_int : (Try.prog.info? 3).map (fun i => (i.zero, i.size, i.bytes)) = some (some (.int .i64 0), 1, 8) := by kernel_rfl
theorem info_bool : (Try.prog.info? 4).map (fun i => (i.zero, i.size, i.bytes)) = some (some (.bool false), 1, 1) := by kernel_rfl
theorem info_row : (Try.prog.info? 26).map (fun i => (i.zero, i.size, i.bytes)) = some (some (.slice none 0 0), 1, 24) := by kernel_rfl
end Go.Proofs.Ytjjcjoedgmfalaa.Tp

/- Both Valid functions return validL. -/
namespace Go.Proofs.Ytjjcjoedgmfalaa.Tp
open Go.RowKit Go.Sort Go.Lib Fx

theorem ret_bool {a b : Bool} (h : a = b) : Ending.returned (.bool a) = .returned (.bool b) := by rw [h]
theorem validL_bad {n : Int} {L : ArcZ} {k : Nat} (h : k < L.length) (hb : goodP n (L[k].1, L[k].2) = false) : validL n L = false := by
  unfold validL
  have : L.all (goodP n) = false := by
    rw [List.all_eq_false]
    exact ⟨L[k], List.getElem_mem h, by simpa using hb⟩
  rw [this, Bool.and_false]
theorem goodP_at {n : Int} {L : ArcZ} {k : Nat} (h : k < L.length) : goodP n L[k] = goodP n (L[k].1, L[k].2) := rfl
set_option maxHeartbeats 4000000 in
theorem valid_any (n : Int) (a : Option Addr) (L : ArcZ) (cap : Nat) (w : World) (hn0 : -9223372036854775808 ≤ n) (hn1 : n ≤ 9223372036854775807) (h : ArcIn w a L) (hk : ArcOk L) (hL : L.length ≤ 9223372036854775807) :
    Calls Try.prog 22 #[.agg #[.int .i64 n, .slice a L.length cap]] w fun e w' => e = .returned (.bool (validL n L)) ∧ Ext w w' := by
  obtain ⟨M, hM⟩ : ∃ M, M = L.length := ⟨_, rfl⟩
  have HI := Lib.hid h
  have HK := Lib.hid hk
  rw [← hM] at hL ⊢
  have HM := Lib.hid hM
  clear h hk hM
  by_cases c0 : n < 0
  · have hf : validL n L = false := by unfold validL; rw [decide_eq_false (by omega)]; rfl
    rw [hf]
    go_enter Try.func22, Try.ntmps22
    go_wp2
    go_ret
    exact ⟨rfl, (Ext.refl _).alloc _⟩
  by_cases c1 : 64 < n
  · have hf : validL n L = false := by unfold validL; rw [decide_eq_false (by omega)]; rfl
    rw [hf]
    go_enter Try.func22, Try.ntmps22
    go_wp2
    go_ret
    exact ⟨rfl, (Ext.refl _).alloc _⟩
  by_cases c2 : 256 < M
  · have hf : validL n L = false := by unfold validL; rw [decide_eq_false (by rw [← HM.out]; omega)]; rfl
    rw [hf]
    go_enter Try.func22, Try.ntmps22
    go_wp2
    go_ret
    exact ⟨rfl, (Ext.refl _).alloc _⟩
  go_enter Try.func22, Try.ntmps22
  go_wp2
  go_loopw [22] (fun i' wr => ∃ k : Nat, k ≤ M ∧ i' = .int .i64 k ∧ Hid (∀ j (hj : j < L.length), j < k → goodP n L[j] = true) ∧ Ext w wr ∧ wr.cell? ⟨w.heap.size, 0, none⟩ = some (.int .i64 n)) (fun i' _ => M - (RowKit.intOf i').toNat)
  case atStart => exact ⟨0, by omega, rfl, Lib.hid (fun j _ h => absurd h (by omega)), (Ext.refl _).alloc _, by go_simp⟩
  case round =>
    obtain ⟨k, hk, rfl, hall, hx, hc⟩ := hrel
    by_cases hlt : k < M
    · have hkl : k < L.length := by rw [← HM.out]; exact hlt
      obtain ⟨g, o, rfl, d0, d1⟩ := (HI.out.ext hx) k hkl
      have hok := HK.out _ (List.getElem_mem hkl)
      obtain ⟨x, hxe⟩ : ∃ x, x = L[k].1 := ⟨_, rfl⟩
      obtain ⟨y, hye⟩ : ∃ y, y = L[k].2 := ⟨_, rfl⟩
      rw [← hxe] at d0 hok; rw [← hye] at d1 hok
      have HX := Lib.hid hxe
      have HY := Lib.hid hye
      clear hxe hye
      obtain ⟨o0, o1, o2, o3⟩ := hok
      have hc' : ∀ o, (wr.alloc o).cell? ⟨w.heap.size, 0, none⟩ = some (.int .i64 n) := fun o => ((Ext.refl wr).alloc o).cell hc
      by_cases hxy : x ≤ y
      · by_cases e0 : x < 0
        · skip
          have hf : Hid (validL n L = false) := Lib.hid (validL_bad hkl (by rw [← HX.out, ← HY.out]; unfold goodP; exact decide_eq_false (by omega)))
          clear hall
          go_wp2
          all_goals go_ret
          all_goals exact ⟨ret_bool hf.out.symm, hx.alloc _⟩
        by_cases e1 : n ≤ y
        · skip
          have hf : Hid (validL n L = false) := Lib.hid (validL_bad hkl (by rw [← HX.out, ← HY.out]; unfold goodP; exact decide_eq_false (by omega)))
          clear hall
          go_wp2
          all_goals go_ret
          all_goals exact ⟨ret_bool hf.out.symm, hx.alloc _⟩
        have hg : Hid (∀ j (hj : j < L.length), j < k + 1 → goodP n L[j] = true) := Lib.hid (fun j hj hjk => by
          by_cases e : j = k
          · subst e; rw [goodP_at, ← HX.out, ← HY.out]; unfold goodP; exact decide_eq_true (by omega)
          · exact hall.out j hj (by omega))
        clear hall
        go_wp2
        all_goals go_roundw
        all_goals first | exact ⟨k + 1, by omega, by go_num, hg, hx.alloc _, hc' _⟩ | (simp [RowKit.intOf]; omega)
      · by_cases e0 : y < 0
        · skip
          have hf : Hid (validL n L = false) := Lib.hid (validL_bad hkl (by rw [← HX.out, ← HY.out]; unfold goodP; exact decide_eq_false (by omega)))
          clear hall
          go_wp2
          all_goals go_ret
          all_goals exact ⟨ret_bool hf.out.symm, hx.alloc _⟩
        by_cases e1 : n ≤ x
        · skip
          have hf : Hid (validL n L = false) := Lib.hid (validL_bad hkl (by rw [← HX.out, ← HY.out]; unfold goodP; exact decide_eq_false (by omega)))
          clear hall
          go_wp2
          all_goals go_ret
          all_goals exact ⟨ret_bool hf.out.symm, hx.alloc _⟩
        have hg : Hid (∀ j (hj : j < L.length), j < k + 1 → goodP n L[j] = true) := Lib.hid (fun j hj hjk => by
          by_cases e : j = k
          · subst e; rw [goodP_at, ← HX.out, ← HY.out]; unfold goodP; exact decide_eq_true (by omega)
          · exact hall.out j hj (by omega))
        clear hall
        go_wp2
        all_goals go_roundw
        all_goals first | exact ⟨k + 1, by omega, by go_num, hg, hx.alloc _, hc' _⟩ | (simp [RowKit.intOf]; omega)
    · have hf : Hid (validL n L = true) := Lib.hid (by
        unfold validL; rw [decide_eq_true (by rw [← HM.out]; omega), Bool.true_and, List.all_eq_true]
        intro p hp
        obtain ⟨j, hj, rfl⟩ := List.getElem_of_mem hp
        exact hall.out j hj (by rw [← HM.out] at hj; omega))
      clear hall
      go_wp2
      go_ret
      exact ⟨ret_bool hf.out.symm, hx⟩
end Go.Proofs.Ytjjcjoedgmfalaa.Tp

/- slices.Sort on a row of the call's own; worlds that differ in some blocks alone. -/
namespace Go.Proofs.Ytjjcjoedgmfalaa.Tp
open Go.RowKit Go.Sort Go.Lib Fx

/-- Nothing of what was there has turned but the blocks of S. -/
structure Keep (S : Nat → Prop) (w w' : World) : Prop where
  os : w'.os = w.os
  tape : w'.tape = w.tape
  output : w'.output = w.output
  size : w.heap.size ≤ w'.heap.size
  block : ∀ k, k < w.heap.size → ¬ S k → w'.heap[k]? = w.heap[k]?
theorem Keep.refl (S : Nat → Prop) (w : World) : Keep S w w := ⟨rfl, rfl, rfl, Nat.le_refl _, fun _ _ _ => rfl⟩
theorem Keep.of {S : Nat → Prop} {a b : World} (h : Ext a b) : Keep S a b := ⟨h.os, h.tape, h.output, h.size, fun k hk _ => h.block k hk⟩
theorem Keep.mono {S T : Nat → Prop} {a b : World} (h : Keep S a b) (hs : ∀ k, k < a.heap.size → S k → T k) : Keep T a b := ⟨h.os, h.tape, h.output, h.size, fun k hk ht => h.block k hk (fun x => ht (hs k hk x))⟩
theorem Keep.trans {S : Nat → Prop} {a b c : World} (h : Keep S a b) (k : Keep S b c) : Keep S a c :=
  ⟨k.os.trans h.os, k.tape.trans h.tape, k.output.trans h.output, Nat.le_trans h.size k.size, fun i hi hs => (k.block i (Nat.lt_of_lt_of_le hi h.size) hs).trans (h.block i hi hs)⟩
/-- .. where the second may turn what the first has laid, too. -/
theorem Keep.trans' {S T : Nat → Prop} {a b c : World} (h : Keep S a b) (k : Keep T b c) (hs : ∀ i, i < a.heap.size → T i → S i) : Keep S a c :=
  ⟨k.os.trans h.os, k.tape.trans h.tape, k.output.trans h.output, Nat.le_trans h.size k.size, fun i hi hn => (k.block i (Nat.lt_of_lt_of_le hi h.size) (fun x => hn (hs i hi x))).trans (h.block i hi hn)⟩
theorem Keep.ext {S : Nat → Prop} {a b c : World} (h : Keep S a b) (x : Ext b c) : Keep S a c := h.trans (.of x)
theorem Keep.alloc {S : Nat → Prop} {a b : World} (h : Keep S a b) (o : Obj) : Keep S a (b.alloc o) := h.ext ((Ext.refl _).alloc o)
theorem Keep.drew {S : Nat → Prop} {a b : World} (h : Keep S a b) : Keep S a b.drew := h.ext ((Ext.refl _).drew)
theorem Keep.setCell {S : Nat → Prop} {a b : World} (h : Keep S a b) (p : Addr) (u : Value) (hp : S p.block ∨ a.heap.size ≤ p.block) : Keep S a (b.setCell p u) :=
  ⟨h.os, h.tape, h.output, by have := h.size; simpa [World.setCell] using this, fun k hk hn => (Below.heap_setCell _ _ _ _ (fun e => hp.elim (fun hp => hn (by rw [e]; exact hp)) (fun hp => by omega))).trans (h.block k hk hn)⟩
theorem Keep.grown {S : Nat → Prop} {a b c : World} {row : Option Nat} (h : Keep S a b) (g : b.grownBy c row) (hr : ∀ k, row = some k → k < a.heap.size → S k) : Keep S a c :=
  ⟨g.os.trans h.os, g.tape.trans h.tape, g.output.trans h.output, Nat.le_trans h.size g.size, fun k hk hn => (g.block k (Nat.lt_of_lt_of_le hk h.size) (fun e => hn (hr k e.symm hk))).trans (h.block k hk hn)⟩
theorem Keep.heap {S : Nat → Prop} {a b : World} (h : Keep S a b) {k : Nat} {o : Obj} (ho : a.heap[k]? = some o) (hn : ¬ S k) : b.heap[k]? = some o :=
  (h.block k (Array.getElem?_eq_some_iff.1 ho).1 hn).trans ho
theorem Keep.cell {S : Nat → Prop} {a b : World} (h : Keep S a b) {p : Addr} {v : Value} (hv : a.cell? p = some v) (hn : ¬ S p.block) : b.cell? p = some v := by
  rw [World.cell?_of_block (w := a) (h.block _ (World.block_lt_of_cell? _ _ hv) hn)]; exact hv
theorem Keep.below {S : Nat → Prop} {a b : World} (h : Keep S a b) {n : Nat} (hn : n ≤ a.heap.size) (hs : ∀ k, k < n → ¬ S k) : Below n a b :=
  ⟨h.os, h.tape, h.output, h.size, fun k hk => h.block k (by omega) (hs k hk)⟩
theorem Keep.extW {S : Nat → Prop} {w a b : World} (x : Ext w a) (h : Keep S a b) (hs : ∀ k, k < w.heap.size → ¬ S k) : Ext w b := Below.trans x (h.below x.size hs)
theorem keep_putRow (w : World) (n blk off : Nat) (d : Array Int) (os : Array Obj) : Keep (· = blk) w (grow (putRow (Value.int .i64) (Sort.ahead w n) blk off d) os) := by
  refine ⟨rfl, rfl, rfl, by simp [grow, putRow, mapBlock, Sort.ahead], fun k hk hn => ?_⟩
  rw [Sort.heap_grow_old _ _ (by simp [putRow, mapBlock, Sort.ahead]; exact hk)]
  unfold putRow mapBlock
  simp only [Sort.ahead, Array.getElem?_modify]
  rw [if_neg (fun e => hn e.symm)]
theorem merge_nat (s : List Nat) : ∃ l : List Nat, (zl s).mergeSort (fun x y => decide (x ≤ y)) = zl l ∧ l.Perm s ∧ l.Pairwise (· ≤ ·) := by
  have hp := List.mergeSort_perm (zl s) (fun x y => decide (x ≤ y))
  have hs := List.pairwise_mergeSort (le := fun x y : Int => decide (x ≤ y)) (fun a b c => by simp; omega) (fun a b => by simp; omega) (zl s)
  generalize (zl s).mergeSort (fun x y => decide (x ≤ y)) = M at hp hs
  have hnn : ∀ x ∈ M, 0 ≤ x := fun x hx => by
    have := hp.mem_iff.1 hx
    obtain ⟨y, _, rfl⟩ := List.mem_map.1 this
    omega
  have hz : M = zl (M.map Int.toNat) := by
    unfold zl; rw [List.map_map]
    conv => lhs; rw [← List.map_id M]
    refine List.map_congr_left fun x hx => ?_
    have := hnn x hx
    simp only [Function.comp, id]; omega
  refine ⟨M.map Int.toNat, hz, ?_, ?_⟩
  · have := hp.map Int.toNat
    have e : (zl s).map Int.toNat = s := by
      unfold zl; rw [List.map_map]
      conv => rhs; rw [← List.map_id s]
      exact List.map_congr_left fun x _ => by simp
    rw [e] at this
    exact this
  · rw [List.pairwise_map]
    refine hs.imp_of_mem fun {a b} ha hb h => ?_
    have := of_decide_eq_true h
    have := hnn a ha
    omega
theorem own_holds {w : World} {B n : Nat} {v : Value} {L : List Int} (h : w.ownsRow B 3 1 v n (iv L)) (hL : L ≠ []) : ∃ g c, v = .slice (some ⟨g, 0, none⟩) L.length c ∧ B ≤ g ∧ g < w.heap.size ∧ Holds (Value.int .i64) w g 0 L.toArray := by
  have hn : n = L.length := by have := h.1; rw [iv_len] at this; omega
  rcases h.2 with ⟨_, h2⟩ | ⟨g, cap, cur, rfl, hb, hg, h3, h4, h5, h6⟩
  · exact absurd (List.eq_nil_of_length_eq_zero (by omega)) hL
  · refine ⟨g, cap, by rw [hn], hb, (Array.getElem?_eq_some_iff.1 hg).1, fun j hj => ⟨?_, Lib.frozen_of_heap hg _⟩⟩
    have hj' : j < L.length := by simpa using hj
    have hc := h.cells (g := g) rfl j (.int .i64 L[j]) (by unfold iv; rw [List.getElem?_map, List.getElem?_eq_getElem hj']; rfl)
    rw [add_at] at hc
    rw [Nat.zero_add, hc]
    simp [hj']
theorem sort_own {B n : Nat} {v : Value} {s : List Nat} (w : World) (h : w.ownsRow B 3 1 v n (iv (zl s))) (hs : s.length < 4611686018427387904) (hB : B ≤ w.heap.size) :
    Calls Try.prog 24 #[v] w fun e w' => e = .returned (.tuple #[]) ∧ (∃ a c l, v = .slice a s.length c ∧ IntIn w' a (zl l) ∧ l.Perm s ∧ l.Pairwise (· ≤ ·) ∧ (∀ g o, a = some ⟨g, o, none⟩ → B ≤ g)) ∧ Below B w w' := by
  by_cases h0 : s = []
  · subst h0
    have hn : n = 0 := by have := h.1; simpa [iv, zl] using this.symm
    subst hn
    have hv : ∃ a c, v = .slice a 0 c ∧ (∀ g o, a = some ⟨g, o, none⟩ → B ≤ g) := by
      rcases h.2 with ⟨rfl, _⟩ | ⟨g, cap, cur, rfl, hb, _⟩
      · exact ⟨_, _, rfl, fun g o e => by cases e⟩
      · exact ⟨_, _, rfl, fun g' o e => by cases e; exact hb⟩
    obtain ⟨a, c, rfl, hg⟩ := hv
    refine (Try.slices_Sort_int_none a c w).mono ?_
    rintro e w' ⟨rfl, rfl⟩
    exact ⟨rfl, ⟨a, c, [], rfl, fun j hj => absurd hj (by simp [zl]), .refl _, .nil, hg⟩, Below.refl _ _⟩
  · have hz : zl s ≠ [] := by unfold zl; simpa using h0
    obtain ⟨g, c, rfl, hb, hlt, hH⟩ := own_holds h hz
    refine (Try.slices_Sort_int g 0 c (zl s) w hH hlt (by rw [zl_len]; exact hs)).mono ?_
    rintro e w' ⟨rfl, m, os, rfl⟩
    obtain ⟨l, hl, hp, ho⟩ := merge_nat s
    have hsz : l.length = s.length := hp.length_eq
    refine ⟨rfl, ⟨some ⟨g, 0, none⟩, c, l, by rw [zl_len], ?_, hp, ho, fun g' o e => by cases e; exact hb⟩, (keep_putRow w m g 0 _ os).below hB (fun k hk e => by omega)⟩
    rw [hl]
    intro j hj
    refine ⟨g, 0, rfl, ?_⟩
    have h1 := holds_putRow (Value.int .i64) (Sort.ahead w m) g 0 (zl s).toArray (zl l).toArray hH (by simp [zl_len, hsz])
    have h2 := holds_grow (Value.int .i64) _ os g 0 (zl l).toArray (by simp [putRow, mapBlock, Sort.ahead]; exact hlt) h1
    have h3 := (h2 j (by simpa using hj)).1
    rw [h3]; simp [hj]
/-- .. where there are some: the row's block alone has turned. -/
theorem sort_keep {B n : Nat} {v : Value} {s : List Nat} (w : World) (h : w.ownsRow B 3 1 v n (iv (zl s))) (h0 : s ≠ []) (hs : s.length < 4611686018427387904) :
    ∃ g c, v = .slice (some ⟨g, 0, none⟩) s.length c ∧ B ≤ g ∧ g < w.heap.size ∧ Calls Try.prog 24 #[v] w fun e w' => e = .returned (.tuple #[]) ∧ (∃ l, IntIn w' (some ⟨g, 0, none⟩) (zl l) ∧ l.Perm s ∧ l.Pairwise (· ≤ ·)) ∧ Keep (· = g) w w' := by
  have hz : zl s ≠ [] := by unfold zl; simpa using h0
  obtain ⟨g, c, rfl, hb, hlt, hH⟩ := own_holds h hz
  refine ⟨g, c, by rw [zl_len], hb, hlt, ?_⟩
  refine (Try.slices_Sort_int g 0 c (zl s) w hH hlt (by rw [zl_len]; exact hs)).mono ?_
  rintro e w' ⟨rfl, m, os, rfl⟩
  obtain ⟨l, hl, hp, ho⟩ := merge_nat s
  have hsz : l.length = s.length := hp.length_eq
  refine ⟨rfl, ⟨l, ?_, hp, ho⟩, keep_putRow w m g 0 _ os⟩
  rw [hl]
  intro j hj
  refine ⟨g, 0, rfl, ?_⟩
  have h1 := holds_putRow (Value.int .i64) (Sort.ahead w m) g 0 (zl s).toArray (zl l).toArray hH (by simp [zl_len, hsz])
  have h2 := holds_grow (Value.int .i64) _ os g 0 (zl l).toArray (by simp [putRow, mapBlock, Sort.ahead]; exact hlt) h1
  have h3 := (h2 j (by simpa using hj)).1
  rw [h3]; simp [hj]
end Go.Proofs.Ytjjcjoedgmfalaa.Tp

/- Same, SameAll and Has of the document. -/
namespace Go.Proofs.Ytjjcjoedgmfalaa.Tp
open Go.RowKit Go.Sort Go.Lib Fx

theorem ret_bool' {a b : Bool} (h : a = b) : Ending.returned (.bool a) = .returned (.bool b) := by rw [h]
theorem neq_facts {x k : Int} (h : x ≠ k) : (x == k) = false ∧ (x != k) = true := by
  have : (x == k) = false := by rw [beq_eq_false_iff_ne]; exact h
  exact ⟨this, by rw [bne, this]; rfl⟩
theorem eq_facts {x k : Int} (h : x = k) : (x == k) = true ∧ (x != k) = false := by
  have : (x == k) = true := by rw [beq_iff_eq]; exact h
  exact ⟨this, by rw [bne, this]; rfl⟩
theorem list_ext_at {α : Type} {L M : List α} (hl : L.length = M.length) (h : ∀ j (h1 : j < L.length) (h2 : j < M.length), L[j] = M[j]) : L = M := List.ext_getElem hl fun j h1 h2 => h j h1 h2
set_option maxHeartbeats 4000000 in
set_option maxRecDepth 100000 in
theorem same_any (a b : Option Addr) (L M : List Int) (ca cb : Nat) (w : World) (ha : IntIn w a L) (hb : IntIn w b M) (hL : L.length ≤ 4611686018427387904) (hM : M.length ≤ 4611686018427387904) :
    Calls Try.prog 9 #[.slice a L.length ca, .slice b M.length cb] w fun e w' => e = .returned (.bool (decide (L = M))) ∧ Ext w w' := by
  obtain ⟨P, hP⟩ : ∃ P, P = L.length := ⟨_, rfl⟩
  obtain ⟨Q, hQ⟩ : ∃ Q, Q = M.length := ⟨_, rfl⟩
  have HA := Lib.hid ha; have HB := Lib.hid hb
  rw [← hP] at hL ⊢
  rw [← hQ] at hM ⊢
  have HP := Lib.hid hP; have HQ := Lib.hid hQ
  clear ha hb hP hQ
  by_cases hpq : P = Q
  · subst hpq
    obtain ⟨f1, f2⟩ := eq_facts (x := (P : Int)) rfl
    go_enter Try.func9, Try.ntmps9
    go_wp2
    go_loopw [5] (fun i' wr => ∃ k : Nat, k ≤ P ∧ i' = .int .i64 k ∧ Hid (∀ j (h1 : j < L.length) (h2 : j < M.length), j < k → L[j] = M[j]) ∧ Ext w wr) (fun i' _ => P - (RowKit.intOf i').toNat)
    case atStart => exact ⟨0, by omega, rfl, Lib.hid (fun j _ _ h => absurd h (by omega)), Ext.refl _⟩
    case round =>
      obtain ⟨k, hk, rfl, hall, hx⟩ := hrel
      by_cases hlt : k < P
      · have h1 : k < L.length := by rw [← HP.out]; exact hlt
        have h2 : k < M.length := by rw [← HQ.out]; exact hlt
        obtain ⟨g, o, rfl, c0⟩ := (HA.out.ext hx) k h1
        obtain ⟨g2, o2, rfl, d0⟩ := (HB.out.ext hx) k h2
        obtain ⟨x, hxe⟩ : ∃ x, x = L[k] := ⟨_, rfl⟩
        obtain ⟨y, hye⟩ : ∃ y, y = M[k] := ⟨_, rfl⟩
        rw [← hxe] at c0; rw [← hye] at d0
        have HX := Lib.hid hxe
        have HY := Lib.hid hye
        clear hxe hye
        have b0 : (0 : Int) ≤ (k : Int) := by omega
        have b1 : (k : Int) < (P : Int) := by omega
        by_cases e : x = y
        · have hg : Hid (∀ j (h1 : j < L.length) (h2 : j < M.length), j < k + 1 → L[j] = M[j]) := Lib.hid (fun j h1 h2 hj => by
            by_cases e2 : j = k
            · subst e2; rw [← HX.out, ← HY.out]; exact e
            · exact hall.out j h1 h2 (by omega))
          obtain ⟨e1, e2⟩ := eq_facts e
          clear hall e
          go_wp2_with fail
          go_quiet (fail)
          go_wp2
          go_roundw
          case rel => exact ⟨k + 1, by omega, by go_num, hg, by first | exact hx.drewN _ | exact hx.drew⟩
          case measure => simp [RowKit.intOf]; omega
        · have hg : Hid (decide (L = M) = false) := Lib.hid (decide_eq_false (fun h => e (by rw [HX.out, HY.out]; subst h; rfl)))
          obtain ⟨e1, e2⟩ := neq_facts e
          clear hall
          go_wp2_with fail
          go_quiet (fail)
          go_wp2
          go_ret
          exact ⟨ret_bool' hg.out.symm, by first | exact hx.drewN _ | exact hx.drew⟩
      · have hg : Hid (decide (L = M) = true) := Lib.hid (decide_eq_true (list_ext_at (by rw [← HP.out, ← HQ.out]) fun j h1 h2 => hall.out j h1 h2 (by rw [← HP.out] at h1; omega)))
        clear hall
        go_wp2
        go_ret
        exact ⟨ret_bool' hg.out.symm, hx⟩
  · have hg : Hid (decide (L = M) = false) := Lib.hid (decide_eq_false (fun h => hpq (by rw [HP.out, HQ.out, h])))
    obtain ⟨f1, f2⟩ := neq_facts (x := (P : Int)) (k := (Q : Int)) (by omega)
    go_enter Try.func9, Try.ntmps9
    go_wp2
    go_ret
    exact ⟨ret_bool' hg.out.symm, Ext.refl _⟩
/-- Rows of numbers behind a slice. -/
def RowsIn (w : World) (a : Option Addr) (LL : List (List Int)) : Prop :=
  ∀ j (h : j < LL.length), ∃ g o ra rc, a = some ⟨g, o, none⟩ ∧ w.cell? ⟨g, o + j, none⟩ = some (.slice ra LL[j].length rc) ∧ IntIn w ra LL[j]
theorem RowsIn.ext {w w' : World} {a : Option Addr} {LL : List (List Int)} (h : RowsIn w a LL) (x : Ext w w') : RowsIn w' a LL := fun j hj => by
  obtain ⟨g, o, ra, rc, ha, h0, h1⟩ := h j hj
  exact ⟨g, o, ra, rc, ha, x.cell h0, h1.ext x⟩
set_option maxHeartbeats 4000000 in
set_option maxRecDepth 100000 in
theorem sameAll_any (a b : Option Addr) (L M : List (List Int)) (ca cb : Nat) (w : World) (ha : RowsIn w a L) (hb : RowsIn w b M) (hL : L.length ≤ 4611686018427387904) (hM : M.length ≤ 4611686018427387904)
    (kL : ∀ r ∈ L, r.length ≤ 4611686018427387904) (kM : ∀ r ∈ M, r.length ≤ 4611686018427387904) :
    Calls Try.prog 13 #[.slice a L.length ca, .slice b M.length cb] w fun e w' => e = .returned (.bool (decide (L = M))) ∧ Ext w w' := by
  obtain ⟨P, hP⟩ : ∃ P, P = L.length := ⟨_, rfl⟩
  obtain ⟨Q, hQ⟩ : ∃ Q, Q = M.length := ⟨_, rfl⟩
  have HA := Lib.hid ha; have HB := Lib.hid hb; have KL := Lib.hid kL; have KM := Lib.hid kM
  rw [← hP] at hL ⊢
  rw [← hQ] at hM ⊢
  have HP := Lib.hid hP; have HQ := Lib.hid hQ
  clear ha hb hP hQ kL kM
  by_cases hpq : P = Q
  · subst hpq
    obtain ⟨f1, f2⟩ := eq_facts (x := (P : Int)) rfl
    go_enter Try.func13, Try.ntmps13
    go_wp2
    go_loopw [5] (fun i' wr => ∃ k : Nat, k ≤ P ∧ i' = .int .i64 k ∧ Hid (∀ j (h1 : j < L.length) (h2 : j < M.length), j < k → L[j] = M[j]) ∧ Ext w wr) (fun i' _ => P - (RowKit.intOf i').toNat)
    case atStart => exact ⟨0, by omega, rfl, Lib.hid (fun j _ _ h => absurd h (by omega)), Ext.refl _⟩
    case round =>
      obtain ⟨k, hk, rfl, hall, hx⟩ := hrel
      by_cases hlt : k < P
      · have h1 : k < L.length := by rw [← HP.out]; exact hlt
        have h2 : k < M.length := by rw [← HQ.out]; exact hlt
        obtain ⟨g, o, ra, rc, rfl, c0, c1⟩ := (HA.out.ext hx) k h1
        obtain ⟨g2, o2, rb, rd, rfl, d0, d1⟩ := (HB.out.ext hx) k h2
        have hcall := fun w1 (x1 : Ext wr w1) => same_any ra rb L[k] M[k] rc rd w1 (c1.ext x1) (d1.ext x1) (KL.out _ (List.getElem_mem h1)) (KM.out _ (List.getElem_mem h2))
        obtain ⟨x, hxe⟩ : ∃ x, x = L[k] := ⟨_, rfl⟩
        obtain ⟨y, hye⟩ : ∃ y, y = M[k] := ⟨_, rfl⟩
        rw [← hxe] at c0 c1 hcall; rw [← hye] at d0 d1 hcall
        have HX := Lib.hid hxe
        have HY := Lib.hid hye
        have HC := Lib.hid hcall
        clear hxe hye hcall c1 d1
        have b0 : (0 : Int) ≤ (k : Int) := by omega
        have b1 : (k : Int) < (P : Int) := by omega
        by_cases e : x = y
        · have hg : Hid (∀ j (h1 : j < L.length) (h2 : j < M.length), j < k + 1 → L[j] = M[j]) := Lib.hid (fun j h1 h2 hj => by
            by_cases e2 : j = k
            · subst e2; rw [← HX.out, ← HY.out]; exact e
            · exact hall.out j h1 h2 (by omega))
          have HD := Lib.hid (decide_eq_true e)
          rw [HD.out] at HC
          clear hall e
          go_wp2_with fail
          go_region_with (go_at_call 9; refine (HC.out _ (by first | exact (Ext.refl _).drew | exact Ext.refl _)).mono ?_; rintro e w1 ⟨rfl, x1⟩)
          all_goals go_wp2
          all_goals go_roundw
          all_goals first | exact ⟨k + 1, by omega, by go_num, hg, hx.trans (((Ext.refl _).drew).trans x1)⟩ | (simp [RowKit.intOf]; omega)
        · have hg : Hid (decide (L = M) = false) := Lib.hid (decide_eq_false (fun h => e (by rw [HX.out, HY.out]; subst h; rfl)))
          have HD := Lib.hid (decide_eq_false e)
          rw [HD.out] at HC
          clear hall e
          go_wp2_with fail
          go_region_with (go_at_call 9; refine (HC.out _ (by first | exact (Ext.refl _).drew | exact Ext.refl _)).mono ?_; rintro e w1 ⟨rfl, x1⟩)
          all_goals go_wp2
          all_goals go_ret
          all_goals exact ⟨ret_bool' hg.out.symm, hx.trans (((Ext.refl _).drew).trans x1)⟩
      · have hg : Hid (decide (L = M) = true) := Lib.hid (decide_eq_true (list_ext_at (by rw [← HP.out, ← HQ.out]) fun j h1 h2 => hall.out j h1 h2 (by rw [← HP.out] at h1; omega)))
        clear hall
        go_wp2
        go_ret
        exact ⟨ret_bool' hg.out.symm, hx⟩
  · have hg : Hid (decide (L = M) = false) := Lib.hid (decide_eq_false (fun h => hpq (by rw [HP.out, HQ.out, h])))
    obtain ⟨f1, f2⟩ := neq_facts (x := (P : Int)) (k := (Q : Int)) (by omega)
    go_enter Try.func13, Try.ntmps13
    go_wp2
    go_ret
    exact ⟨ret_bool' hg.out.symm, Ext.refl _⟩
set_option maxHeartbeats 4000000 in
set_option maxRecDepth 100000 in
theorem has_any (a : Option Addr) (L : List Int) (ca : Nat) (v : Int) (w : World) (ha : IntIn w a L) (hL : L.length ≤ 4611686018427387904) :
    Calls Try.prog 18 #[.slice a L.length ca, .int .i64 v] w fun e w' => e = .returned (.bool (L.contains v)) ∧ Ext w w' := by
  obtain ⟨P, hP⟩ : ∃ P, P = L.length := ⟨_, rfl⟩
  have HA := Lib.hid ha
  rw [← hP] at hL ⊢
  have HP := Lib.hid hP
  clear ha hP
  go_enter Try.func18, Try.ntmps18
  go_wp2
  go_loopw [5] (fun i' wr => ∃ k : Nat, k ≤ P ∧ i' = .int .i64 k ∧ Hid (∀ j (h1 : j < L.length), j < k → L[j] ≠ v) ∧ Ext w wr) (fun i' _ => P - (RowKit.intOf i').toNat)
  case atStart => exact ⟨0, by omega, rfl, Lib.hid (fun j _ h => absurd h (by omega)), Ext.refl _⟩
  case round =>
    obtain ⟨k, hk, rfl, hall, hx⟩ := hrel
    by_cases hlt : k < P
    · have h1 : k < L.length := by rw [← HP.out]; exact hlt
      obtain ⟨g, o, rfl, c0⟩ := (HA.out.ext hx) k h1
      obtain ⟨x, hxe⟩ : ∃ x, x = L[k] := ⟨_, rfl⟩
      rw [← hxe] at c0
      have HX := Lib.hid hxe
      clear hxe
      by_cases e : x = v
      · have hg : Hid (L.contains v = true) := Lib.hid (by rw [List.contains_iff_mem, ← e, HX.out]; exact List.getElem_mem h1)
        obtain ⟨e1, e2⟩ := eq_facts e
        clear hall e
        go_wp2
        go_ret
        exact ⟨ret_bool' hg.out.symm, hx⟩
      · have hg : Hid (∀ j (h1 : j < L.length), j < k + 1 → L[j] ≠ v) := Lib.hid (fun j h1 hj => by
          by_cases e2 : j = k
          · subst e2; rw [← HX.out]; exact e
          · exact hall.out j h1 (by omega))
        obtain ⟨e1, e2⟩ := neq_facts e
        clear hall e
        go_wp2
        go_roundw
        case rel => exact ⟨k + 1, by omega, by go_num, hg, hx⟩
        case measure => simp [RowKit.intOf]; omega
    · have hg : Hid (L.contains v = false) := Lib.hid (by
        rw [Bool.eq_false_iff]; intro h
        rw [List.contains_iff_mem] at h
        obtain ⟨j, hj, e⟩ := List.getElem_of_mem h
        exact hall.out j hj (by rw [← HP.out] at hj; omega) e)
      clear hall
      go_wp2
      go_ret
      exact ⟨ret_bool' hg.out.symm, hx⟩
end Go.Proofs.Ytjjcjoedgmfalaa.Tp
