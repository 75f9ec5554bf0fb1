/- Packed texts: TopSort, PrtSeq, PrtVisL, PrtVisC -/
import Derived.Test.YtaipcpdncmnelaaPu02
import Derived.Test.YtaipcpdncmnelaaPu03
import Derived.Test.YtaipcpdncmnelaaShelf
import Derived.RangeFuncFrom
import Derived.RangeFuncLeaves
import Derived.OwnWalkIn
import Derived.TacticsInMore
import Derived.LoopNIn
import Derived.LoopIn
import Derived.RangeFuncNested
import Derived.Maps.AppendAt
import Derived.Lib.Builder
import Derived.Shelf.AbstractIn
set_option linter.unusedVariables false
set_option linter.unusedSimpArgs false
/- slices.Sort on a row of the call's own. -/
namespace Go.Proofs.Ytaipcpdncmnelaa.Tp
open Go.RowKit Go.Sort Go.Lib Fx

theorem keep_putRow (w : World) (n blk off : Nat) (d : Array Int) (os : Array Obj) : Keep (· = blk) w (grow (putRow (Value.int .i64) (Sort.ahead w n) blk off d) os) := by
  refine ⟨rfl, rfl, rfl, by simp [grow, putRow, mapBlock, Sort.ahead], fun k hk hn => ?_⟩
  rw [Sort.heap_grow_old _ _ (by simp [putRow, mapBlock, Sort.ahead]; exact hk)]
  unfold putRow mapBlock
  simp only [Sort.ahead, Array.getElem?_modify]
  rw [if_neg (fun e => hn e.symm)]
theorem merge_nat (s : List Nat) : ∃ l : List Nat, (zl s).mergeSort (fun x y => decide (x ≤ y)) = zl l ∧ l.Perm s ∧ l.Pairwise (· ≤ ·) := by
  have hp := List.mergeSort_perm (zl s) (fun x y => decide (x ≤ y))
  have hs := List.pairwise_mergeSort (le := fun x y : Int => decide (x ≤ y)) (fun a b c => by simp; omega) (fun a b => by simp; omega) (zl s)
  generalize (zl s).mergeSort (fun x y => decide (x ≤ y)) = M at hp hs
  have hnn : ∀ x ∈ M, 0 ≤ x := fun x hx => by
    have := hp.mem_iff.1 hx
    obtain ⟨y, _, rfl⟩ := List.mem_map.1 this
    omega
  have hz : M = zl (M.map Int.toNat) := by
    unfold zl; rw [List.map_map]
    conv => lhs; rw [← List.map_id M]
    refine List.map_congr_left fun x hx => ?_
    have := hnn x hx
    simp only [Function.comp, id]; omega
  refine ⟨M.map Int.toNat, hz, ?_, ?_⟩
  · have := hp.map Int.toNat
    have e : (zl s).map Int.toNat = s := by
      unfold zl; rw [List.map_map]
      conv => rhs; rw [← List.map_id s]
      exact List.map_congr_left fun x _ => by simp
    rw [e] at this
    exact this
  · rw [List.pairwise_map]
    refine hs.imp_of_mem fun {a b} ha hb h => ?_
    have := of_decide_eq_true h
    have := hnn a ha
    omega
theorem own_holds {w : World} {B n : Nat} {v : Value} {L : List Int} (h : w.ownsRow B 3 1 v n (iv L)) (hL : L ≠ []) : ∃ g c, v = .slice (some ⟨g, 0, none⟩) L.length c ∧ B ≤ g ∧ g < w.heap.size ∧ Holds (Value.int .i64) w g 0 L.toArray := by
  have hn : n = L.length := by have := h.1; rw [iv_len] at this; omega
  rcases h.2 with ⟨_, h2⟩ | ⟨g, cap, cur, rfl, hb, hg, h3, h4, h5, h6⟩
  · exact absurd (List.eq_nil_of_length_eq_zero (by omega)) hL
  · refine ⟨g, cap, by rw [hn], hb, (Array.getElem?_eq_some_iff.1 hg).1, fun j hj => ⟨?_, Lib.frozen_of_heap hg _⟩⟩
    have hj' : j < L.length := by simpa using hj
    have hc := h.cells (g := g) rfl j (.int .i64 L[j]) (by unfold iv; rw [List.getElem?_map, List.getElem?_eq_getElem hj']; rfl)
    rw [add_at] at hc
    rw [Nat.zero_add, hc]
    simp [hj']
theorem sort_own {B n : Nat} {v : Value} {s : List Nat} (w : World) (h : w.ownsRow B 3 1 v n (iv (zl s))) (hs : s.length < 4611686018427387904) (hB : B ≤ w.heap.size) :
    Calls Try.prog 31 #[v] w fun e w' => e = .returned (.tuple #[]) ∧ (∃ a c l, v = .slice a s.length c ∧ IntIn w' a (zl l) ∧ l.Perm s ∧ l.Pairwise (· ≤ ·) ∧ (∀ g o, a = some ⟨g, o, none⟩ → B ≤ g)) ∧ Below B w w' := by
  by_cases h0 : s = []
  · subst h0
    have hn : n = 0 := by have := h.1; simpa [iv, zl] using this.symm
    subst hn
    have hv : ∃ a c, v = .slice a 0 c ∧ (∀ g o, a = some ⟨g, o, none⟩ → B ≤ g) := by
      rcases h.2 with ⟨rfl, _⟩ | ⟨g, cap, cur, rfl, hb, _⟩
      · exact ⟨_, _, rfl, fun g o e => by cases e⟩
      · exact ⟨_, _, rfl, fun g' o e => by cases e; exact hb⟩
    obtain ⟨a, c, rfl, hg⟩ := hv
    refine (Try.slices_Sort_int_none a c w).mono ?_
    rintro e w' ⟨rfl, rfl⟩
    exact ⟨rfl, ⟨a, c, [], rfl, fun j hj => absurd hj (by simp [zl]), .refl _, .nil, hg⟩, Below.refl _ _⟩
  · have hz : zl s ≠ [] := by unfold zl; simpa using h0
    obtain ⟨g, c, rfl, hb, hlt, hH⟩ := own_holds h hz
    refine (Try.slices_Sort_int g 0 c (zl s) w hH hlt (by rw [zl_len]; exact hs)).mono ?_
    rintro e w' ⟨rfl, m, os, rfl⟩
    obtain ⟨l, hl, hp, ho⟩ := merge_nat s
    have hsz : l.length = s.length := hp.length_eq
    refine ⟨rfl, ⟨some ⟨g, 0, none⟩, c, l, by rw [zl_len], ?_, hp, ho, fun g' o e => by cases e; exact hb⟩, (keep_putRow w m g 0 _ os).below hB (fun k hk e => by omega)⟩
    rw [hl]
    intro j hj
    refine ⟨g, 0, rfl, ?_⟩
    have h1 := holds_putRow (Value.int .i64) (Sort.ahead w m) g 0 (zl s).toArray (zl l).toArray hH (by simp [zl_len, hsz])
    have h2 := holds_grow (Value.int .i64) _ os g 0 (zl l).toArray (by simp [putRow, mapBlock, Sort.ahead]; exact hlt) h1
    have h3 := (h2 j (by simpa using hj)).1
    rw [h3]; simp [hj]
/-- .. where there are some: the row's block alone has turned. -/
theorem sort_keep {B n : Nat} {v : Value} {s : List Nat} (w : World) (h : w.ownsRow B 3 1 v n (iv (zl s))) (h0 : s ≠ []) (hs : s.length < 4611686018427387904) :
    ∃ g c, v = .slice (some ⟨g, 0, none⟩) s.length c ∧ B ≤ g ∧ g < w.heap.size ∧ Calls Try.prog 31 #[v] w fun e w' => e = .returned (.tuple #[]) ∧ (∃ l, IntIn w' (some ⟨g, 0, none⟩) (zl l) ∧ l.Perm s ∧ l.Pairwise (· ≤ ·)) ∧ Keep (· = g) w w' := by
  have hz : zl s ≠ [] := by unfold zl; simpa using h0
  obtain ⟨g, c, rfl, hb, hlt, hH⟩ := own_holds h hz
  refine ⟨g, c, by rw [zl_len], hb, hlt, ?_⟩
  refine (Try.slices_Sort_int g 0 c (zl s) w hH hlt (by rw [zl_len]; exact hs)).mono ?_
  rintro e w' ⟨rfl, m, os, rfl⟩
  obtain ⟨l, hl, hp, ho⟩ := merge_nat s
  have hsz : l.length = s.length := hp.length_eq
  refine ⟨rfl, ⟨l, ?_, hp, ho⟩, keep_putRow w m g 0 _ os⟩
  rw [hl]
  intro j hj
  refine ⟨g, 0, rfl, ?_⟩
  have h1 := holds_putRow (Value.int .i64) (Sort.ahead w m) g 0 (zl s).toArray (zl l).toArray hH (by simp [zl_len, hsz])
  have h2 := holds_grow (Value.int .i64) _ os g 0 (zl l).toArray (by simp [putRow, mapBlock, Sort.ahead]; exact hlt) h1
  have h3 := (h2 j (by simpa using hj)).1
  rw [h3]; simp [hj]
end Go.Proofs.Ytaipcpdncmnelaa.Tp

/- slices.Values, AppendSeq, Collect and Sorted at numbers: the sorted list, in a block of the call's own. -/
namespace Go.Proofs.Ytaipcpdncmnelaa.Pt
open Go.RowKit Go.Sort Go.Lib Go.Shelf Fx Tp

attribute [local go_sem] Oper.semAt_some

def natB (x : Nat) : Array Value := #[.int .i64 x]
/-- Numbers that lie below a block. -/
def NatLow (n₀ : Nat) (w : World) (a : Option Addr) (L : List Nat) : Prop :=
  ∀ k (h : k < L.length), ∃ g o, a = some ⟨g, o, none⟩ ∧ g < n₀ ∧ w.cell? ⟨g, o + k, none⟩ = some (.int .i64 L[k])
theorem NatLow.below {n₀ : Nat} {w w' : World} {a : Option Addr} {L : List Nat} (h : NatLow n₀ w a L) (x : Below n₀ w w') : NatLow n₀ w' a L := fun k hk => by
  obtain ⟨g, o, ha, hg, h0⟩ := h k hk
  exact ⟨g, o, ha, hg, (x.cell (p := ⟨g, o + k, none⟩) hg).trans h0⟩
theorem IntIn.low {w : World} {a : Option Addr} {L : List Nat} (h : IntIn w a (zl L)) {n₀ : Nat} (hn : w.heap.size ≤ n₀) : NatLow n₀ w a L := fun k hk => by
  obtain ⟨g, o, ha, h0⟩ := h k (by rw [zl_len]; exact hk)
  rw [zl_at _ _ hk] at h0
  have h2 : g < w.heap.size := World.block_lt_of_cell? _ _ h0
  exact ⟨g, o, ha, by omega, h0⟩
theorem take_succ' {L : List Nat} {m : Nat} (h : m < L.length) : L.take (m + 1) = L.take m ++ [L[m]] := List.take_succ_eq_append_getElem h
set_option maxRecDepth 100000 in
set_option maxHeartbeats 1000000 in
theorem vals1_in (F : Fence) (n : Nat) (hf : F.fn 56) (hro : F.round = none) (hn : 1 ≤ n) (l Bn n₀ : Nat) (a : Option Addr) (L : List Nat) (cap : Nat) (hL : L.length ≤ 9223372036854775807) (J Jx : List Nat → World → Prop)
    (hY : ∀ pre x W, J pre W → pre.length < L.length → YieldAt F (n - 1) Try.prog l (natB x) W fun e W' =>
      (e = .returned (.bool true) ∧ J (pre ++ [x]) W' ∧ Below n₀ W W') ∨ (e = .returned (.bool false) ∧ Jx (pre ++ [x]) W'))
    (W : World) (hB : Bn < n₀) (hBn : W.cell? ⟨Bn, 0, none⟩ = some (.slice a L.length cap)) (hI : NatLow n₀ W a L) (h0 : J [] W) :
    CallsIn F n Try.prog 56 #[.func (.yield l) #[] #[], .pointer (some ⟨Bn, 0, none⟩)] W fun e W' => (∃ v, e = .returned v) ∧
      ((∃ ys, ys = L ∧ J ys W') ∨ (∃ pre, pre <+: L ∧ Jx pre W')) := by
  obtain ⟨N, hN⟩ : ∃ N, N = L.length := ⟨_, rfl⟩
  rw [← hN] at hL hBn
  have HY := Lib.hid hY
  have HI := Lib.hid hI
  have HN := Lib.hid hN
  have HB := Lib.hid hBn
  have H0 := Lib.hid h0
  clear hY hI hN h0
  refine callsIn_of_wp Try.func56 rfl hf ?_ hro
  simp only [Try.ntmps56, List.size_toArray, List.length_cons, List.length_nil, Nat.reduceAdd, Nat.reduceSub, Array.replicate_succ, Array.replicate_zero, List.push_toArray, List.append_toArray, List.nil_append, List.cons_append]
  gi_wp2
  gi_loopw [7] (fun p wr => Below n₀ W wr ∧ ∃ m : Nat, m ≤ N ∧ p = .int .i64 m ∧ Hid (J (L.take m) wr)) (fun p wr => N - (RowKit.intOf p).toNat)
  case atStart => exact ⟨Below.refl _ _, 0, Nat.zero_le _, rfl, H0⟩
  case round =>
    obtain ⟨hb, m, hm, rfl, hJ⟩ := hrel
    by_cases hlt : m < N
    · have hml : m < L.length := by rw [← HN.out]; exact hlt
      obtain ⟨g, o, rfl, hg, c0⟩ := (HI.out.below hb) m hml
      have hy0 := HY.out (L.take m) L[m] wr hJ.out (by rw [List.length_take]; omega)
      have hst := take_succ' hml
      rw [← hst] at hy0
      obtain ⟨x, hx⟩ : ∃ x, x = L[m] := ⟨_, rfl⟩
      rw [← hx] at c0 hy0
      clear hx hst
      unfold natB at hy0
      obtain ⟨fn, tmps, assign, body, hy, hR⟩ := hy0
      have HR := Lib.hid hR
      clear hR
      gi_wp2
      refine HR.out.mono ?_
      rintro e W3 (⟨rfl, hJ3, hk3⟩ | ⟨rfl, hJx3⟩)
      · have HJ3 := Lib.hid hJ3
        clear hJ3 hJ
        gi_wp2
        go_roundw
        case rel => exact ⟨hb.trans hk3, m + 1, by omega, by go_num, HJ3⟩
        case measure => simp [RowKit.intOf]; omega
      · have HJ3 := Lib.hid hJx3
        clear hJx3 hJ
        gi_wp2
        refine bodyPost_ret (results_none rfl _ _ _) rfl ?_
        exact ⟨⟨_, rfl⟩, .inr ⟨_, List.take_prefix _ _, HJ3.out⟩⟩
    · have hml : L.take m = L := List.take_of_length_le (by rw [← HN.out]; omega)
      rw [hml] at hJ
      clear hml
      gi_wp2
      go_end0
      exact ⟨⟨_, rfl⟩, .inl ⟨_, rfl, hJ.out⟩⟩
theorem vals_stops (F : Fence) (n : Nat) (hf : F.fn 56) (hro : F.round = none) (hn : 1 ≤ n) (Bn n₀ : Nat) (a : Option Addr) (L : List Nat) (cap : Nat) (w : World) (hL : L.length ≤ 9223372036854775807) (hBn : Bn < n₀) (hn₀ : n₀ ≤ w.heap.size)
    (hc : w.cell? ⟨Bn, 0, none⟩ = some (.slice a L.length cap)) (hI : NatLow n₀ w a L) :
    SeqStopsK F n Try.prog 56 #[.pointer (some ⟨Bn, 0, none⟩)] natB (Below n₀) (fun ys => ys = L) (fun pre => pre <+: L) L.length w := fun l J Jx W hW _ _ hY h0 =>
  vals1_in F n hf hro hn l Bn n₀ a L cap hL J Jx hY W hBn ((hW.cell (p := ⟨Bn, 0, none⟩) (by show Bn < _; omega)).trans hc) (hI.below (hW.mono hn₀)) h0
theorem own_cells {w : World} {B : Nat} {e : TypeId} {sz : Nat} {v : Value} {n : Nat} {xs : List Value} (h : w.ownsRow B e sz v n xs) {q : Nat} (hq : v.ownBlock = some q) : ∃ c fz, w.heap[q]? = some (.cells c e fz) := by
  rcases h.2 with ⟨rfl, _⟩ | ⟨g, cap, cur, rfl, _, hg, _⟩
  · cases hq
  · have hq : g = q := by simpa [Value.ownBlock] using hq
    subst hq
    exact ⟨_, _, hg⟩
/-- The frame in a round of AppendSeq. -/
def apF (Bn b x : Nat) : Act :=
  { tmps := #[.slice none 0 0, .func (.func 56) #[] #[.pointer (some ⟨Bn, 0, none⟩)], .pointer (some ⟨b, 0, none⟩), undef, .slice none 0 0, .int .i64 x, .func (.func 56) #[] #[.pointer (some ⟨Bn, 0, none⟩)], .int .i64 x, undef, undef, undef, undef, undef], defers := [] }
set_option maxRecDepth 100000 in
set_option maxHeartbeats 4000000 in
theorem appSeq_in (F : Fence) (n : Nat) (h1f : F.fn 71) (h2f : F.fn 56) (hro : F.round = none) (hn : 3 ≤ n) (a : Option Addr) (L : List Nat) (cap Bn : Nat) (w : World) (h : IntIn w a (zl L)) (hL : L.length ≤ 100000) (hBn : Bn < w.heap.size) (hc : w.cell? ⟨Bn, 0, none⟩ = some (.slice a L.length cap)) :
    CallsIn F n Try.prog 71 #[.slice none 0 0, .func (.func 56) #[] #[.pointer (some ⟨Bn, 0, none⟩)]] w fun e w' => (∃ sv, e = .returned sv ∧ w'.ownsRow w.heap.size 3 1 sv L.length (iv (zl L))) ∧ Ext w w' := by
  have h1 : 1 ≤ n := by omega
  obtain ⟨i0, hi, hz0, hz1, hz2⟩ := info_parts info_int
  refine callsIn_of_wp_marks Try.func71 rfl h1f ?_ hro
  simp only [Try.ntmps71, List.size_toArray, List.length_cons, List.length_nil, Nat.reduceAdd, Nat.reduceSub, Array.replicate_succ, Array.replicate_zero, List.push_toArray, List.append_toArray, List.nil_append, List.cons_append]
  gi_wp2_with fail
  obtain ⟨W0, hW0⟩ : ∃ W0, w.alloc (.cells #[.slice none 0 0] 31) = W0 := ⟨_, rfl⟩
  have hs0 : W0.heap.size = w.heap.size + 1 := by rw [← hW0]; simp
  have hx0 : Ext w W0 := by rw [← hW0]; exact (Ext.refl _).alloc _
  have hB0 : W0.heap[w.heap.size]? = some (.cells #[.slice none 0 0] 31 (0, 0)) := by rw [← hW0]; exact World.alloc_heap_new w _
  rw [hW0]
  clear hW0
  refine wpIn_rangeFunc_ownH hro h1 (gf := 56) (lb := #[.pointer (some ⟨Bn, 0, none⟩)]) rfl h2f (enters_of Try.func56 (by kernel_rfl) rfl)
    (vals_stops F (n - 1) h2f hro (by omega) Bn w.heap.size a L cap W0 (by omega) hBn (by omega) (hx0.cell hc) ((IntIn.low h (Nat.le_refl _)).below hx0)) belowK_t (belowK_b (by omega)) (Below.refl _ _) (fun _ => rfl)
    (fun pre W => (∃ sv, W.heap[w.heap.size]? = some (.cells #[sv] 31 (0, 0)) ∧ W.ownsRow (w.heap.size + 1) 3 1 sv pre.length (iv (zl pre))) ∧ Below w.heap.size W0 W)
    (fun c pre W => False)
    ?own (fun c s A B row hs => hs.elim)
    ⟨⟨_, hB0, World.ownsRow_nil _ _ _ _⟩, Below.refl _ _⟩
    (fun k a' W => a' = apF Bn w.heap.size k)
    (fun k a' _ X Y row hs hg hr => hs)
    ?assign ?body ?done ?stop
  case own =>
    refine OwnFrom.and (Own.from (fun pre X Y row hs hg hr => ?_) _) (ownFrom_below (by omega) (by omega))
    obtain ⟨sv, k1, k2⟩ := hs
    have nr : ∀ q cs T, X.heap[q]? = some (.cells cs T (0, 0)) → row ≠ some q := fun q cs T hq e => by
      obtain ⟨o, ho, hc⟩ := hr q e
      rw [hq] at ho
      have ho := Option.some.inj ho
      rw [← ho] at hc; cases hc
    refine ⟨sv, (hg.block _ (Array.getElem?_eq_some_iff.1 k1).1 (fun e => nr _ _ _ k1 e.symm)).trans k1, k2.kept hg ?_⟩
    rcases k2.2 with ⟨rfl, _⟩ | ⟨g, cp, cur, rfl, _, hq, _⟩
    · exact .inl rfl
    · exact .inr (fun e => nr g _ _ hq (by rw [← e]; rfl))
  case assign =>
    rintro l pre k W K ⟨hp, hB⟩ hK
    have HK := Lib.hid hK
    unfold natB
    clear hK
    gi_wp2
    exact HK.out _ _ ((KeepsOthers.refl _).from _) (Below.refl _ _) ⟨hp, hB⟩ rfl
  case body =>
    rintro l pre k a' W hl _ ⟨⟨sv, hb, hown⟩, hB⟩ rfl hlt
    unfold apF
    have c0 : W.cell? ⟨w.heap.size, 0, none⟩ = some sv := by rw [Lib.cell_of_heap hb]; rfl
    have hbl : w.heap.size < W.heap.size := (Array.getElem?_eq_some_iff.1 hb).1
    have HB := Lib.hid hB; have HOW := Lib.hid hown; have HHB := Lib.hid hb
    clear hB hown hb
    gi_wp2_with (gi_at_builtin; revert hbl)
    intro hbl
    refine wpListIn_append_own _ rfl _ _ 31 rfl (w.heap.size + 1) 3 i0 _ 1 8 Try.underlying31 hi hz0 hz1 hz2 rfl (by decide) _ _ _ rfl (HOW.out.alloc _) ⟨W.heap.size, 0, none⟩ 1 1 [.int .i64 k] rfl rfl (new_cells' _ [_] _ _ rfl) (by simp [Value.oneCell']) (by unfold maxLen; omega) (by omega) (by simp; omega) ?_
    intro v2 w3 hown3 hgrow3 _
    obtain ⟨g2, c2, rfl, hg2⟩ := own_form hown3 (by omega)
    have hb3 : w3.heap[w.heap.size]? = some (.cells #[sv] 31 (0, 0)) := heap_grown (heap_ext HHB.out ((Ext.refl _).alloc _)) hgrow3 (fun e => by have := (HOW.out.lt _ e.symm).1; omega)
    have c3 : w3.cell? ⟨w.heap.size, 0, none⟩ = some sv := by rw [Lib.cell_of_heap hb3]; rfl
    have f3 : w3.frozen? ⟨w.heap.size, 0, none⟩ = false := Lib.frozen_of_heap hb3 0
    gi_wp2
    have hgW : (W.alloc (.cells #[.int .i64 k] 3)).grownBy w3 sv.ownBlock := hgrow3
    refine ⟨((KeepsOthers.alloc _ _).trans ((KeepsOthers.of_grownBy hgW (fun q o e ho => ?_)).trans (KeepsOthers.setCell _ _ _))).from _, ?_, ⟨.slice (some ⟨g2, 0, none⟩) (pre.length + 1) c2, ?_, ?_⟩, ?_⟩
    · obtain ⟨c, fz, hq⟩ := own_cells (HOW.out.alloc (.cells #[.int .i64 k] 3)) e
      rw [hq] at ho; cases ho; rfl
    · exact (Below.grown ((Below.refl _ W).alloc (by omega) _) hgW (by simp; omega) (fun q hq => by have := (HOW.out.lt q hq).1; omega)).setCell (p := ⟨w.heap.size, 0, none⟩) (show w.heap.size ≤ w.heap.size from Nat.le_refl _) _
    · exact heap_set hb3 0 _
    · have e2 : (pre ++ [k]).length = pre.length + 1 := by simp
      rw [e2, zl_app, iv_app]
      exact ownsRow_setCell_below hown3 (by show w.heap.size < w.heap.size + 1; omega) _
    · exact (Below.grown (HB.out.alloc (by omega) _) hgW (by simp; omega) (fun q hq => by have := (HOW.out.lt q hq).1; omega)).setCell (p := ⟨w.heap.size, 0, none⟩) (show w.heap.size ≤ w.heap.size from Nat.le_refl _) _
  case done =>
    rintro D xs W hD rfl ⟨⟨sv, hb, hown⟩, hB⟩ hK
    have c0 : W.cell? ⟨w.heap.size, 0, none⟩ = some sv := by rw [Lib.cell_of_heap hb]; rfl
    have HB := Lib.hid hB; have HOW := Lib.hid hown; have HK := Lib.hid hK
    clear hB hown hK
    gi_wp2
    have hk0 := HK.out
    refine ⟨by simp, .inl ⟨_, _, rfl, run_takeDeferred HK.out, ?_⟩⟩
    refine ⟨sv, ?_, ⟨sv, rfl, ?_⟩, ?_⟩
    · simp [results, Try.f71, go_sem]
    · refine own_low (HOW.out.kept (grownBy_putObj' _ D (.deferred none)) ?_) (by omega)
      cases hq : sv.ownBlock with
      | none => exact .inl rfl
      | some q =>
        right; intro e; cases e
        obtain ⟨c, fz, hq2⟩ := own_cells HOW.out hq
        rw [hk0] at hq2; cases hq2
    · exact Below.trans hx0 (HB.out.trans (belowK_b (w := w) (Nat.le_refl _) _ D _ _ (by omega) HK.out rfl rfl))
  case stop => exact fun D c pre W hD hpre h => h.elim
theorem appSeq_any (a : Option Addr) (L : List Nat) (cap Bn : Nat) (w : World) (h : IntIn w a (zl L)) (hL : L.length ≤ 100000) (hBn : Bn < w.heap.size) (hc : w.cell? ⟨Bn, 0, none⟩ = some (.slice a L.length cap)) :
    Calls Try.prog 71 #[.slice none 0 0, .func (.func 56) #[] #[.pointer (some ⟨Bn, 0, none⟩)]] w fun e w' => (∃ sv, e = .returned sv ∧ w'.ownsRow w.heap.size 3 1 sv L.length (iv (zl L))) ∧ Ext w w' :=
  callsIn_wide.1 (appSeq_in Fence.wide 3 trivial trivial rfl (Nat.le_refl _) a L cap Bn w h hL hBn hc)
set_option maxHeartbeats 1000000 in
theorem collect_any (a : Option Addr) (L : List Nat) (cap Bn : Nat) (w : World) (h : IntIn w a (zl L)) (hL : L.length ≤ 100000) (hBn : Bn < w.heap.size) (hc : w.cell? ⟨Bn, 0, none⟩ = some (.slice a L.length cap)) :
    Calls Try.prog 55 #[.func (.func 56) #[] #[.pointer (some ⟨Bn, 0, none⟩)]] w fun e w' => (∃ sv, e = .returned sv ∧ w'.ownsRow w.heap.size 3 1 sv L.length (iv (zl L))) ∧ Ext w w' := by
  have C := appSeq_any a L cap Bn w h hL hBn hc
  replace C := Lib.hid C
  clear h hc
  go_enter Try.func55, Try.ntmps55
  go_wp2_with (go_at_call 71; refine C.out.mono ?_; rintro e w1 ⟨⟨sv, rfl, ho⟩, x1⟩)
  go_ret
  exact ⟨⟨sv, rfl, ho⟩, x1⟩
set_option maxHeartbeats 1000000 in
theorem values_any (a : Option Addr) (n cap : Nat) (w : World) :
    Calls Try.prog 42 #[.slice a n cap] w fun e w' => e = .returned (.func (.func 56) #[] #[.pointer (some ⟨w.heap.size, 0, none⟩)]) ∧ w' = w.alloc (.cells #[.slice a n cap] 31) := by
  go_enter Try.func42, Try.ntmps42
  go_wp2
  go_ret
  exact ⟨rfl, rfl⟩
set_option maxHeartbeats 2000000 in
/-- slices.Sorted over slices.Values: a sorted row of the call's own. -/
theorem sorted_any (a : Option Addr) (L : List Nat) (cap Bn : Nat) (w : World) (h : IntIn w a (zl L)) (hL : L.length ≤ 100000) (h0 : L ≠ []) (hBn : Bn < w.heap.size) (hc : w.cell? ⟨Bn, 0, none⟩ = some (.slice a L.length cap)) :
    Calls Try.prog 41 #[.func (.func 56) #[] #[.pointer (some ⟨Bn, 0, none⟩)]] w fun e w' => (∃ g c, e = .returned (.slice (some ⟨g, 0, none⟩) L.length c) ∧ IntIn w' (some ⟨g, 0, none⟩) (zl (sortN L)) ∧ w.heap.size ≤ g ∧ g < w'.heap.size) ∧ Ext w w' := by
  have C := collect_any a L cap Bn w h hL hBn hc
  have S := fun (w1 : World) (sv : Value) (ho : w1.ownsRow w.heap.size 3 1 sv L.length (iv (zl L))) => sort_keep w1 ho h0 (by omega)
  replace C := Lib.hid C
  replace S := Lib.hid S
  clear h hc
  have hL0 : 0 < L.length := List.length_pos_iff.2 h0
  obtain ⟨n, hn⟩ : ∃ n, n = L.length := ⟨_, rfl⟩
  have HN := Lib.hid hn
  rw [← hn] at C hL hL0 ⊢
  rw [← hn] at S
  clear hn h0
  go_enter Try.func41, Try.ntmps41
  go_wp2_with (first
    | (go_at_call 55; refine C.out.mono ?_; rintro e w1 ⟨⟨sv, rfl, ho⟩, x1⟩; obtain ⟨g, c, hsv, hg1, hg2, hS⟩ := S.out w1 sv ho; have HSV := Lib.hid hsv; have HS := Lib.hid hS; have HO := Lib.hid ho; clear hsv hS ho)
    | (go_at_call 31; refine HS.out.mono ?_; rintro e w2 ⟨rfl, ⟨l, hl1, hl2, hl3⟩, k2⟩))
  go_ret
  have e1 : l = sortN L := asc_unique (hl2.trans (sortN_perm L).symm) hl3 (sortN_asc L)
  refine ⟨⟨g, c, by rw [HSV.out]; rfl, by rw [← e1]; exact hl1, hg1, Nat.lt_of_lt_of_le hg2 k2.size⟩, ?_⟩
  exact Below.trans x1 (k2.below x1.size (fun k hk e => by omega))
end Go.Proofs.Ytaipcpdncmnelaa.Pt

/- The law of a visit: what the search by lowpoints has found when it returns. -/
namespace Go.Proofs.Ytaipcpdncmnelaa.Pt
open Tp

variable {N : Nat} {A : Arcs} {g : List Nat} {v : Nat} {via : Int} {s cur : St}
theorem nm_set {s : St} {n : List Nat} {i x : Nat} (h : n = s.num.set i x) (u : Nat) : n.getD u 0 = if i = u ∧ i < s.num.length then x else nm s u := by rw [h, getD_set]; rfl
theorem RowOk.mono {s s' : St} {j : Nat} {C : List Nat} {v0 l h : Nat} (k : RowOk A s j C v0 l h) (hc : s.cnt ≤ s'.cnt) (old : ∀ u, nm s u ≠ 0 → nm s' u = nm s u) (new_ : ∀ u, nm s u = 0 → nm s' u = 0 ∨ s.cnt < nm s' u) (blk : ∃ more, s'.blk = s.blk ++ more) : RowOk A s' j C v0 l h := by
  have l0 := k.l0; have hc1 := k.hc
  have back : ∀ u, l ≤ nm s' u → nm s' u ≤ h → nm s u ≠ 0 ∧ nm s' u = nm s u := fun u h1 h2 => by
    by_cases h0 : nm s u = 0
    · rcases new_ u h0 with e | e <;> omega
    · exact ⟨h0, old u h0⟩
  have e0 := old v0 k.vn
  refine ⟨l0, Nat.le_trans hc1 hc, by rw [e0]; exact k.vn, by rw [e0]; exact k.vo, k.sim, fun e he => ?_, fun u h1 h2 e he => ?_, fun u h1 h2 e he => ?_⟩
  · obtain ⟨u, a, b, c⟩ := k.tch e he
    have := old u (by omega)
    exact ⟨u, a, by omega, by omega⟩
  · obtain ⟨n0, e1⟩ := back u h1 h2
    rcases k.clo u (by omega) (by omega) e he with ⟨a, b⟩ | a
    · left
      have := old (oth A e u) (by omega)
      omega
    · exact .inr a
  · obtain ⟨n0, e1⟩ := back u h1 h2
    obtain ⟨j', hj, C', hC, he'⟩ := k.cov u (by omega) (by omega) e he
    obtain ⟨more, hm⟩ := blk
    refine ⟨j', hj, C', ?_, he'⟩
    rw [hm, List.getElem?_append_left (List.getElem?_eq_some_iff.1 hC).1]; exact hC
theorem LoopRow.mono {C : List Nat} (h : LoopRow A C) : LoopRow A C := h
structure Pre (N : Nat) (A : Arcs) (g : List Nat) (v : Nat) (via : Int) (s : St) : Prop where
  inv : Inv N A s
  hv : v < N
  v0 : nm s v = 0
  pe : ∀ e ∈ pushed s, ∀ u, e ∈ incT A u → nm s u ≠ 0 ∨ (e : Int) = via
  gr : ∀ x ∈ g, nm s x ≠ 0
  ga : g.Pairwise (fun a b => nm s b < nm s a)
  bl : ∀ x, nm s x ≠ 0 → x ∉ g → ∀ e ∈ incT A x, e ∈ pushed s
  vi : (g = [] ∧ via = -1) ∨ ∃ (e p : Nat) (t : List Nat), g = p :: t ∧ via = e ∧ e ∈ incT A v ∧ oth A e v = p ∧ e ∈ pushed s
  gj : ∀ p t, g = p :: t → ∀ x ∈ g, ∀ z : Nat, nm s z = 0 → J A (-1) z p x
/-- From a vertex that was not met the edges lead to such ones or to the path. -/
theorem Pre.gray (h : Pre N A g v via s) {u e : Nat} (hu : nm s u = 0) (he : e ∈ incT A u) (ho : nm s (oth A e u) ≠ 0) : oth A e u ∈ g := by
  by_cases hx : oth A e u ∈ g
  · exact hx
  exfalso
  have h1 := h.bl _ ho hx e (oth_inc he).1
  rcases h.pe e h1 u he with h2 | h2
  · exact h2 hu
  · rcases h.vi with ⟨_, h3⟩ | ⟨e0, p, t, h3, h4, h5, h6, h7⟩
    · omega
    · have e1 : e0 = e := by omega
      subst e1
      rcases inc_ends h5 he with e2 | e2
      · subst e2; exact hx (by rw [h6, h3]; exact List.mem_cons_self ..)
      · rw [h6] at e2
        exact h.gr p (by rw [h3]; exact List.mem_cons_self ..) (by rw [← e2]; exact hu)
structure Core (N : Nat) (A : Arcs) (v : Nat) (via : Int) (s cur : St) : Prop where
  inv : Inv N A cur
  gw : Grow A s cur
  nv : nm cur v = s.cnt + 1
  lold : ∀ u, nm s u ≠ 0 → lo cur u = lo s u
  seg : ∃ seg, cur.stk = s.stk ++ seg ∧ (∀ e ∈ seg, ∃ u, e ∈ incT A u ∧ nm s u = 0) ∧ ∀ e ∈ seg, ∃ e0 : Nat, via = e0 ∧ Sim A e e0
  pe : ∀ e ∈ pushed cur, ∀ u, e ∈ incT A u → nm cur u ≠ 0
  cl : ∀ u, nm s u = 0 → nm cur u ≠ 0 → u ≠ v → ∀ e ∈ incT A u, e ∈ pushed cur
  lv : lo cur v ≤ nm cur v
  lp : 0 < lo cur v
  lb : ∀ u, nm s u = 0 → nm cur u ≠ 0 → u ≠ v → ∀ e ∈ incT A u, (e : Int) ≠ via → nm s (oth A e u) ≠ 0 → lo cur v ≤ nm s (oth A e u)
  la : lo cur v = nm cur v ∨ ∃ u e, nm s u = 0 ∧ nm cur u ≠ 0 ∧ e ∈ incT A u ∧ (e : Int) ≠ via ∧ nm s (oth A e u) ≠ 0 ∧ nm s (oth A e u) = lo cur v
  jn : ∀ u, nm s u = 0 → nm cur u ≠ 0 → ∀ z : Nat, nm s z ≠ 0 → J A (-1) z v u
structure LoopI (N : Nat) (A : Arcs) (v : Nat) (via : Int) (s : St) (D : List Nat) (cur : St) : Prop extends Core N A v via s cur where
  dp : ∀ e ∈ D, e ∈ pushed cur
  dl : ∀ e ∈ D, (e : Int) ≠ via → nm s (oth A e v) ≠ 0 → lo cur v ≤ nm s (oth A e v)
  fr : ∀ e ∈ pushed cur, e ∈ pushed s ∨ (∃ u, u ≠ v ∧ e ∈ incT A u ∧ nm s u = 0) ∨ e ∈ D
theorem entr_nm (v : Nat) (s : St) (u : Nat) : nm (entr v s) u = if v = u ∧ v < s.num.length then s.cnt + 1 else nm s u := nm_set rfl u
theorem entr_lo (v : Nat) (s : St) (u : Nat) : lo (entr v s) u = if v = u ∧ v < s.low.length then s.cnt + 1 else lo s u := by
  unfold lo entr; dsimp only; rw [getD_set]
theorem count_set {l : List Nat} {v x : Nat} (hv : v < l.length) (h0 : l.getD v 0 = 0) (hx : x ≠ 0) : (l.set v x).count 0 + 1 = l.count 0 := by
  induction l generalizing v with
  | nil => simp at hv
  | cons a l ih =>
    cases v with
    | zero =>
      simp only [List.getD_cons_zero] at h0
      subst h0
      simp [List.count_cons, hx]
    | succ v =>
      simp only [List.set_cons_succ, List.count_cons]
      have := ih (v := v) (by simpa using hv) (by simpa using h0)
      omega
theorem Pre.start (h : Pre N A g v via s) : LoopI N A v via s [] (entr v s) := by
  have hl := h.inv.ln; have hl2 := h.inv.ll; have hv := h.hv
  have nmv : nm (entr v s) v = s.cnt + 1 := by rw [entr_nm, if_pos ⟨rfl, by omega⟩]
  have lov : lo (entr v s) v = s.cnt + 1 := by rw [entr_lo, if_pos ⟨rfl, by omega⟩]
  have old : ∀ u, nm s u ≠ 0 → nm (entr v s) u = nm s u := fun u hu => by
    rw [entr_nm, if_neg]; rintro ⟨rfl, _⟩; exact hu h.v0
  have oldv : ∀ u, u ≠ v → nm (entr v s) u = nm s u := fun u hu => by
    rw [entr_nm, if_neg]; rintro ⟨rfl, _⟩; exact hu rfl
  have new_ : ∀ u, nm s u = 0 → nm (entr v s) u = 0 ∨ s.cnt < nm (entr v s) u := fun u hu => by
    by_cases e : u = v
    · subst e; rw [nmv]; omega
    · rw [oldv u e]; exact .inl hu
  have gw : Grow A s (entr v s) := ⟨by show s.cnt ≤ s.cnt + 1; omega, old, new_, fun e he => he, fun e he => .inl he, ⟨[], by simp [entr]⟩⟩
  have onlyv : ∀ u, nm s u = 0 → nm (entr v s) u ≠ 0 → u = v := fun u h0 h1 => by
    by_cases e : u = v
    · exact e
    · rw [oldv u e] at h1; exact absurd h0 h1
  have hle := h.inv.le
  refine ⟨⟨⟨by simp [entr, hl], by simp [entr, hl2], fun u => ?_, ?_, fun u x h1 h2 => ?_, h.inv.nd, h.inv.pm, fun j C hC => ?_, h.inv.ne⟩, gw, nmv, fun u hu => ?_, ⟨[], by simp [entr], by simp, by simp⟩, fun e he u hu => ?_, fun u h0 h1 h2 => absurd (onlyv u h0 h1) h2, by rw [nmv, lov]; exact Nat.le_refl _, by rw [lov]; omega, fun u h0 h1 h2 => absurd (onlyv u h0 h1) h2, .inl (by rw [nmv, lov]), fun u h0 h1 z hz => by rw [onlyv u h0 h1]; exact .refl _⟩, by simp, by simp, fun e he => .inl he⟩
  · by_cases e : u = v
    · subst e; rw [nmv]; exact Nat.le_refl _
    · rw [oldv u e]; have := hle u; show nm s u ≤ s.cnt + 1; omega
  · have := count_set (l := s.num) (v := v) (x := s.cnt + 1) (by omega) h.v0 (by omega)
    have hcz := h.inv.cz
    show (s.num.set v (s.cnt + 1)).count 0 + (s.cnt + 1) = N
    omega
  · by_cases e : u = v
    · by_cases e2 : x = v
      · rw [e, e2]
      · subst e; rw [nmv, oldv x e2] at h2; have := hle x; omega
    · rw [oldv u e] at h1 h2
      by_cases e2 : x = v
      · subst e2; rw [nmv] at h2; have := hle u; omega
      · rw [oldv x e2] at h2; exact h.inv.inj u x h1 h2
  · rcases h.inv.rows j C hC with h1 | ⟨v0, l, hh, h1⟩
    · exact .inl h1
    · exact .inr ⟨v0, l, hh, h1.mono gw.cnt old new_ gw.blk⟩
  · rw [entr_lo, if_neg]; rintro ⟨rfl, _⟩; exact hu h.v0
  · rcases h.pe e he u hu with h1 | h1
    · rw [old u h1]; exact h1
    · rcases h.vi with ⟨_, h3⟩ | ⟨e0, p, t, h3, h4, h5, h6, h7⟩
      · omega
      · have e1 : e0 = e := by omega
        subst e1
        rcases inc_ends h5 hu with e2 | e2
        · subst e2; rw [nmv]; omega
        · rw [h6] at e2
          have := h.gr p (by rw [h3]; exact List.mem_cons_self ..)
          rw [e2, old p this]; exact this
/-! ### the steps of the loop -/
theorem step_via (h : Pre N A g v via s) {D : List Nat} {e : Nat} (l : LoopI N A v via s D cur) (he : (e : Int) = via) : LoopI N A v via s (D ++ [e]) cur := by
  have hp : e ∈ pushed cur := by
    rcases h.vi with ⟨_, h3⟩ | ⟨e0, p, t, h3, h4, h5, h6, h7⟩
    · omega
    · have e1 : e0 = e := by omega
      subst e1; exact l.gw.sub _ h7
  refine ⟨l.toCore, fun e' he' => ?_, fun e' he' hn => ?_, fun e' he' => ?_⟩
  · rcases List.mem_append.1 he' with h1 | h1
    · exact l.dp e' h1
    · rw [List.mem_singleton.1 h1]; exact hp
  · rcases List.mem_append.1 he' with h1 | h1
    · exact l.dl e' h1 hn
    · rw [List.mem_singleton.1 h1] at hn; exact absurd he hn
  · rcases l.fr e' he' with h1 | h1 | h1
    · exact .inl h1
    · exact .inr (.inl h1)
    · exact .inr (.inr (List.mem_append_left _ h1))
theorem Core.later (l : Core N A v via s cur) {u : Nat} (h0 : nm s u = 0) (h1 : nm cur u ≠ 0) : s.cnt < nm cur u := (l.gw.new_ u h0).resolve_left h1
theorem Core.known (l : Core N A v via s cur) (hi : Inv N A s) {u : Nat} (h : nm cur u < nm cur v) (h1 : nm cur u ≠ 0) : nm s u ≠ 0 ∧ nm cur u = nm s u := by
  have := l.nv
  by_cases h0 : nm s u = 0
  · have := l.later h0 h1; omega
  · exact ⟨h0, l.gw.old u h0⟩
theorem step_down (h : Pre N A g v via s) {D : List Nat} {e : Nat} (l : LoopI N A v via s D cur) (he : e ∈ incT A v) (h0 : nm cur (oth A e v) ≠ 0) (h1 : ¬ nm cur (oth A e v) < nm cur v) : LoopI N A v via s (D ++ [e]) cur := by
  obtain ⟨o1, o2, o3⟩ := oth_inc he
  have hn : nm s (oth A e v) = 0 := by
    by_cases hz : nm s (oth A e v) = 0
    · exact hz
    · have e1 := l.gw.old _ hz
      have e2 := l.nv
      have e3 := h.inv.le (oth A e v)
      omega
  have hp : e ∈ pushed cur := l.cl _ hn h0 o3 e o1
  refine ⟨l.toCore, fun e' he' => ?_, fun e' he' hv' => ?_, fun e' he' => ?_⟩
  · rcases List.mem_append.1 he' with h2 | h2
    · exact l.dp e' h2
    · rw [List.mem_singleton.1 h2]; exact hp
  · rcases List.mem_append.1 he' with h2 | h2
    · exact l.dl e' h2 hv'
    · rw [List.mem_singleton.1 h2]; exact fun hz => absurd hn hz
  · rcases l.fr e' he' with h2 | h2 | h2
    · exact .inl h2
    · exact .inr (.inl h2)
    · exact .inr (.inr (List.mem_append_left _ h2))
theorem RowsOk.same {s s' : St} (h : RowsOk A s) (hn : s'.num = s.num) (hc : s'.cnt = s.cnt) (hb : s'.blk = s.blk) : RowsOk A s' := fun j C hC => by
  rw [hb] at hC
  have e : ∀ u, nm s' u = nm s u := fun u => by unfold nm; rw [hn]
  rcases h j C hC with h1 | ⟨v0, l, hh, h1⟩
  · exact .inl h1
  · exact .inr ⟨v0, l, hh, h1.mono (by rw [hc]; exact Nat.le_refl _) (fun u _ => e u) (fun u h0 => .inl (by rw [e u]; exact h0)) ⟨[], by rw [hb, List.append_nil]⟩⟩
theorem lo_set {s : St} {n : List Nat} {i x : Nat} (h : n = s.low.set i x) (u : Nat) : n.getD u 0 = if i = u ∧ i < s.low.length then x else lo s u := by rw [h, getD_set]; rfl
theorem step_back (h : Pre N A g v via s) {D : List Nat} {e : Nat} (l : LoopI N A v via s D cur) (he : e ∈ incT A v) (hD : e ∉ D) (hv : (e : Int) ≠ via) (h0 : nm cur (oth A e v) ≠ 0) (h1 : nm cur (oth A e v) < nm cur v) :
    e ∉ pushed cur ∧ LoopI N A v via s (D ++ [e]) { cur with stk := cur.stk ++ [e], low := cur.low.set v (min (lo cur v) (nm cur (oth A e v))) } := by
  obtain ⟨o1, o2, o3⟩ := oth_inc he
  obtain ⟨k0, k1⟩ := l.known h.inv h1 h0
  have hg := h.gray h.v0 he k0
  have hnp : e ∉ pushed cur := fun hp => by
    rcases l.fr e hp with h2 | ⟨u, h2, h3, h4⟩ | h2
    · rcases h.pe e h2 v he with h3 | h3
      · exact h3 h.v0
      · exact hv h3
    · rcases inc_ends he h3 with h5 | h5
      · exact h2 h5
      · rw [h5] at h4; exact k0 h4
    · exact hD h2
  refine ⟨hnp, ?_⟩
  obtain ⟨c', hc'⟩ : ∃ c' : St, c' = { cur with stk := cur.stk ++ [e], low := cur.low.set v (min (lo cur v) (nm cur (oth A e v))) } := ⟨_, rfl⟩
  rw [← hc']
  have en : ∀ u, nm c' u = nm cur u := fun u => by rw [hc']; rfl
  have el : ∀ u, lo c' u = if v = u ∧ v < cur.low.length then min (lo cur v) (nm cur (oth A e v)) else lo cur u := fun u => lo_set (by rw [hc']) u
  have hvl : v < cur.low.length := by rw [l.inv.ll]; exact h.hv
  have elv : lo c' v = min (lo cur v) (nm cur (oth A e v)) := by rw [el, if_pos ⟨rfl, hvl⟩]
  have pp : (pushed c').Perm (e :: pushed cur) := by
    rw [hc']; unfold pushed; dsimp only
    rw [List.append_assoc]
    exact List.perm_middle
  have mp : ∀ x, x ∈ pushed c' ↔ x = e ∨ x ∈ pushed cur := fun x => by rw [pp.mem_iff, List.mem_cons]
  have nv := l.nv
  have lv := l.lv; have lp := l.lp
  refine ⟨⟨⟨?_, ?_, fun u => ?_, ?_, fun u x hu hx => ?_, ?_, fun x hx => ?_, l.inv.rows.same (by rw [hc']) (by rw [hc']) (by rw [hc']), ?_⟩, ⟨?_, fun u hu => ?_, fun u hu => ?_, fun x hx => (mp x).2 (.inr (l.gw.sub x hx)), fun x hx => ?_, ?_⟩, by rw [en]; exact nv, fun u hu => ?_, ?_, fun x hx u hu => ?_, fun u hu hu1 hu2 x hx => (mp x).2 (.inr (l.cl u hu (by rw [← en]; exact hu1) hu2 x hx)), ?_, ?_, fun u hu hu1 hu2 x hx hxv hxo => ?_, ?_, fun u hu hu1 z hz => l.jn u hu (by rw [← en]; exact hu1) z hz⟩, fun x hx => ?_, fun x hx hxv hxo => ?_, fun x hx => ?_⟩
  · rw [hc']; exact l.inv.ln
  · rw [hc']; simp [l.inv.ll]
  · rw [en, hc']; exact l.inv.le u
  · rw [hc']; exact l.inv.cz
  · rw [en] at hu; rw [en, en] at hx; exact l.inv.inj u x hu hx
  · rw [pp.nodup_iff, List.nodup_cons]; exact ⟨hnp, l.inv.nd⟩
  · rcases (mp x).1 hx with rfl | hx
    · exact (mem_incT.1 he).1
    · exact l.inv.pm x hx
  · rw [hc']; exact l.inv.ne
  · rw [hc']; exact l.gw.cnt
  · rw [en]; exact l.gw.old u hu
  · rw [en]; exact l.gw.new_ u hu
  · rcases (mp x).1 hx with rfl | hx
    · exact .inr ⟨v, he, h.v0⟩
    · exact l.gw.fresh x hx
  · rw [hc']; exact l.gw.blk
  · rw [el, if_neg]
    · exact l.lold u hu
    · rintro ⟨rfl, _⟩; exact hu h.v0
  · obtain ⟨seg, s1, s2, s3⟩ := l.seg
    refine ⟨seg ++ [e], by rw [hc']; dsimp only; rw [s1, List.append_assoc], fun x hx => ?_, fun x hx => ?_⟩
    · rcases List.mem_append.1 hx with hx | hx
      · exact s2 x hx
      · rw [List.mem_singleton.1 hx]; exact ⟨v, he, h.v0⟩
    · rcases List.mem_append.1 hx with hx | hx
      · exact s3 x hx
      · rw [List.mem_singleton.1 hx]
        rcases h.vi with ⟨h3, _⟩ | ⟨e0, p, t, h3, h4, h5, h6, h7⟩
        · rw [h3] at hg; cases hg
        · exact ⟨e0, h4, .rel ⟨v, he, h5, by rw [h6]; exact (h.gj p t h3 _ hg v h.v0).symm⟩⟩
  · rw [en]
    rcases (mp x).1 hx with rfl | hx
    · rcases inc_ends he hu with h5 | h5
      · subst h5; rw [nv]; omega
      · rw [h5]; exact h0
    · exact l.pe x hx u hu
  · rw [elv, en]; omega
  · rw [elv]; omega
  · have := l.lb u hu (by rw [← en]; exact hu1) hu2 x hx hxv hxo
    rw [elv]; omega
  · rw [elv, en]
    by_cases hm : lo cur v ≤ nm cur (oth A e v)
    · rw [Nat.min_eq_left hm]
      rcases l.la with h5 | ⟨u, x, a1, a2, a3, a4, a5, a6⟩
      · exact .inl h5
      · exact .inr ⟨u, x, a1, by rw [en]; exact a2, a3, a4, a5, a6⟩
    · rw [Nat.min_eq_right (by omega)]
      exact .inr ⟨v, e, h.v0, by rw [en, nv]; omega, he, hv, k0, k1.symm⟩
  · rw [mp]
    rcases List.mem_append.1 hx with hx | hx
    · exact .inr (l.dp x hx)
    · exact .inl (List.mem_singleton.1 hx)
  · rw [elv]
    rcases List.mem_append.1 hx with hx | hx
    · have := l.dl x hx hxv hxo; omega
    · rw [List.mem_singleton.1 hx]; omega
  · rcases (mp x).1 hx with rfl | hx
    · exact .inr (.inr (List.mem_append_right _ (List.mem_singleton_self _)))
    · rcases l.fr x hx with h2 | h2 | h2
      · exact .inl h2
      · exact .inr (.inl h2)
      · exact .inr (.inr (List.mem_append_left _ h2))
end Go.Proofs.Ytaipcpdncmnelaa.Pt

/- A visit's law: the step into a child, and the whole visit. -/
namespace Go.Proofs.Ytaipcpdncmnelaa.Pt
open Tp

variable {N : Nat} {A : Arcs} {g : List Nat} {v : Nat} {via : Int} {s cur : St}
def push (e : Nat) (s : St) : St := { s with stk := s.stk ++ [e] }
theorem push_nm (e : Nat) (s : St) (u : Nat) : nm (push e s) u = nm s u := rfl
theorem push_perm (e : Nat) (s : St) : (pushed (push e s)).Perm (e :: pushed s) := by
  unfold pushed push; dsimp only
  rw [List.append_assoc]
  exact List.perm_middle
theorem mem_push {e : Nat} {s : St} {x : Nat} : x ∈ pushed (push e s) ↔ x = e ∨ x ∈ pushed s := by rw [(push_perm e s).mem_iff, List.mem_cons]
theorem child_pre (h : Pre N A g v via s) {D : List Nat} {e : Nat} (ok : Ok N A) (l : LoopI N A v via s D cur) (he : e ∈ incT A v) (hv : (e : Int) ≠ via) (h0 : nm cur (oth A e v) = 0) : Pre N A (v :: g) (oth A e v) e (push e cur) := by
  obtain ⟨o1, o2, o3⟩ := oth_inc he
  have hnp : e ∉ pushed cur := fun hp => l.pe e hp _ o1 h0
  have nv := l.nv
  have oldg : ∀ x ∈ g, nm cur x = nm s x ∧ nm s x ≠ 0 := fun x hx => ⟨l.gw.old x (h.gr x hx), h.gr x hx⟩
  refine ⟨⟨l.inv.ln, l.inv.ll, l.inv.le, l.inv.cz, l.inv.inj, ?_, fun x hx => ?_, l.inv.rows.same rfl rfl rfl, l.inv.ne⟩, inc_lt ok o1, h0, fun x hx u hu => ?_, fun x hx => ?_, ?_, fun x hx hx2 x' hx' => ?_, .inr ⟨e, v, g, rfl, rfl, o1, o2, mem_push.2 (.inl rfl)⟩, fun p t ht x hx z hz => ?_⟩
  · rw [(push_perm e cur).nodup_iff, List.nodup_cons]; exact ⟨hnp, l.inv.nd⟩
  · rcases mem_push.1 hx with rfl | hx
    · exact (mem_incT.1 he).1
    · exact l.inv.pm x hx
  · rcases mem_push.1 hx with rfl | hx
    · exact .inr rfl
    · exact .inl (l.pe x hx u hu)
  · rw [push_nm]
    rcases List.mem_cons.1 hx with rfl | hx
    · rw [nv]; omega
    · rw [(oldg x hx).1]; exact (oldg x hx).2
  · refine List.pairwise_cons.2 ⟨fun x hx => ?_, h.ga.imp_of_mem fun {a b} ha hb hab => ?_⟩
    · rw [push_nm, push_nm, nv, (oldg x hx).1]
      have := h.inv.le x; omega
    · rw [push_nm, push_nm, (oldg a ha).1, (oldg b hb).1]; exact hab
  · rw [push_nm] at hx
    have hxv : x ≠ v := fun e => hx2 (by rw [e]; exact List.mem_cons_self ..)
    have hxg : x ∉ g := fun e => hx2 (List.mem_cons_of_mem _ e)
    refine mem_push.2 (.inr ?_)
    by_cases hs : nm s x = 0
    · exact l.cl x hs hx hxv x' hx'
    · exact l.gw.sub _ (h.bl x hs hxg x' hx')
  · rw [push_nm] at hz
    injection ht with e1 e2
    subst e1; subst e2
    rcases List.mem_cons.1 hx with rfl | hx
    · exact .refl _
    · rcases h.vi with ⟨h3, _⟩ | ⟨e0, p, t, h3, h4, h5, h6, h7⟩
      · rw [h3] at hx; cases hx
      · have hzs : nm s z = 0 := by
          by_cases hz0 : nm s z = 0
          · exact hz0
          · rw [l.gw.old z hz0] at hz; exact absurd hz hz0
        have hzv : (v : Int) ≠ (z : Int) := fun e => by
          have e : v = z := by omega
          rw [← e, nv] at hz; omega
        have hzp : (oth A e0 v : Int) ≠ (z : Int) := fun e => by
          have e : oth A e0 v = z := by omega
          rw [h6] at e
          exact h.gr p (by rw [h3]; exact List.mem_cons_self ..) (by rw [e]; exact hzs)
        have j1 := J.edge (x := (z : Int)) h5 hzv hzp
        rw [h6] at j1
        exact j1.trans (h.gj p t h3 x hx z hzs)
/-- All that the two ends of a step into a child have in common. -/
theorem child_core (h : Pre N A g v via s) {D : List Nat} {e : Nat} {s1 : St} {stk' : List Nat} {blk' : List (List Nat)} (ok : Ok N A) (l : LoopI N A v via s D cur) (he : e ∈ incT A v) (hv : (e : Int) ≠ via) (h0 : nm cur (oth A e v) = 0)
    (r : LoopI N A (oth A e v) e (push e cur) (incT A (oth A e v)) s1)
    (hp : (stk' ++ blk'.flatten).Perm (pushed s1))
    (hrows : RowsOk A { num := s1.num, low := s1.low.set v (min (lo s1 v) (lo s1 (oth A e v))), cnt := s1.cnt, stk := stk', blk := blk' })
    (hne : ∀ C ∈ blk', C ≠ []) (hblk : ∃ more, blk' = s.blk ++ more)
    (hseg : ∃ seg, stk' = s.stk ++ seg ∧ (∀ e ∈ seg, ∃ u, e ∈ incT A u ∧ nm s u = 0) ∧ ∀ e ∈ seg, ∃ e0 : Nat, via = e0 ∧ Sim A e e0) :
    LoopI N A v via s (D ++ [e]) { num := s1.num, low := s1.low.set v (min (lo s1 v) (lo s1 (oth A e v))), cnt := s1.cnt, stk := stk', blk := blk' } := by
  obtain ⟨o1, o2, o3⟩ := oth_inc he
  obtain ⟨w, hw⟩ : ∃ w, w = oth A e v := ⟨_, rfl⟩
  rw [← hw] at o1 o2 o3 h0 r hrows ⊢
  obtain ⟨c', hc'⟩ : ∃ c' : St, c' = { num := s1.num, low := s1.low.set v (min (lo s1 v) (lo s1 w)), cnt := s1.cnt, stk := stk', blk := blk' } := ⟨_, rfl⟩
  rw [← hc'] at hrows ⊢
  have nv := l.nv
  have nvz : nm cur v ≠ 0 := by rw [nv]; omega
  have en : ∀ u, nm c' u = nm s1 u := fun u => by rw [hc']; rfl
  have oldc : ∀ u, nm cur u ≠ 0 → nm s1 u = nm cur u := r.gw.old
  have newc : ∀ u, nm cur u = 0 → nm s1 u = 0 ∨ cur.cnt < nm s1 u := r.gw.new_
  have lvo : lo s1 v = lo cur v := r.lold v nvz
  have hvl : v < s1.low.length := by rw [r.inv.ll]; exact h.hv
  have elv : lo c' v = min (lo cur v) (lo s1 w) := by
    rw [hc']; unfold lo; dsimp only; rw [getD_set, if_pos ⟨rfl, hvl⟩]
    show min (lo s1 v) (lo s1 w) = _
    rw [lvo]; rfl
  have elo : ∀ u, u ≠ v → lo c' u = lo s1 u := fun u hu => by
    rw [hc']; unfold lo; dsimp only; rw [getD_set, if_neg (fun x => hu x.1.symm)]
  have mp : ∀ x, x ∈ pushed c' ↔ x ∈ pushed s1 := fun x => by rw [hc']; exact hp.mem_iff
  have up : ∀ x, x ∈ pushed cur → x ∈ pushed s1 := fun x hx => r.gw.sub x (mem_push.2 (.inr hx))
  have ep : e ∈ pushed s1 := r.gw.sub e (mem_push.2 (.inl rfl))
  have lv := l.lv; have lp := l.lp; have rp := r.lp
  have nvs : nm s1 v = s.cnt + 1 := by rw [oldc v nvz, nv]
  have hws : nm s w = 0 := by
    by_cases hs : nm s w = 0
    · exact hs
    · rw [l.gw.old w hs] at h0; exact absurd h0 hs
  have olds : ∀ u, nm s u ≠ 0 → nm cur u = nm s u ∧ nm s1 u = nm s u := fun u hu => by
    have e1 := l.gw.old u hu
    exact ⟨e1, by rw [oldc u (by rw [e1]; exact hu), e1]⟩
  refine ⟨⟨⟨?_, ?_, fun u => ?_, ?_, fun u x hu hx => ?_, ?_, fun x hx => r.inv.pm x ((mp x).1 hx), hrows, ?_⟩, ⟨?_, fun u hu => ?_, fun u hu => ?_, fun x hx => (mp x).2 (up x (l.gw.sub x hx)), fun x hx => ?_, ?_⟩, by rw [en, nvs], fun u hu => ?_, ?_, fun x hx u hu => ?_, fun u hu hu1 hu2 x hx => ?_, ?_, ?_, fun u hu hu1 hu2 x hx hxv hxo => ?_, ?_, fun u hu hu1 z hz => ?_⟩, fun x hx => ?_, fun x hx hxv hxo => ?_, fun x hx => ?_⟩
  · rw [hc']; exact r.inv.ln
  · rw [hc']; simp [r.inv.ll]
  · rw [en, hc']; exact r.inv.le u
  · rw [hc']; exact r.inv.cz
  · rw [en] at hu; rw [en, en] at hx; exact r.inv.inj u x hu hx
  · rw [hc']; exact hp.nodup_iff.2 r.inv.nd
  · rw [hc']; exact hne
  · rw [hc']; exact Nat.le_trans l.gw.cnt r.gw.cnt
  · rw [en]; exact (olds u hu).2
  · rw [en]
    by_cases hc : nm cur u = 0
    · rcases newc u hc with h1 | h1
      · exact .inl h1
      · right; have := l.gw.cnt; omega
    · rw [oldc u hc]; exact .inr (l.later hu hc)
  · rcases r.gw.fresh x ((mp x).1 hx) with h1 | ⟨u, h1, h2⟩
    · rcases mem_push.1 h1 with rfl | h1
      · exact .inr ⟨v, he, h.v0⟩
      · exact l.gw.fresh x h1
    · refine .inr ⟨u, h1, ?_⟩
      by_cases hs : nm s u = 0
      · exact hs
      · rw [push_nm, (olds u hs).1] at h2; exact absurd h2 hs
  · rw [hc']; exact hblk
  · have huv : u ≠ v := fun e => hu (by rw [e]; exact h.v0)
    rw [elo u huv, r.lold u (by rw [push_nm, (olds u hu).1]; exact hu)]
    exact l.lold u hu
  · rw [hc']; exact hseg
  · rw [en]; exact r.pe x ((mp x).1 hx) u hu
  · rw [en] at hu1
    refine (mp x).2 ?_
    by_cases hc : nm cur u = 0
    · by_cases huw : u = w
      · subst huw; exact r.dp x hx
      · exact r.cl u hc hu1 huw x hx
    · exact up x (l.cl u hu hc hu2 x hx)
  · rw [elv, en, nvs]; omega
  · rw [elv]; omega
  · rw [en] at hu1
    rw [elv]
    by_cases hc : nm cur u = 0
    · have hxe : x ≠ e := fun e1 => by
        subst e1
        rcases inc_ends he hx with e2 | e2
        · exact hu2 e2
        · rw [e2, ← hw, o2] at hxo; exact hxo h.v0
      have e3 := (olds _ hxo).1
      by_cases huw : u = w
      · subst huw
        have := r.dl x hx (by omega) (by rw [push_nm, e3]; exact hxo)
        rw [push_nm, e3] at this; omega
      · have := r.lb u hc hu1 huw x hx (by omega) (by rw [push_nm, e3]; exact hxo)
        rw [push_nm, e3] at this; omega
    · have := l.lb u hu hc hu2 x hx hxv hxo; omega
  · rw [elv, en]
    by_cases hm : lo cur v ≤ lo s1 w
    · rw [Nat.min_eq_left hm]
      rcases l.la with h5 | ⟨u, x, a1, a2, a3, a4, a5, a6⟩
      · left; rw [h5, nv, nvs]
      · exact .inr ⟨u, x, a1, by rw [en, oldc u a2]; exact a2, a3, a4, a5, a6⟩
    · rw [Nat.min_eq_right (by omega)]
      rcases r.la with h5 | ⟨u, x, a1, a2, a3, a4, a5, a6⟩
      · exfalso
        have h6 := r.nv
        have h7 : (push e cur).cnt = cur.cnt := rfl
        have := l.inv.le v
        omega
      · rw [push_nm] at a1 a5 a6
        have hk := l.known h.inv (u := oth A x u) (by omega) a5
        refine .inr ⟨u, x, ?_, by rw [en]; exact a2, a3, fun hx => ?_, hk.1, by rw [← hk.2]; exact a6⟩
        · by_cases hs : nm s u = 0
          · exact hs
          · rw [(olds u hs).1] at a1; exact absurd a1 hs
        · rcases h.vi with ⟨_, h3⟩ | ⟨e0, p, t, h3, h4, h5, h6, h7⟩
          · omega
          · have e1 : e0 = x := by omega
            subst e1
            rcases inc_ends h5 a3 with e2 | e2
            · rw [e2] at a1; exact nvz a1
            · rw [h6] at e2
              have hp0 := h.gr p (by rw [h3]; exact List.mem_cons_self ..)
              rw [e2, (olds p hp0).1] at a1; exact hp0 a1
  · rw [en] at hu1
    by_cases hc : nm cur u = 0
    · have hzv : (v : Int) ≠ (z : Int) := fun e1 => by
        have e1 : v = z := by omega
        rw [← e1] at hz; exact hz h.v0
      have hzw : (oth A e v : Int) ≠ (z : Int) := fun e1 => by
        rw [← hw] at e1
        have e1 : w = z := by omega
        rw [← e1] at hz; exact hz hws
      have j1 := J.edge (x := (z : Int)) he hzv hzw
      rw [← hw] at j1
      exact j1.trans (r.jn u hc hu1 z (by rw [push_nm, (olds z hz).1]; exact hz))
    · exact l.jn u hu hc z hz
  · rw [mp]
    rcases List.mem_append.1 hx with hx | hx
    · exact up x (l.dp x hx)
    · rw [List.mem_singleton.1 hx]; exact ep
  · rw [elv]
    rcases List.mem_append.1 hx with hx | hx
    · have := l.dl x hx hxv hxo; omega
    · rw [List.mem_singleton.1 hx, ← hw] at hxo; exact absurd hws hxo
  · rcases r.gw.fresh x ((mp x).1 hx) with h1 | ⟨u, h1, h2⟩
    · rcases mem_push.1 h1 with rfl | h1
      · exact .inr (.inr (List.mem_append_right _ (List.mem_singleton_self _)))
      · rcases l.fr x h1 with h2 | h2 | h2
        · exact .inl h2
        · exact .inr (.inl h2)
        · exact .inr (.inr (List.mem_append_left _ h2))
    · rw [push_nm] at h2
      refine .inr (.inl ⟨u, fun e1 => ?_, h1, ?_⟩)
      · rw [e1] at h2; exact nvz h2
      · by_cases hs : nm s u = 0
        · exact hs
        · rw [(olds u hs).1] at h2; exact absurd h2 hs
theorem flat_snoc (B : List (List Nat)) (C : List Nat) : (B ++ [C]).flatten = B.flatten ++ C := by simp
theorem step_child (h : Pre N A g v via s) {D : List Nat} {e : Nat} {s1 : St} (ok : Ok N A) (l : LoopI N A v via s D cur) (he : e ∈ incT A v) (hv : (e : Int) ≠ via) (h0 : nm cur (oth A e v) = 0)
    (r : LoopI N A (oth A e v) e (push e cur) (incT A (oth A e v)) s1) : LoopI N A v via s (D ++ [e]) (tie v (oth A e v) cur.stk.length s1) := by
  obtain ⟨o1, o2, o3⟩ := oth_inc he
  have cp := child_pre h ok l he hv h0
  have nv := l.nv
  have nvz : nm cur v ≠ 0 := by rw [nv]; omega
  have nvs : nm s1 v = s.cnt + 1 := by rw [r.gw.old v nvz]; exact nv
  obtain ⟨seg, g1, g2, g3⟩ := l.seg
  obtain ⟨sg1, q1, q2, q3⟩ := r.seg
  have q1' : s1.stk = cur.stk ++ (e :: sg1) := by
    rw [q1]; show (cur.stk ++ [e]) ++ sg1 = _
    rw [List.append_assoc]; rfl
  have sims : ∀ x ∈ e :: sg1, Sim A x e := fun x hx => by
    rcases List.mem_cons.1 hx with rfl | hx
    · exact .refl _
    · obtain ⟨e0, h1, h2⟩ := q3 x hx
      have : e0 = e := by omega
      rw [← this]; exact h2
  obtain ⟨b1, hb1⟩ := l.gw.blk
  obtain ⟨b2, hb2⟩ := r.gw.blk
  have hb2' : s1.blk = cur.blk ++ b2 := hb2
  have news : ∀ u, nm cur u = 0 → nm s u = 0 := fun u hu => by
    by_cases hs : nm s u = 0
    · exact hs
    · rw [l.gw.old u hs] at hu; exact absurd hu hs
  unfold tie
  by_cases hp : nm s1 v ≤ lo s1 (oth A e v)
  · rw [if_pos hp]
    have ht : s1.stk.take cur.stk.length = cur.stk := by rw [q1']; exact List.take_left
    have hd : s1.stk.drop cur.stk.length = e :: sg1 := by rw [q1']; exact List.drop_left
    rw [ht, hd]
    have hperm : (cur.stk ++ (s1.blk ++ [sortN (e :: sg1)]).flatten).Perm (pushed s1) := by
      unfold pushed
      rw [flat_snoc, q1', List.append_assoc]
      refine List.Perm.append_left _ ?_
      exact (List.perm_append_comm).trans (List.Perm.append_right _ (sortN_perm _))
    refine child_core h ok l he hv h0 r hperm ?_ (fun C hC => ?_) ⟨b1 ++ b2 ++ [sortN (e :: sg1)], by rw [hb2', hb1]; simp⟩ ⟨seg, g1, g2, g3⟩
    · obtain ⟨c', hc'⟩ : ∃ c' : St, c' = { num := s1.num, low := s1.low.set v (min (lo s1 v) (lo s1 (oth A e v))), cnt := s1.cnt, stk := cur.stk, blk := s1.blk ++ [sortN (e :: sg1)] } := ⟨_, rfl⟩
      rw [← hc']
      have en : ∀ u, nm c' u = nm s1 u := fun u => by rw [hc']; rfl
      have ec : c'.cnt = s1.cnt := by rw [hc']
      have eb : c'.blk = s1.blk ++ [sortN (e :: sg1)] := by rw [hc']
      intro j C hC
      rw [eb] at hC
      by_cases hj : j < s1.blk.length
      · rw [List.getElem?_append_left hj] at hC
        rcases r.inv.rows j C hC with h1 | ⟨v0, a, b, h1⟩
        · exact .inl h1
        · exact .inr ⟨v0, a, b, h1.mono (by rw [ec]; exact Nat.le_refl _) (fun u _ => en u) (fun u hu => .inl (by rw [en]; exact hu)) ⟨_, eb⟩⟩
      · have hjl : j = s1.blk.length := by
          have := (List.getElem?_eq_some_iff.1 hC).1
          simp at this; omega
        subst hjl
        rw [List.getElem?_append_right (Nat.le_refl _), Nat.sub_self] at hC
        have hC : C = sortN (e :: sg1) := by simpa using hC.symm
        have mC : ∀ x, x ∈ C ↔ x ∈ e :: sg1 := fun x => by rw [hC]; exact (sortN_perm _).mem_iff
        have inY : ∀ u, cur.cnt + 1 ≤ nm s1 u → nm cur u = 0 := fun u hu => by
          by_cases hc : nm cur u = 0
          · exact hc
          · have e1 := r.gw.old u hc
            have e2 := l.inv.le u
            have e3 : nm (push e cur) u = nm cur u := rfl
            omega
        have toY : ∀ u, nm cur u = 0 → nm s1 u ≠ 0 → cur.cnt + 1 ≤ nm s1 u ∧ nm s1 u ≤ s1.cnt := fun u hu hu1 => ⟨(r.gw.new_ u hu).resolve_left hu1, r.inv.le u⟩
        have allp : ∀ u, nm cur u = 0 → nm s1 u ≠ 0 → ∀ x ∈ incT A u, x ∈ pushed s1 := fun u hu hu1 x hx => by
          by_cases huw : u = oth A e v
          · subst huw; exact r.dp x hx
          · exact r.cl u hu hu1 huw x hx
        refine .inr ⟨v, cur.cnt + 1, s1.cnt, ⟨by omega, by rw [ec]; exact Nat.le_refl _, by rw [en, nvs]; omega, ?_, fun x hx y hy => ?_, fun x hx => ?_, fun u hu hu2 x hx => ?_, fun u hu hu2 x hx => ?_⟩⟩
        · rw [en, r.gw.old v nvz]
          have := l.inv.le v
          exact Nat.lt_succ_of_le this
        · exact (sims x ((mC x).1 hx)).trans (sims y ((mC y).1 hy)).symm
        · rcases List.mem_cons.1 ((mC x).1 hx) with rfl | hx
          · refine ⟨oth A x v, o1, ?_⟩
            have := toY _ h0 (by rw [r.nv]; omega)
            rw [en]; exact this
          · obtain ⟨u, h1, h2⟩ := q2 x hx
            have hxp : x ∈ pushed s1 := by unfold pushed; rw [q1']; exact List.mem_append_left _ (List.mem_append_right _ (List.mem_cons_of_mem _ hx))
            refine ⟨u, h1, ?_⟩
            rw [en]; exact toY u h2 (r.pe x hxp u h1)
        · rw [en] at hu hu2
          have hu0 := inY u hu
          have hu1 : nm s1 u ≠ 0 := by omega
          have hxp := allp u hu0 hu1 x hx
          have hxo := r.pe x hxp _ (oth_inc hx).1
          by_cases hc : nm cur (oth A x u) = 0
          · left; rw [en]; exact toY _ hc hxo
          · right
            by_cases hxe : x = e
            · subst hxe
              rcases inc_ends he hx with e2 | e2
              · rw [e2] at hu0; exact absurd hu0 nvz
              · rw [e2]; exact o2
            · have hg := cp.gray hu0 hx hc
              have hlow : lo s1 (oth A e v) ≤ nm cur (oth A x u) := by
                by_cases huw : u = oth A e v
                · subst huw; exact r.dl x hx (by omega) hc
                · exact r.lb u hu0 hu1 huw x hx (by omega) hc
              rcases List.mem_cons.1 hg with h5 | h5
              · exact h5
              · exfalso
                have e1 := l.gw.old _ (h.gr _ h5)
                have e2 := h.inv.le (oth A x u)
                omega
        · rw [en] at hu hu2
          have hu0 := inY u hu
          have hu1 : nm s1 u ≠ 0 := by omega
          have hxp := allp u hu0 hu1 x hx
          unfold pushed at hxp
          rw [q1'] at hxp
          rcases List.mem_append.1 hxp with h5 | h5
          · rcases List.mem_append.1 h5 with h5 | h5
            · exfalso
              exact l.pe x (List.mem_append_left _ h5) u hx hu0
            · exact ⟨s1.blk.length, Nat.le_refl _, C, by rw [eb, hC]; simp, (mC x).2 h5⟩
          · obtain ⟨R, hR, hxR⟩ := List.mem_flatten.1 h5
            obtain ⟨j', hj', e1⟩ := List.getElem_of_mem hR
            exact ⟨j', by omega, R, by rw [eb, List.getElem?_append_left hj', List.getElem?_eq_getElem hj', e1], hxR⟩
    · rcases List.mem_append.1 hC with hC | hC
      · exact r.inv.ne C hC
      · rw [List.mem_singleton.1 hC]
        intro e1
        have := (sortN_perm (e :: sg1)).length_eq
        rw [e1] at this; simp at this
  · rw [if_neg hp]
    refine child_core h ok l he hv h0 r (.refl _) (r.inv.rows.same rfl rfl rfl) r.inv.ne ⟨b1 ++ b2, by rw [hb2', hb1]; simp⟩ ⟨seg ++ (e :: sg1), by rw [q1', g1, List.append_assoc], fun x hx => ?_, fun x hx => ?_⟩
    · rcases List.mem_append.1 hx with hx | hx
      · exact g2 x hx
      · rcases List.mem_cons.1 hx with rfl | hx
        · exact ⟨v, he, h.v0⟩
        · obtain ⟨u, h1, h2⟩ := q2 x hx
          exact ⟨u, h1, news u h2⟩
    · rcases List.mem_append.1 hx with hx | hx
      · exact g3 x hx
      · -- the child reaches above v: e and via lie on a cycle
        have hw := r.nv
        have hc : (push e cur).cnt = cur.cnt := rfl
        have hle := l.inv.le v
        rcases r.la with h5 | ⟨u, x', a1, a2, a3, a4, a5, a6⟩
        · exfalso; omega
        · have a1' : nm cur u = 0 := a1
          have a5' : nm cur (oth A x' u) ≠ 0 := a5
          have a6' : nm cur (oth A x' u) = lo s1 (oth A e v) := a6
          have hk := l.known h.inv (u := oth A x' u) (by omega) a5'
          have hg := h.gray (news u a1') a3 hk.1
          rcases h.vi with ⟨h3, _⟩ | ⟨e0, p, t, h3, h4, h5, h6, h7⟩
          · rw [h3] at hg; cases hg
          · have huv : (u : Int) ≠ (v : Int) := fun e1 => by
              have e1 : u = v := by omega
              rw [e1] at a1'; exact nvz a1'
            have hxv : (oth A x' u : Int) ≠ (v : Int) := fun e1 => by
              have e1 : oth A x' u = v := by omega
              exact hk.1 (by rw [e1]; exact h.v0)
            have j1 : J A (-1) v (oth A e v) u := r.jn u a1 a2 v nvz
            have j2 := J.edge (x := (v : Int)) a3 huv hxv
            have j3 := h.gj p t h3 _ hg v h.v0
            have hrel : Rel A e e0 := ⟨v, he, h5, by rw [h6]; exact (j1.trans j2).trans j3.symm⟩
            exact ⟨e0, h4, (sims x hx).trans (.rel hrel)⟩
/-- THE LAW OF A VISIT. -/
theorem visit_law (ok : Ok N A) : ∀ (f : Nat) (g : List Nat) (v : Nat) (via : Int) (s : St), Pre N A g v via s → s.num.count 0 ≤ f → LoopI N A v via s (incT A v) (visT A f v via s)
  | 0, g, v, via, s, h, hf => by
    exfalso
    have h1 := h.inv.ln
    have : 0 < s.num.count 0 := List.count_pos_iff.2 (by
      have h2 := h.v0
      have h3 := h.hv
      unfold nm at h2
      rw [List.getD_eq_getElem?_getD, List.getElem?_eq_getElem (by omega)] at h2
      have h2 : s.num[v]'(by omega) = 0 := h2
      rw [← h2]; exact List.getElem_mem _)
    omega
  | f + 1, g, v, via, s, h, hf => by
    have key : ∀ (R D : List Nat) (cur : St), D ++ R = incT A v → LoopI N A v via s D cur → LoopI N A v via s (incT A v) (R.foldl (stepV (fun w e s => visT A f w (e : Int) s) A v via) cur) := by
      intro R
      induction R with
      | nil => intro D cur hD l; rw [List.append_nil] at hD; rw [← hD]; exact l
      | cons e R ih =>
        intro D cur hD l
        have he : e ∈ incT A v := by rw [← hD]; simp
        have hnd := incT_nodup A v
        rw [← hD] at hnd
        have heD : e ∉ D := fun hm => (List.nodup_append.1 hnd).2.2 e hm e (List.mem_cons_self ..) rfl
        refine ih (D ++ [e]) _ (by rw [← hD]; simp) ?_
        unfold stepV
        by_cases h1 : (e : Int) = via
        · rw [if_pos h1]; exact step_via h l h1
        rw [if_neg h1]
        by_cases h2 : nm cur (oth A e v) = 0
        · rw [if_pos h2]
          refine step_child h ok l he h1 h2 (visit_law ok f (v :: g) (oth A e v) e (push e cur) (child_pre h ok l he h1 h2) ?_)
          have e1 := l.inv.cz
          have e2 := h.inv.cz
          have e3 := l.inv.le v
          have e4 := l.nv
          show cur.num.count 0 ≤ f
          omega
        rw [if_neg h2]
        by_cases h3 : nm cur (oth A e v) < nm cur v
        · rw [if_pos h3]; exact (step_back h l he heD h1 h2 h3).2
        · rw [if_neg h3]; exact step_down h l he h2 h3
    exact key (incT A v) [] (entr v s) rfl h.start
end Go.Proofs.Ytaipcpdncmnelaa.Pt
