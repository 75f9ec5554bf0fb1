/- Packed texts: TopHeapP, TopHeads -/
import Derived.Test.YtjjcjoedgmfalaaPt01
import Derived.Test.YtjjcjoedgmfalaaPt02
import Derived.Deep.RegionLaw
set_option linter.unusedVariables false
set_option linter.unusedSimpArgs false
/- A heap as a plain list of numbers: sifting up and down; no program in sight. -/
namespace Go.Proofs.Ytjjcjoedgmfalaa.Tp

def swp (L : List Int) (i j : Nat) : List Int := (L.set i (L.getD j 0)).set j (L.getD i 0)
theorem swp_len (L : List Int) (i j : Nat) : (swp L i j).length = L.length := by simp [swp]
theorem getDi {L : List Int} {i : Nat} (h : i < L.length) : L.getD i 0 = L[i] := by rw [List.getD_eq_getElem?_getD, List.getElem?_eq_getElem h]; rfl
theorem swp_perm {L : List Int} {i j : Nat} (hi : i < L.length) (hj : j < L.length) : (swp L i j).Perm L := by
  unfold swp; rw [getDi hi, getDi hj]; exact List.set_set_perm hi hj
theorem swp_at {L : List Int} {i j : Nat} (hi : i < L.length) (hj : j < L.length) (x : Nat) : (swp L i j).getD x 0 = if x = j then L.getD i 0 else if x = i then L.getD j 0 else L.getD x 0 := by
  unfold swp
  rw [getD_set, List.length_set, getD_set]
  by_cases h1 : x = j
  · subst h1; rw [if_pos ⟨rfl, hj⟩, if_pos rfl]
  · rw [if_neg (fun h => h1 h.1.symm), if_neg h1]
    by_cases h2 : x = i
    · subst h2; rw [if_pos ⟨rfl, hi⟩, if_pos rfl]
    · rw [if_neg (fun h => h2 h.1.symm), if_neg h2]
/-- A heap: no element is less than its parent; on the first n. -/
def HeapN (n : Nat) (L : List Int) : Prop := ∀ i, 0 < i → i < n → L.getD ((i - 1) / 2) 0 ≤ L.getD i 0
/-- .. but for element j, which may be less than its parent. -/
def UpOk (L : List Int) (j : Nat) : Prop := (∀ i, 0 < i → i < L.length → i ≠ j → L.getD ((i - 1) / 2) 0 ≤ L.getD i 0) ∧ ∀ i, 0 < i → i < L.length → (i - 1) / 2 = j → 0 < j → L.getD ((j - 1) / 2) 0 ≤ L.getD i 0
theorem UpOk.done {L : List Int} {j : Nat} (h : UpOk L j) (hd : j = 0 ∨ L.getD ((j - 1) / 2) 0 ≤ L.getD j 0) : HeapN L.length L := fun i h0 h1 => by
  by_cases e : i = j
  · subst e
    rcases hd with hd | hd
    · omega
    · exact hd
  · exact h.1 i h0 h1 e
theorem UpOk.step {L : List Int} {j : Nat} (h : UpOk L j) (hj : j < L.length) (h0 : 0 < j) (hlt : L.getD j 0 < L.getD ((j - 1) / 2) 0) : UpOk (swp L ((j - 1) / 2) j) ((j - 1) / 2) := by
  have hi : (j - 1) / 2 < L.length := by omega
  have hat := swp_at hi hj
  constructor
  · intro i i0 i1 hne
    rw [swp_len] at i1
    rw [hat, hat]
    by_cases e1 : i = j
    · subst e1
      rw [if_pos rfl, if_neg (show ¬ (i - 1) / 2 = i by omega), if_pos rfl]; omega
    · rw [if_neg e1, if_neg hne]
      by_cases e2 : (i - 1) / 2 = j
      · rw [if_pos e2]
        exact h.2 i i0 i1 e2 h0
      · rw [if_neg e2]
        by_cases e3 : (i - 1) / 2 = (j - 1) / 2
        · rw [if_pos e3]
          have := h.1 i i0 i1 e1
          rw [e3] at this; omega
        · rw [if_neg e3]; exact h.1 i i0 i1 e1
  · intro i i0 i1 hp hpos
    rw [swp_len] at i1
    have hpp : ((j - 1) / 2 - 1) / 2 < (j - 1) / 2 := by omega
    rw [hat, hat, if_neg (show ¬ ((j - 1) / 2 - 1) / 2 = j by omega), if_neg (show ¬ ((j - 1) / 2 - 1) / 2 = (j - 1) / 2 by omega)]
    have hpar := h.1 ((j - 1) / 2) hpos (by omega) (by omega)
    by_cases e1 : i = j
    · subst e1; rw [if_pos rfl]; exact hpar
    · rw [if_neg e1, if_neg (show ¬ i = (j - 1) / 2 by omega)]
      have := h.1 i i0 i1 e1
      rw [hp] at this; omega
/-- A heap on the first n, but for the children of i. -/
def DownOk (n : Nat) (L : List Int) (i : Nat) : Prop := (∀ c, 0 < c → c < n → (c - 1) / 2 ≠ i → L.getD ((c - 1) / 2) 0 ≤ L.getD c 0) ∧ ∀ c, 0 < c → c < n → (c - 1) / 2 = i → 0 < i → L.getD ((i - 1) / 2) 0 ≤ L.getD c 0
theorem DownOk.done {n : Nat} {L : List Int} {i : Nat} (h : DownOk n L i) (h1 : 2 * i + 1 < n → L.getD i 0 ≤ L.getD (2 * i + 1) 0) (h2 : 2 * i + 2 < n → L.getD i 0 ≤ L.getD (2 * i + 2) 0) : HeapN n L := fun c c0 c1 => by
  by_cases e : (c - 1) / 2 = i
  · have : c = 2 * i + 1 ∨ c = 2 * i + 2 := by omega
    rcases this with rfl | rfl
    · rw [e]; exact h1 c1
    · rw [e]; exact h2 c1
  · exact h.1 c c0 c1 e
/-- j is the lesser child of i. -/
theorem DownOk.step {n : Nat} {L : List Int} {i j : Nat} (h : DownOk n L i) (hn : n ≤ L.length) (hj : j < n) (hc : j = 2 * i + 1 ∨ j = 2 * i + 2) (h1 : 2 * i + 1 < n → L.getD j 0 ≤ L.getD (2 * i + 1) 0) (h2 : 2 * i + 2 < n → L.getD j 0 ≤ L.getD (2 * i + 2) 0) (hlt : L.getD j 0 < L.getD i 0) :
    DownOk n (swp L i j) j := by
  have hij : i < j := by omega
  have hat := swp_at (L := L) (show i < L.length by omega) (show j < L.length by omega)
  constructor
  · intro c c0 c1 hne
    rw [hat, hat, if_neg hne]
    by_cases e1 : c = j
    · subst e1
      rw [if_pos rfl, if_pos (show (c - 1) / 2 = i by omega)]; omega
    · rw [if_neg e1]
      by_cases e2 : c = i
      · subst e2
        rw [if_pos rfl, if_neg (show ¬ (c - 1) / 2 = c by omega)]
        exact h.2 j (by omega) hj (by omega) c0
      · rw [if_neg e2]
        by_cases e3 : (c - 1) / 2 = i
        · rw [if_pos e3]
          have : c = 2 * i + 1 ∨ c = 2 * i + 2 := by omega
          rcases this with rfl | rfl
          · exact h1 c1
          · exact h2 c1
        · rw [if_neg e3]; exact h.1 c c0 c1 e3
  · intro c c0 c1 hp _
    rw [hat, hat, if_neg (show ¬ (j - 1) / 2 = j by omega), if_pos (show (j - 1) / 2 = i by omega), if_neg (show ¬ c = j by omega), if_neg (show ¬ c = i by omega)]
    have := h.1 c c0 c1 (by omega)
    rw [hp] at this; exact this
theorem HeapN.root {n : Nat} {L : List Int} (h : HeapN n L) : ∀ i, i < n → L.getD 0 0 ≤ L.getD i 0 := by
  intro i
  induction i using Nat.strongRecOn with
  | _ i ih =>
    intro hi
    by_cases h0 : i = 0
    · subst h0; omega
    · have := ih ((i - 1) / 2) (by omega) (by omega)
      have := h i (by omega) hi
      omega
/-- A new element at the end. -/
theorem HeapN.push {L : List Int} (h : HeapN L.length L) (x : Int) : UpOk (L ++ [x]) L.length := by
  have hat : ∀ i, i < L.length → (L ++ [x]).getD i 0 = L.getD i 0 := fun i hi => by
    rw [List.getD_eq_getElem?_getD, List.getD_eq_getElem?_getD, List.getElem?_append_left hi]
  constructor
  · intro i i0 i1 hne
    rw [List.length_append, List.length_singleton] at i1
    rw [hat i (by omega), hat _ (by omega)]
    exact h i i0 (by omega)
  · intro i i0 i1 hp hpos
    rw [List.length_append, List.length_singleton] at i1
    omega
/-- The first and the last are exchanged. -/
theorem HeapN.pop {n : Nat} {L : List Int} (h : HeapN (n + 1) L) (hn : n + 1 ≤ L.length) : DownOk n (swp L 0 n) 0 := by
  have hat := swp_at (L := L) (show 0 < L.length by omega) (show n < L.length by omega)
  constructor
  · intro c c0 c1 hne
    rw [hat, hat, if_neg (show ¬ (c - 1) / 2 = n by omega), if_neg hne, if_neg (show ¬ c = n by omega), if_neg (show ¬ c = 0 by omega)]
    exact h c c0 (by omega)
  · intro c c0 c1 hp h0; omega
theorem HeapN.take {n : Nat} {L : List Int} (h : HeapN n L) (hn : n ≤ L.length) : HeapN (L.take n).length (L.take n) := fun i h0 h1 => by
  rw [List.length_take] at h1
  have hat : ∀ j, j < n → (L.take n).getD j 0 = L.getD j 0 := fun j hj => by
    rw [List.getD_eq_getElem?_getD, List.getD_eq_getElem?_getD, List.getElem?_take, if_pos hj]
  rw [hat _ (by omega), hat _ (by omega)]
  exact h i h0 (by omega)
end Go.Proofs.Ytjjcjoedgmfalaa.Tp

/- heads: a row of heads for each vertex. -/
namespace Go.Proofs.Ytjjcjoedgmfalaa.Tp
open Go.RowKit Go.Sort Go.Lib Fx

/-- The rows under way: block bo holds a slice for each vertex; no two lie in one block. -/
def HeadsAt (w : World) (bo N : Nat) (f : Nat → List Nat) : Prop :=
  ∃ cs : Array Value, w.heap[bo]? = some (.cells cs 26 (0, 0)) ∧ cs.size = N ∧
    (∀ v, v < N → ∃ sv, cs[v]? = some sv ∧ w.ownsRow (bo + 1) 3 1 sv (f v).length (iv (zl (f v)))) ∧
    ∀ (u v : Nat) (su sv : Value), u ≠ v → cs[u]? = some su → cs[v]? = some sv → su.ownBlock = none ∨ su.ownBlock ≠ sv.ownBlock
theorem HeadsAt.ext {w w' : World} {bo N : Nat} {f : Nat → List Nat} (h : HeadsAt w bo N f) (x : Ext w w') : HeadsAt w' bo N f := by
  obtain ⟨cs, h1, h2, h3, h4⟩ := h
  refine ⟨cs, heap_ext h1 x, h2, fun v hv => ?_, h4⟩
  obtain ⟨sv, h5, h6⟩ := h3 v hv
  exact ⟨sv, h5, own_ext' h6 x⟩
theorem HeadsAt.made (w : World) (N : Nat) : HeadsAt (w.alloc (.cells (madeCells #[.slice none 0 0] N) 26)) w.heap.size N (fun _ => []) := by
  refine ⟨_, heap_alloc_new w _, by rw [size_madeCells], fun v hv => ⟨.slice none 0 0, ?_, World.ownsRow_nil _ _ _ _⟩, fun u v su sv _ h1 _ => ?_⟩
  · rw [made_eq]; simp [hv]
  · rw [made_eq] at h1
    have : su = .slice none 0 0 := by
      rw [List.getElem?_toArray, List.getElem?_replicate] at h1
      split at h1
      · exact (Option.some.inj h1).symm
      · cases h1
    subst this; exact .inl rfl
theorem HeadsAt.at {w : World} {bo N : Nat} {f : Nat → List Nat} (h : HeadsAt w bo N f) {v : Nat} (hv : v < N) : ∃ sv, w.cell? ⟨bo, v, none⟩ = some sv ∧ w.ownsRow (bo + 1) 3 1 sv (f v).length (iv (zl (f v))) ∧
    ∀ (w2 : World) (g cap x : Nat), w2.ownsRow (bo + 1) 3 1 (.slice (some ⟨g, 0, none⟩) ((f v).length + 1) cap) ((f v).length + 1) (iv (zl (f v)) ++ [.int .i64 x]) → w.grownBy w2 sv.ownBlock → (sv.ownBlock = some g ∨ w.heap.size ≤ g) →
      HeadsAt (w2.setCell ⟨bo, v, none⟩ (.slice (some ⟨g, 0, none⟩) ((f v).length + 1) cap)) bo N (fun u => if u = v then f u ++ [x] else f u) := by
  obtain ⟨cs, h1, h2, h3, h4⟩ := h
  obtain ⟨sv, h5, h6⟩ := h3 v hv
  refine ⟨sv, by rw [Lib.cell_of_heap h1]; exact h5, h6, fun w2 g cap x hown hg hat => ?_⟩
  have hlt : bo < w.heap.size := (Array.getElem?_eq_some_iff.1 h1).1
  have hne : some bo ≠ sv.ownBlock := fun e => by have := (h6.lt bo e.symm).1; omega
  have hb2 := heap_grown h1 hg hne
  have hgb : bo + 1 ≤ g := (hown.lt g rfl).1
  have hset := heap_set hb2 v (.slice (some ⟨g, 0, none⟩) ((f v).length + 1) cap)
  have keepS : ∀ {u n xs}, w2.ownsRow (bo + 1) 3 1 u n xs → (w2.setCell ⟨bo, v, none⟩ (.slice (some ⟨g, 0, none⟩) ((f v).length + 1) cap)).ownsRow (bo + 1) 3 1 u n xs := fun {u n xs} hu => by
    refine ⟨hu.1, ?_⟩
    rcases hu.2 with h7 | ⟨q, c2, cur, hv2, hq, hqq, r⟩
    · exact .inl h7
    · exact .inr ⟨q, c2, cur, hv2, hq, heap_other hqq _ _ (by omega), r⟩
  have hvs : v < cs.size := by rw [h2]; exact hv
  refine ⟨_, hset, by rw [Array.size_setIfInBounds]; exact h2, fun u hu => ?_, fun u u' su su' hne2 hsu hsu' => ?_⟩
  · by_cases e : u = v
    · subst e
      refine ⟨_, by rw [Array.getElem?_setIfInBounds_self_of_lt hvs], ?_⟩
      dsimp only
      rw [if_pos rfl, zl_app, iv_app]
      have e2 : (f u ++ [x]).length = (f u).length + 1 := by simp
      rw [e2]
      exact keepS hown
    · obtain ⟨su, h8, h9⟩ := h3 u hu
      refine ⟨su, by rw [Array.getElem?_setIfInBounds_ne (fun z => e z.symm)]; exact h8, ?_⟩
      dsimp only
      rw [if_neg e]
      exact keepS (h9.kept hg (h4 u v su sv e h8 h5))
  · have far : ∀ y sy, y ≠ v → cs[y]? = some sy → sy.ownBlock = none ∨ sy.ownBlock ≠ some g := fun y sy hy hsy => by
      rcases hat with hat | hat
      · rw [← hat]; exact h4 y v sy sv hy hsy h5
      · have hyN : y < N := by rw [← h2]; exact (Array.getElem?_eq_some_iff.1 hsy).1
        obtain ⟨sy', h8, h9⟩ := h3 y hyN
        rw [hsy] at h8; cases h8
        cases hb : sy.ownBlock with
        | none => exact .inl rfl
        | some q => right; intro e; cases e; have := (h9.lt g hb).2; omega
    by_cases e : u = v
    · subst e
      rw [Array.getElem?_setIfInBounds_self_of_lt hvs] at hsu
      cases hsu
      rw [Array.getElem?_setIfInBounds_ne hne2] at hsu'
      rcases far u' su' (fun z => hne2 z.symm) hsu' with h8 | h8
      · right; rw [h8]; simp [Value.ownBlock]
      · right; exact fun z => h8 z.symm
    · rw [Array.getElem?_setIfInBounds_ne (fun z => e z.symm)] at hsu
      by_cases e' : u' = v
      · subst e'
        rw [Array.getElem?_setIfInBounds_self_of_lt hvs] at hsu'
        cases hsu'
        exact far u su e hsu
      · rw [Array.getElem?_setIfInBounds_ne (fun z => e' z.symm)] at hsu'
        exact h4 u u' su su' hne2 hsu hsu'
/-- The rows, for reading. -/
def NextIn (w : World) (bo N : Nat) (A : Arcs) : Prop :=
  ∀ v, v < N → ∃ a c, w.cell? ⟨bo, v, none⟩ = some (.slice a (outs A v).length c) ∧ IntIn w a (zl (outs A v)) ∧ ∀ g o, a = some ⟨g, o, none⟩ → bo < g
theorem NextIn.ext {w w' : World} {bo N : Nat} {A : Arcs} (h : NextIn w bo N A) (x : Ext w w') : NextIn w' bo N A := fun v hv => by
  obtain ⟨a, c, h1, h2, h3⟩ := h v hv
  exact ⟨a, c, x.cell h1, h2.ext x, h3⟩
theorem HeadsAt.next {w : World} {bo N : Nat} {A : Arcs} (h : HeadsAt w bo N (outs A)) : NextIn w bo N A := fun v hv => by
  obtain ⟨sv, h1, h2, _⟩ := h.at hv
  obtain ⟨a, c, rfl, h3, _⟩ := own_ints h2 (by rw [zl_len])
  rw [zl_len] at h1
  refine ⟨a, c, h1, h3, fun g o e => ?_⟩
  subst e
  have := (h2.lt g rfl).1
  omega
theorem outs_step (A : Arcs) (k : Nat) (h : k < A.length) : (fun u => if u = A[k].1 then outs (A.take k) u ++ [A[k].2] else outs (A.take k) u) = outs (A.take (k + 1)) := by
  funext u
  rw [List.take_succ_eq_append_getElem h, outs_snoc]
  by_cases e : u = A[k].1
  · rw [if_pos e, if_pos e.symm]
  · rw [if_neg e, if_neg (fun z => e z.symm), List.append_nil]
theorem grown_of_ext {a b c : World} {row : Option Nat} (x : Ext a b) (h : b.grownBy c row) : a.grownBy c row :=
  ⟨h.os.trans x.os, h.tape.trans x.tape, h.output.trans x.output, Nat.le_trans x.size h.size, fun k hk hr => (h.block k (Nat.lt_of_lt_of_le hk x.size) hr).trans (x.block k hk)⟩
theorem new2 (w : World) (A C : Obj) : ((w.alloc A).alloc C).drew.heap[w.heap.size + 1]? = some C := by
  have := heap_alloc_new (w.alloc A) C
  rw [World.size_alloc] at this; exact this
set_option maxHeartbeats 4000000 in
set_option maxRecDepth 100000 in
theorem heads_any (N : Nat) (a : Option Addr) (A : Arcs) (cap : Nat) (w : World) (hN : N ≤ 64) (h : ArcIn w a (zarc A)) (hA : A.length ≤ 256) (ok : Ok N A) :
    Calls Try.prog 23 #[.agg #[.int .i64 N, .slice a A.length cap]] w fun e w' => ∃ bo, e = .returned (.slice (some ⟨bo, 0, none⟩) N N) ∧ NextIn w' bo N A ∧ w.heap.size ≤ bo ∧ Ext w w' := by
  obtain ⟨M, hM⟩ : ∃ M, M = A.length := ⟨_, rfl⟩
  have HI := Lib.hid h
  have HOK := Lib.hid ok
  rw [← hM] at hA ⊢
  have HM := Lib.hid hM
  have hmk := run_make_row' (P := Try.prog) 31 26 (.slice none 0 0) 24 Try.underlying31 info_row rfl .i64 .i64 N (by omega) (by omega)
  obtain ⟨i0, hi, hz0, hz1, hz2⟩ := info_parts info_int
  clear h ok hM
  go_enter Try.func23, Try.ntmps23
  go_wp2
  go_loopw [12] (fun i' wr => ∃ k : Nat, k ≤ M ∧ i' = .int .i64 k ∧ Hid (HeadsAt wr (w.heap.size + 1) N (outs (A.take k))) ∧ Ext w wr) (fun i' _ => M - (RowKit.intOf i').toNat)
  case atStart =>
    refine ⟨0, by omega, rfl, Lib.hid ?_, ((Ext.refl _).alloc _).alloc _⟩
    have := HeadsAt.made (w.alloc (.cells #[.int .i64 N, .slice a M cap] 24)) N
    rw [World.size_alloc] at this
    exact this
  case round =>
    obtain ⟨k, hk, rfl, hh, hx⟩ := hrel
    by_cases hlt : k < M
    · have hkl : k < A.length := by rw [← HM.out]; exact hlt
      obtain ⟨g, o, rfl, c0, c1⟩ := (HI.out.ext hx) k (by rw [zarc_len]; exact hkl)
      have hok := HOK.out _ (List.getElem_mem hkl)
      rw [zarc_at A k hkl] at c0 c1
      obtain ⟨x, hxe⟩ : ∃ x, x = A[k].1 := ⟨_, rfl⟩
      obtain ⟨y, hye⟩ : ∃ y, y = A[k].2 := ⟨_, rfl⟩
      rw [← hxe] at c0 hok; rw [← hye] at c1 hok
      have HX := Lib.hid hxe
      have HY := Lib.hid hye
      clear hxe hye
      obtain ⟨sv, e2, hown, hstep⟩ := hh.out.at hok.1
      have hlen : (outs (A.take k) x).length ≤ k := Nat.le_trans (outs_len_le _ _) (by rw [List.length_take]; omega)
      have e0 : (wr.alloc (.cells #[.int .i64 x, .int .i64 y] 37)).cell? ⟨wr.heap.size, 0, none⟩ = some (.int .i64 x) := by rw [Lib.cell_of_heap (heap_alloc_new wr _)]; rfl
      have e1 : (wr.alloc (.cells #[.int .i64 x, .int .i64 y] 37)).cell? ⟨wr.heap.size, 1, none⟩ = some (.int .i64 y) := by rw [Lib.cell_of_heap (heap_alloc_new wr _)]; rfl
      have e2' : (wr.alloc (.cells #[.int .i64 x, .int .i64 y] 37)).cell? ⟨w.heap.size + 1, x, none⟩ = some sv := ((Ext.refl wr).alloc _).cell e2
      obtain ⟨cs, hcs, hcN, -, -⟩ := hh.out
      have hsz : w.heap.size + 1 < wr.heap.size := (Array.getElem?_eq_some_iff.1 hcs).1
      have hbo : sv.ownBlock ≠ some (w.heap.size + 1) := fun e => by have := (hown.lt _ e).1; omega
      have hbb : sv.ownBlock ≠ some wr.heap.size := fun e => by have := (hown.lt _ e).2; omega
      have hfz := Lib.frozen_of_heap hcs x
      have HH := Lib.hid hh.out
      have HST := Lib.hid hstep
      have HOW := Lib.hid hown
      have HB := Lib.hid hbo; have HBB := Lib.hid hbb; have HFZ := Lib.hid hfz; have HE2 := Lib.hid e2
      clear hh hstep hcs hcN hown hbo hbb hfz e2
      have eA : ∀ o, ((wr.alloc (.cells #[.int .i64 x, .int .i64 y] 37)).alloc o).cell? ⟨wr.heap.size, 0, none⟩ = some (.int .i64 x) ∧ ((wr.alloc (.cells #[.int .i64 x, .int .i64 y] 37)).alloc o).cell? ⟨wr.heap.size, 1, none⟩ = some (.int .i64 y) ∧ ((wr.alloc (.cells #[.int .i64 x, .int .i64 y] 37)).alloc o).cell? ⟨w.heap.size + 1, x, none⟩ = some sv := fun o => ⟨((Ext.refl _).alloc o).cell e0, ((Ext.refl _).alloc o).cell e1, ((Ext.refl _).alloc o).cell e2'⟩
      have EA := Lib.hid eA
      clear eA
      have e3 := fun o => (EA.out o).2.2
      have FIN : Hid (∀ (w2 : World) (gg cp : Nat), w2.ownsRow (w.heap.size + 1 + 1) 3 1 (.slice (some ⟨gg, 0, none⟩) ((outs (A.take k) x).length + 1) cp) ((outs (A.take k) x).length + 1) (iv (zl (outs (A.take k) x)) ++ [.int .i64 y]) → wr.grownBy w2 sv.ownBlock → (sv.ownBlock = some gg ∨ wr.heap.size ≤ gg) →
          Hid (HeadsAt (w2.setCell ⟨w.heap.size + 1, x, none⟩ (.slice (some ⟨gg, 0, none⟩) ((outs (A.take k) x).length + 1) cp)) (w.heap.size + 1) N (outs (A.take (k + 1)))) ∧ Ext w (w2.setCell ⟨w.heap.size + 1, x, none⟩ (.slice (some ⟨gg, 0, none⟩) ((outs (A.take k) x).length + 1) cp))) := Lib.hid (fun w2 gg cp h1 h2 h3 => by
        constructor
        · have := HST.out w2 gg cp y h1 h2 h3
          have e := outs_step A k hkl
          rw [← HX.out, ← HY.out] at e
          rw [e] at this
          exact Lib.hid this
        · exact Below.setCell (Below.grown hx h2 hx.size (fun q hq => by have := (HOW.out.lt q hq).1; omega)) (by show w.heap.size ≤ w.heap.size + 1; omega) _)
      go_wp2_with fail
      go_region_law (refine step_append_lies _ (by rfl) _ _ 26 (by rfl) (w.heap.size + 1 + 1) 3 i0 _ 1 8 Try.underlying26 hi hz0 hz1 hz2 rfl (by decide) _ _ _ (by rfl) (own_ext' HOW.out ((((Ext.refl wr).alloc _).alloc _).drew)) ⟨wr.heap.size + 1, 0, none⟩ 1 1 [.int .i64 y] (by rfl) (by rfl) (World.news_of_block (cs := #[.int .i64 y]) (t := 3) (fr := (0, 0)) (new2 wr _ _)) (by simp [Value.oneCell']) (by omega) (by unfold maxLen; omega) (by omega) (by simp; omega) _ rfl ?_; intro gg cp w2 hown1 hgrow hat2 hlt2; have hgw := grown_of_ext ((((Ext.refl wr).alloc _).alloc _).drew) hgrow; have s2 : w2.cell? ⟨wr.heap.size, 0, none⟩ = some (.int .i64 x) ∧ w2.cell? ⟨wr.heap.size, 1, none⟩ = some (.int .i64 y) ∧ w2.cell? ⟨w.heap.size + 1, x, none⟩ = some sv := ⟨hgrow.cell (EA.out _).1 (fun e => HBB.out e.symm), hgrow.cell (EA.out _).2.1 (fun e => HBB.out e.symm), hgrow.cell (EA.out _).2.2 (fun e => HB.out e.symm)⟩; have s3 : w2.frozen? ⟨w.heap.size + 1, x, none⟩ = false := (World.frozen?_of_block (w := wr) (hgw.block (w.heap.size + 1) hsz (fun e => HB.out e.symm))).trans HFZ.out; have s4 := s2.2.2; have hge : sv.ownBlock = some gg ∨ wr.heap.size ≤ gg := hat2.elim .inl (fun h => .inr (by rw [h]; simp; omega)); have s5 := s2.1; have s6 := s2.2.1; clear hgrow hat2 hlt2 s2)
      all_goals go_wp2
      all_goals go_roundw
      all_goals first | exact ⟨k + 1, by omega, by go_num, (FIN.out _ _ _ hown1 hgw hge).1, (FIN.out _ _ _ hown1 hgw hge).2⟩ | (simp [RowKit.intOf]; omega)
    · have hkM : k = A.length := by have := HM.out; omega
      have hn := hh.out
      rw [hkM, List.take_length] at hn
      have HNX := Lib.hid hn.next
      clear hn hkM hh
      go_wp2
      go_ret
      exact ⟨_, rfl, HNX.out, by omega, hx⟩
end Go.Proofs.Ytjjcjoedgmfalaa.Tp
