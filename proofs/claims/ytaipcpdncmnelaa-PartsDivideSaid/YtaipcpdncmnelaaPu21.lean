/- Packed texts: PrtMrgL, PrtEqs, PrtLawB, PrtLawC -/
import Derived.Test.YtaipcpdncmnelaaPu18
import Derived.Test.YtaipcpdncmnelaaPu20
import Derived.Test.YtaipcpdncmnelaaPu14
import Derived.Test.YtaipcpdncmnelaaPu17
set_option linter.unusedVariables false
set_option linter.unusedSimpArgs false
/- The classes of the merged labels are the blocks that the search finds, plain. -/
namespace Go.Proofs.Ytaipcpdncmnelaa.Pt
open Tp

variable {N : Nat} {A : Arcs}
theorem mem_classes {l : List Int} {C : List Nat} : C ∈ classesT l ↔ ∃ i, i < l.length ∧ clsF l i i = true ∧ C = clsR l i l.length := by
  unfold classesT clsK
  simp only [List.mem_map, List.mem_filter, List.mem_range]
  exact ⟨fun ⟨i, ⟨h1, h2⟩, h3⟩ => ⟨i, h1, h2, h3.symm⟩, fun ⟨i, h1, h2, h3⟩ => ⟨i, ⟨h1, h2⟩, h3.symm⟩⟩
theorem clsF_iff {l : List Int} {i : Nat} : clsF l i i = true ↔ ∀ j, j < i → l.getD j 0 ≠ l.getD i 0 := by
  unfold clsF
  simp only [List.all_eq_true, List.mem_range, bne_iff_ne, ne_eq]
theorem mem_clsR {l : List Int} {i j k : Nat} : j ∈ clsR l i k ↔ j < k ∧ i ≤ j ∧ l.getD j 0 = l.getD i 0 := by
  unfold clsR
  simp only [List.mem_filter, List.mem_range, Bool.and_eq_true, decide_eq_true_eq, beq_iff_eq]
theorem clsR_asc (l : List Int) (i k : Nat) : (clsR l i k).Pairwise (· < ·) := List.Pairwise.filter _ List.pairwise_lt_range
theorem clsR_head {l : List Int} {i : Nat} (h : i < l.length) : (clsR l i l.length).getD 0 0 = i := by
  have hm : i ∈ clsR l i l.length := mem_clsR.2 ⟨h, Nat.le_refl _, rfl⟩
  have h1 := head_least (clsR_asc l i l.length) hm
  have h2 := (mem_clsR.1 (head_mem (List.ne_nil_of_mem hm))).2.1
  omega
theorem classes_keys (l : List Int) : (classesT l).Pairwise (fun a b => a.getD 0 0 < b.getD 0 0) := by
  unfold classesT clsK
  rw [List.pairwise_map]
  refine (List.Pairwise.filter _ List.pairwise_lt_range).imp_of_mem (fun {a b} ha hb h => ?_)
  rw [clsR_head (List.mem_range.1 (List.mem_filter.1 ha).1), clsR_head (List.mem_range.1 (List.mem_filter.1 hb).1)]
  exact h
theorem BlkOk.cloS {X : List (List Nat)} (h : BlkOk A X) {C : List Nat} (hC : C ∈ X) {e e' : Nat} (he : e ∈ C) (hs : Sim A e e') : e' ∈ C := by
  induction hs with
  | refl => exact he
  | rel hr => exact h.clo C hC _ he _ hr
  | trans _ _ h1 h2 => exact h2 (h1 he)
theorem blocksR_mem (ok : Ok N A) {C : List Nat} : C ∈ blocksR N A ↔ C ∈ blkT N A := by
  have b := blk_ok ok
  have hl := mrg_len N A N
  unfold blocksR
  rw [mem_classes]
  have key : ∀ i D, i < A.length → clsF (mrgL N A N) i i = true → D ∈ blkT N A → i ∈ D → D = clsR (mrgL N A N) i (mrgL N A N).length := fun i D hi hf hD hm => by
    refine asc_ext (b.asc D hD) (clsR_asc _ _ _) (fun x => ?_)
    rw [mem_clsR, hl]
    constructor
    · intro hx
      have hxl := b.lt D hD x hx
      have e := (mrg_iff ok hxl hi).2 (b.sim D hD x hx i hm)
      refine ⟨hxl, ?_, e⟩
      by_cases h : i ≤ x
      · exact h
      · exact absurd e (clsF_iff.1 hf x (by omega))
    · rintro ⟨h1, _, h3⟩
      exact b.cloS hD hm ((mrg_iff ok hi h1).1 h3.symm)
  constructor
  · rintro ⟨i, h1, h2, h3⟩
    rw [hl] at h1
    obtain ⟨D, hD, hm⟩ := b.all i h1
    rw [h3, ← key i D h1 h2 hD hm]; exact hD
  · intro hC
    have hne := b.ne C hC
    have hm := head_mem hne
    have hlt := b.lt C hC _ hm
    have hf : clsF (mrgL N A N) (C.getD 0 0) (C.getD 0 0) = true := clsF_iff.2 (fun j hj e => by
      have := b.cloS hC hm ((mrg_iff ok hlt (by omega)).1 e.symm)
      have := head_least (b.asc C hC) this
      omega)
    exact ⟨C.getD 0 0, by rw [hl]; exact hlt, hf, key _ C hlt hf hC hm⟩
end Go.Proofs.Ytaipcpdncmnelaa.Pt

/- The program's blocks, bridges and cut vertices are the document's, plain. -/
namespace Go.Proofs.Ytaipcpdncmnelaa.Pt
open Tp

variable {N : Nat} {A : Arcs}
/-! ### blocks -/
theorem flat_ne : ∀ {X : List (List Nat)}, X.flatten.Nodup → (∀ C ∈ X, C ≠ []) → X.Nodup
  | [], _, _ => .nil
  | C :: X, h, k => by
    rw [List.flatten_cons, List.nodup_append] at h
    refine List.nodup_cons.2 ⟨fun hm => ?_, flat_ne h.2.1 (fun D hD => k D (List.mem_cons_of_mem _ hD))⟩
    obtain ⟨e, t, he⟩ := List.exists_cons_of_ne_nil (k C (List.mem_cons_self ..))
    have h1 : e ∈ C := by rw [he]; exact List.mem_cons_self ..
    exact h.2.2 e h1 e (List.mem_flatten.2 ⟨C, hm, h1⟩) rfl
theorem blk_nodup (ok : Ok N A) : (blkT N A).Nodup := flat_ne (blk_ok ok).nd (blk_ok ok).ne
theorem blocks_nodup (ok : Ok N A) : (blocksT N A).Nodup := (sortH_perm _).nodup_iff.2 (blk_nodup ok)
theorem blocks_keys (ok : Ok N A) : (blocksT N A).Pairwise (fun a b => a.getD 0 0 < b.getD 0 0) := by
  refine ((sortH_asc (blkT N A)).and (blocks_nodup ok)).imp_of_mem (fun {a b} ha hb h => ?_)
  have h1 : hd a ≤ hd b := h.1
  have h2 : hd a ≠ hd b := fun e => h.2 (blk_heads ok a (blocks_mem.1 ha) b (blocks_mem.1 hb) e)
  unfold hd at h1 h2
  omega
theorem blocks_eq (ok : Ok N A) : blocksT N A = blocksR N A :=
  asc_key (f := fun C => C.getD 0 0) (blocks_keys ok) (classes_keys _) (fun C => by rw [blocks_mem, blocksR_mem ok])
/-! ### bridges -/
theorem brK_full (A : Arcs) (X : List (List Nat)) : brK A X X.length = (X.filter (isBr A)).map hd := by unfold brK; rw [List.take_length]
theorem isBr_iff {C : List Nat} : isBr A C = true ↔ (∃ e, C = [e]) ∧ (arcN A (hd C)).1 ≠ (arcN A (hd C)).2 := by
  unfold isBr
  rw [Bool.and_eq_true, Bool.not_eq_true', beq_iff_eq, beq_eq_false_iff_ne]
  constructor
  · rintro ⟨h1, h2⟩
    refine ⟨?_, by omega⟩
    match C, h1 with
    | [e], _ => exact ⟨e, rfl⟩
  · rintro ⟨⟨e, rfl⟩, h2⟩
    exact ⟨rfl, by omega⟩
theorem self_only {C : List Nat} {e : Nat} (hs : C.Pairwise (· < ·)) (he : e ∈ C) (h : ∀ x ∈ C, x = e) : C = [e] :=
  asc_ext hs (by simp) (fun x => ⟨fun hx => by rw [h x hx]; simp, fun hx => by rw [List.mem_singleton.1 hx]; exact he⟩)
theorem brQ_iff (ok : Ok N A) {e : Nat} (he : e ∈ incT A (arcN A e).1) : brQ N A e = true ↔ ∀ k, Rel A e k → k = e := by
  have hm := mem_incT.1 he
  have hak := arcN_ok ok hm.1
  have ho : oth A e (arcN A e).1 = (arcN A e).2 := by unfold oth; omega
  rw [bridge_iff he, ho]
  unfold brQ
  rw [bne_iff_ne, ne_eq, lab_iff ok hak.1 hak.2 (by omega) (by omega)]
theorem bridges_eq (ok : Ok N A) : bridgesT N A = bridgesR N A := by
  have b := blk_ok ok
  refine asc_ext ?_ (List.Pairwise.filter _ List.pairwise_lt_range) (fun e => ?_)
  · unfold bridgesT
    rw [brK_full, List.pairwise_map]
    exact List.Pairwise.filter _ (blocks_keys ok)
  · unfold bridgesT bridgesR brRK
    rw [brK_full, List.mem_map, List.mem_filter, List.mem_range]
    constructor
    · rintro ⟨C, hC, rfl⟩
      rw [List.mem_filter, isBr_iff] at hC
      obtain ⟨hC, ⟨e, rfl⟩, hl⟩ := hC
      have hC := blocks_mem.1 hC
      have hlt := b.lt _ hC e (by simp)
      have he : e ∈ incT A (arcN A e).1 := mem_incT.2 ⟨hlt, hl, .inl rfl⟩
      exact ⟨hlt, (brQ_iff ok he).2 (fun k hk => by simpa using b.clo _ hC e (by simp) k hk)⟩
    · rintro ⟨hlt, hq⟩
      have hl : (arcN A e).1 ≠ (arcN A e).2 := fun h => by
        unfold brQ at hq
        rw [h] at hq
        simp at hq
      have he : e ∈ incT A (arcN A e).1 := mem_incT.2 ⟨hlt, hl, .inl rfl⟩
      have hr := (brQ_iff ok he).1 hq
      obtain ⟨C, hC, hm⟩ := b.all e hlt
      have hCe : C = [e] := self_only (b.asc C hC) hm (fun x hx => by
        rcases (b.sim C hC e hm x hx).out with h | ⟨j, h1, h2⟩
        · exact h.symm
        · exact absurd (hr j h2) h1)
      subst hCe
      exact ⟨[e], List.mem_filter.2 ⟨blocks_mem.2 hC, isBr_iff.2 ⟨⟨e, rfl⟩, hl⟩⟩, rfl⟩
/-! ### cut vertices -/
def vertsOf (A : Arcs) (C : List Nat) : List Nat := C.flatMap (fun e => [(arcN A e).1, (arcN A e).2])
theorem edges_see (A : Arcs) : ∀ (C : List Nat) (s : List Nat × List Int), C.foldl (edgV A) s = (vertsOf A C).foldl seeV s
  | [], _ => rfl
  | e :: C, s => by
    rw [List.foldl_cons, edges_see A C]
    unfold vertsOf
    rw [List.flatMap_cons, List.foldl_append]
    rfl
theorem sees_law (v : Nat) : ∀ (L : List Nat) (s : List Nat × List Int), v < s.2.length → (v ∈ (L.foldl seeV s).1 ↔ v ∈ s.1 ∨ v ∈ L) ∧ (L.foldl seeV s).2.getD v 0 = s.2.getD v 0 + (if v ∈ L ∧ v ∉ s.1 then 1 else 0)
  | [], s, _ => by simp
  | u :: L, s, hv => by
    rw [List.foldl_cons]
    by_cases hu : u ∈ s.1
    · have e : seeV s u = s := by unfold seeV; rw [if_pos hu]
      rw [e]
      obtain ⟨h1, h2⟩ := sees_law v L s hv
      refine ⟨by rw [h1]; constructor; (rintro (h | h); exact .inl h; exact .inr (List.mem_cons_of_mem _ h)); (rintro (h | h); exact .inl h; (rcases List.mem_cons.1 h with rfl | h; exact .inl hu; exact .inr h)), ?_⟩
      rw [h2]
      by_cases hs : v ∈ s.1
      · rw [if_neg (fun h => h.2 hs), if_neg (fun h => h.2 hs)]
      · have hvu : v ≠ u := fun e => hs (by rw [e]; exact hu)
        by_cases hL : v ∈ L
        · rw [if_pos ⟨hL, hs⟩, if_pos ⟨List.mem_cons_of_mem _ hL, hs⟩]
        · rw [if_neg (fun h => hL h.1), if_neg (fun h => (List.mem_cons.1 h.1).elim hvu hL)]
    · have e : seeV s u = (s.1 ++ [u], s.2.set u (s.2.getD u 0 + 1)) := by unfold seeV; rw [if_neg hu]
      rw [e]
      obtain ⟨h1, h2⟩ := sees_law v L (s.1 ++ [u], s.2.set u (s.2.getD u 0 + 1)) (by simpa using hv)
      refine ⟨?_, ?_⟩
      · rw [h1, List.mem_append, List.mem_singleton, List.mem_cons]
        constructor
        · rintro ((h | h) | h)
          · exact .inl h
          · exact .inr (.inl h)
          · exact .inr (.inr h)
        · rintro (h | h | h)
          · exact .inl (.inl h)
          · exact .inl (.inr h)
          · exact .inr h
      · rw [h2]
        dsimp only
        rw [getD_set]
        by_cases hvu : u = v
        · subst hvu
          rw [if_pos ⟨rfl, hv⟩, if_neg (fun h => h.2 (by simp)), if_pos ⟨List.mem_cons_self .., hu⟩]
          omega
        · rw [if_neg (fun h => hvu h.1)]
          by_cases hc : v ∈ L ∧ v ∉ s.1
          · rw [if_pos ⟨hc.1, by rw [List.mem_append, List.mem_singleton]; exact fun h => h.elim hc.2 (fun h => hvu h.symm)⟩, if_pos ⟨List.mem_cons_of_mem _ hc.1, hc.2⟩]
          · rw [if_neg (fun h => hc ⟨h.1, fun k => h.2 (List.mem_append_left _ k)⟩), if_neg (fun h => hc ⟨(List.mem_cons.1 h.1).resolve_left (fun e => hvu e.symm), h.2⟩)]
/-- A block that is no loop and has the vertex. -/
def hit (A : Arcs) (v : Nat) (C : List Nat) : Bool := !isLp A C && (vertsOf A C).contains v
theorem rowC_at {c : List Int} {v : Nat} (hv : v < c.length) (C : List Nat) : (rowC A c C).getD v 0 = c.getD v 0 + (if hit A v C = true then 1 else 0) := by
  unfold rowC hit
  by_cases h : isLp A C = true
  · rw [if_pos h, h]; simp
  · have h' : isLp A C = false := by simpa using h
    rw [if_neg h, h', edges_see, (sees_law v (vertsOf A C) ([], c) hv).2]
    simp
theorem rowC_len (c : List Int) (C : List Nat) : (rowC A c C).length = c.length := by
  unfold rowC
  split
  · rfl
  · rw [edges_see]
    have : ∀ (L : List Nat) (s : List Nat × List Int), (L.foldl seeV s).2.length = s.2.length := by
      intro L
      induction L with
      | nil => exact fun _ => rfl
      | cons u L ih =>
        intro s
        rw [List.foldl_cons, ih]
        unfold seeV
        split
        · rfl
        · simp
    exact this _ _
theorem cnt_law {N : Nat} {A : Arcs} {X : List (List Nat)} {v : Nat} (hv : v < N) : ∀ k, k ≤ X.length → (cntF N A X k).length = N ∧ (cntF N A X k).getD v 0 = (((X.take k).filter (hit A v)).length : Int)
  | 0, _ => by
    unfold cntF
    rw [List.take_zero]
    refine ⟨by simp, ?_⟩
    rw [List.foldl_nil, List.getD_eq_getElem?_getD, List.getElem?_replicate_of_lt hv]
    rfl
  | k + 1, hk => by
    obtain ⟨h1, h2⟩ := cnt_law (A := A) (X := X) hv k (by omega)
    rw [cntF_succ N A X k (by omega)]
    refine ⟨by rw [rowC_len]; exact h1, ?_⟩
    rw [rowC_at (by rw [h1]; exact hv), h2, List.take_succ_eq_append_getElem (by omega), List.filter_append, List.length_append]
    by_cases h : hit A v (X[k]'(by omega)) = true
    · rw [if_pos h, List.filter_cons_of_pos h]; simp
    · rw [if_neg h, List.filter_cons_of_neg h]; simp
theorem two_iff {α : Type} {l : List α} (hn : l.Nodup) : 1 < l.length ↔ ∃ x ∈ l, ∃ y ∈ l, x ≠ y := by
  constructor
  · intro h
    match l, hn, h with
    | x :: y :: t, hn, _ => exact ⟨x, by simp, y, by simp, fun e => (List.nodup_cons.1 hn).1 (by rw [e]; simp)⟩
  · rintro ⟨x, hx, y, hy, hxy⟩
    match l, hx, hy with
    | [z], hx, hy => exact absurd ((List.mem_singleton.1 hx).trans (List.mem_singleton.1 hy).symm) hxy
    | _ :: _ :: _, _, _ => simp
theorem mem_verts {C : List Nat} {v : Nat} : v ∈ vertsOf A C ↔ ∃ e ∈ C, (arcN A e).1 = v ∨ (arcN A e).2 = v := by
  unfold vertsOf
  rw [List.mem_flatMap]
  constructor
  · rintro ⟨e, h1, h2⟩
    refine ⟨e, h1, ?_⟩
    rcases List.mem_cons.1 h2 with h | h
    · exact .inl h.symm
    · exact .inr (List.mem_singleton.1 h).symm
  · rintro ⟨e, h1, h2⟩
    refine ⟨e, h1, ?_⟩
    rcases h2 with h | h
    · rw [← h]; simp
    · rw [← h]; simp
/-- The blocks at a vertex that are no loops. -/
theorem hit_iff (ok : Ok N A) {v : Nat} {C : List Nat} (hC : C ∈ blkT N A) : hit A v C = true ↔ ∃ e ∈ C, e ∈ incT A v := by
  have b := blk_ok ok
  have hm := hd_mem (b.ne C hC)
  unfold hit isLp
  rw [Bool.and_eq_true, Bool.not_eq_true', beq_eq_false_iff_ne, List.contains_iff_mem, mem_verts]
  constructor
  · rintro ⟨h1, e, h2, h3⟩
    refine ⟨e, h2, mem_incT.2 ⟨b.lt C hC e h2, ?_, h3⟩⟩
    rcases (b.sim C hC (hd C) hm e h2).all.1 with h | ⟨u, h⟩
    · rw [← h]; omega
    · exact (mem_incT.1 h).2.1
  · rintro ⟨e, h1, h2⟩
    refine ⟨?_, e, h1, (mem_incT.1 h2).2.2⟩
    rcases (b.sim C hC e h1 (hd C) hm).all.1 with h | ⟨u, h⟩
    · rw [← h]; have := (mem_incT.1 h2).2.1; omega
    · have := (mem_incT.1 h).2.1; omega
theorem cut_blocks (ok : Ok N A) {v : Nat} (hv : v < N) : 1 < (cntF N A (blocksT N A) (blocksT N A).length).getD v 0 ↔ ∃ i k, i ∈ incT A v ∧ k ∈ incT A v ∧ ¬ Rel A i k := by
  have b := blk_ok ok
  rw [(cnt_law (A := A) hv _ (Nat.le_refl _)).2, List.take_length]
  have h0 := two_iff ((blocks_nodup ok).filter (hit A v))
  constructor
  · intro h
    obtain ⟨C, hC, D, hD, hne⟩ := h0.1 (by omega)
    rw [List.mem_filter] at hC hD
    have hC1 := blocks_mem.1 hC.1
    have hD1 := blocks_mem.1 hD.1
    obtain ⟨i, i1, i2⟩ := (hit_iff ok hC1).1 hC.2
    obtain ⟨k, k1, k2⟩ := (hit_iff ok hD1).1 hD.2
    refine ⟨i, k, i2, k2, fun hr => hne ?_⟩
    have hk := b.clo C hC1 i i1 k hr
    obtain ⟨p, hp, e1⟩ := List.getElem_of_mem hC1
    obtain ⟨q, hq, e2⟩ := List.getElem_of_mem hD1
    have := flat_idx b.nd (by rw [List.getElem?_eq_getElem hp, e1]) (by rw [List.getElem?_eq_getElem hq, e2]) hk k1
    subst this
    rw [← e1, ← e2]
  · rintro ⟨i, k, h1, h2, h3⟩
    obtain ⟨C, hC, i1⟩ := b.all i (mem_incT.1 h1).1
    obtain ⟨D, hD, k1⟩ := b.all k (mem_incT.1 h2).1
    have := h0.2 ⟨C, List.mem_filter.2 ⟨blocks_mem.2 hC, (hit_iff ok hC).2 ⟨i, i1, h1⟩⟩, D, List.mem_filter.2 ⟨blocks_mem.2 hD, (hit_iff ok hD).2 ⟨k, k1, h2⟩⟩, fun e => by
      subst e
      exact h3 ((b.sim C hC i i1 k k1).at_ h1 h2)⟩
    omega
theorem J_in {e x : Int} {a b : Nat} (ok : Ok N A) (h : J A e x a b) (hne : a ≠ b) : a < N ∧ b < N := by
  have key : ∀ {a b : Nat}, J A e x a b → a ≠ b → b < N := fun {a b} h hne => by
    unfold J at h
    cases h with
    | refl => exact absurd rfl hne
    | step h1 e1 =>
      obtain ⟨i, i1, -, -, -, i5⟩ := mem_und.1 e1
      have := arcN_ok ok i1
      rcases i5 with i5 | i5 <;> rw [i5] at this <;> dsimp only at this <;> omega
  exact ⟨key h.symm (fun e => hne e.symm), key h hne⟩
theorem cutQ_iff (ok : Ok N A) {v : Nat} : cutQ N A v = true ↔ ∃ a b, a ≠ v ∧ b ≠ v ∧ J A (-1) (-1) a b ∧ ¬ J A (-1) v a b := by
  have pt : ∀ a b, a < N → b < N → (cutP (labT N A (-1) (-1)) (labT N A (-1) v) v a b = true ↔ a ≠ v ∧ b ≠ v ∧ J A (-1) (-1) a b ∧ ¬ J A (-1) v a b) := fun a b ha hb => by
    unfold cutP
    rw [Bool.and_eq_true, Bool.and_eq_true, Bool.and_eq_true, decide_eq_true_eq, decide_eq_true_eq, beq_iff_eq, bne_iff_ne, lab_iff ok ha hb (by omega) (by omega)]
    constructor
    · rintro ⟨h1, h2, h3, h4⟩
      exact ⟨h1, h2, h3, fun h => h4 ((lab_iff ok ha hb (by omega) (by omega)).2 h)⟩
    · rintro ⟨h1, h2, h3, h4⟩
      exact ⟨h1, h2, h3, fun h => h4 ((lab_iff ok ha hb (by omega) (by omega)).1 h)⟩
  unfold cutQ cutA cutB
  simp only [List.any_eq_true, List.mem_range]
  constructor
  · rintro ⟨a, ha, b, hb, h⟩
    exact ⟨a, b, (pt a b ha (by omega)).1 h⟩
  · rintro ⟨a, b, h1, h2, h3, h4⟩
    have hne : a ≠ b := fun e => h4 (by rw [e]; exact Path.refl _)
    have hin := J_in ok h3 hne
    rcases Nat.lt_or_ge b a with h | h
    · exact ⟨a, hin.1, b, h, (pt a b hin.1 hin.2).2 ⟨h1, h2, h3, h4⟩⟩
    · exact ⟨b, hin.2, a, by omega, (pt b a hin.2 hin.1).2 ⟨h2, h1, h3.symm, fun h => h4 h.symm⟩⟩
theorem cuts_eq (ok : Ok N A) : cutsT N A = cutsR N A := by
  unfold cutsT cutK cutsR cutRK
  refine List.filter_congr (fun v hv => ?_)
  rw [Bool.eq_iff_iff, decide_eq_true_eq, cut_blocks ok (List.mem_range.1 hv), cutQ_iff ok, cut_iff]
end Go.Proofs.Ytaipcpdncmnelaa.Pt

/- The law of Bridges, Cuts and Biconnected, walked. -/
namespace Go.Proofs.Ytaipcpdncmnelaa.Pt
open Go.RowKit Go.Sort Go.Lib Fx Tp

theorem same_eq {a b : Option Addr} {ca cb K : Nat} {R : List Int} (hK : K = R.length) (hl : R.length ≤ 256) {w : World} (ha : IntIn w a R) (hb : IntIn w b R) :
    Calls Try.prog 15 #[.slice a K ca, .slice b K cb] w fun e w' => e = .returned (.bool true) ∧ Ext w w' := by
  subst hK
  refine (same_any a b R R ca cb w ha hb (by omega) (by omega)).mono ?_
  rintro e w' ⟨rfl, x⟩
  exact ⟨by rw [decide_eq_true rfl], x⟩
theorem int_nil (w : World) (a : Option Addr) : IntIn w a [] := fun j hj => absurd hj (by simp)
/-- What the six functions hand back. -/
theorem cuts_all (VIS : Vis) {n : Int} {a : Option Addr} {L : ArcZ} {cap : Nat} {w : World} (hn0 : -9223372036854775808 ≤ n) (hn1 : n ≤ 9223372036854775807) (h : ArcIn w a L) (hk : ArcOk L) (hL : L.length ≤ 9223372036854775807) :
    ∃ (S T : List Int) (B : Bool), S.length ≤ 256 ∧ T.length ≤ 256 ∧
      (∀ w1, Ext w w1 → Calls Try.prog 16 #[.agg #[.int .i64 n, .slice a L.length cap]] w1 fun e w' => ∃ b c, e = .returned (.slice b S.length c) ∧ IntIn w' b S ∧ Ext w1 w') ∧
      (∀ w1, Ext w w1 → Calls Try.prog 17 #[.agg #[.int .i64 n, .slice a L.length cap]] w1 fun e w' => ∃ b c, e = .returned (.slice b S.length c) ∧ IntIn w' b S ∧ Ext w1 w') ∧
      (∀ w1, Ext w w1 → Calls Try.prog 18 #[.agg #[.int .i64 n, .slice a L.length cap]] w1 fun e w' => ∃ b c, e = .returned (.slice b T.length c) ∧ IntIn w' b T ∧ Ext w1 w') ∧
      (∀ w1, Ext w w1 → Calls Try.prog 19 #[.agg #[.int .i64 n, .slice a L.length cap]] w1 fun e w' => ∃ b c, e = .returned (.slice b T.length c) ∧ IntIn w' b T ∧ Ext w1 w') ∧
      (∀ w1, Ext w w1 → Calls Try.prog 20 #[.agg #[.int .i64 n, .slice a L.length cap]] w1 fun e w' => e = .returned (.bool B) ∧ Ext w1 w') ∧
      (∀ w1, Ext w w1 → Calls Try.prog 21 #[.agg #[.int .i64 n, .slice a L.length cap]] w1 fun e w' => e = .returned (.bool B) ∧ Ext w1 w') := by
  by_cases hv : validL n L = true
  · obtain ⟨N, A, rfl, hN, hz, hA, ok⟩ := valid_nat hv
    have hz : L = zarc A := hz
    subst hz
    have he := comp_eq ok
    have hb := bridges_eq ok
    have hc := cuts_eq ok
    refine ⟨zl (bridgesR N A), zl (cutsR N A), ((compR N A).length : Int) == 1 && ((cutsR N A).length : Int) == 0, by rw [zl_len]; have := brRK_len N A A.length; exact Nat.le_trans this hA, by rw [zl_len]; have := cutRK_len N A N; exact Nat.le_trans this (by omega), fun w1 x => ?_, fun w1 x => ?_, fun w1 x => ?_, fun w1 x => ?_, fun w1 x => ?_, fun w1 x => ?_⟩
    · rw [zarc_len, zl_len, ← hb]
      refine (bridges_of VIS N a A cap w1 hN (h.ext x) hA ok).mono ?_
      rintro e w' ⟨⟨b, c, rfl, hr⟩, y⟩
      exact ⟨b, c, rfl, hr, y⟩
    · rw [zarc_len, zl_len]
      refine (bridgesR_any N a A cap w1 hN (h.ext x) hA ok).mono ?_
      rintro e w' ⟨⟨b, c, rfl, hr⟩, y⟩
      exact ⟨b, c, rfl, hr, y⟩
    · rw [zarc_len, zl_len, ← hc]
      refine (cuts_of VIS N a A cap w1 hN (h.ext x) hA ok).mono ?_
      rintro e w' ⟨⟨b, c, rfl, hr⟩, y⟩
      exact ⟨b, c, rfl, hr, y⟩
    · rw [zarc_len, zl_len]
      refine (cutsR_any N a A cap w1 hN (h.ext x) hA ok).mono ?_
      rintro e w' ⟨⟨b, c, rfl, hr⟩, y⟩
      exact ⟨b, c, rfl, hr, y⟩
    · rw [zarc_len, ← he, ← hc]
      exact bicon_any VIS N a A cap w1 hN (h.ext x) hA ok
    · rw [zarc_len]
      exact biconR_any N a A cap w1 hN (h.ext x) hA ok
  · have hv : validL n L = false := by simpa using hv
    refine ⟨[], [], false, Nat.zero_le _, Nat.zero_le _, fun w1 x => (bridges_bad n a L cap w1 hn0 hn1 (h.ext x) hk hL hv).mono ?_, fun w1 x => (bridgesR_bad n a L cap w1 hn0 hn1 (h.ext x) hk hL hv).mono ?_, fun w1 x => (cuts_bad n a L cap w1 hn0 hn1 (h.ext x) hk hL hv).mono ?_, fun w1 x => (cutsR_bad n a L cap w1 hn0 hn1 (h.ext x) hk hL hv).mono ?_, fun w1 x => bicon_bad n a L cap w1 hn0 hn1 (h.ext x) hk hL hv, fun w1 x => biconR_bad n a L cap w1 hn0 hn1 (h.ext x) hk hL hv⟩
    · rintro e w' ⟨rfl, y⟩; exact ⟨_, _, rfl, int_nil _ _, y⟩
    · rintro e w' ⟨⟨b, c, rfl⟩, y⟩; exact ⟨_, _, rfl, int_nil _ _, y⟩
    · rintro e w' ⟨rfl, y⟩; exact ⟨_, _, rfl, int_nil _ _, y⟩
    · rintro e w' ⟨⟨b, c, rfl⟩, y⟩; exact ⟨_, _, rfl, int_nil _ _, y⟩
set_option maxHeartbeats 16000000 in
theorem cuts_walk (VIS : Vis) (g : Value) (w : World) (hg : DigArg w g) :
    Calls Try.prog 4 #[g] w fun e w' => e = .returned (.bool true) ∧ Ext w w' := by
  obtain ⟨n, a, L, cap, rfl, hn0, hn1, h, hk, hL⟩ := hg
  obtain ⟨S, T, B, hS, hT, h1, h2, h3, h4, h5, h6⟩ := cuts_all VIS (cap := cap) hn0 hn1 h hk hL
  have hf := fun w1 (x : Ext w w1) => few_any n a L cap w1 hn0 hn1 (h.ext x) hk hL
  obtain ⟨fb, hfb⟩ : ∃ fb, fb = fewB n L := ⟨_, rfl⟩
  rw [← hfb] at hf
  obtain ⟨M, hM⟩ : ∃ M, M = L.length := ⟨_, rfl⟩
  obtain ⟨K, hK⟩ : ∃ K, K = S.length := ⟨_, rfl⟩
  obtain ⟨P, hP⟩ : ∃ P, P = T.length := ⟨_, rfl⟩
  rw [← hM] at h1 h2 h3 h4 h5 h6 hf
  rw [← hK] at h1 h2
  rw [← hP] at h3 h4
  rw [← hM]
  have HF := Lib.hid hf; have H1 := Lib.hid h1; have H2 := Lib.hid h2; have H3 := Lib.hid h3; have H4 := Lib.hid h4; have H5 := Lib.hid h5; have H6 := Lib.hid h6; have HS := Lib.hid hS; have HT := Lib.hid hT; have HK := Lib.hid hK; have HP := Lib.hid hP; have V := Lib.hid VIS
  clear h hk hL hM h1 h2 h3 h4 h5 h6 hS hT hK hP hf hfb VIS
  cases fb
  · go_enter Try.func4, Try.ntmps4
    go_wp2_with (first
      | (go_at_call 8; refine (HF.out _ ((Ext.refl _).alloc _)).mono ?_; rintro e w0 ⟨rfl, x0⟩; have X0 := Lib.hid x0; clear x0)
      | (go_at_call 9; refine (awake_any V.out _).mono ?_; rintro e w4 ⟨rfl, x4⟩))
    go_ret
    exact ⟨rfl, (((Ext.refl _).alloc _).trans X0.out).trans x4⟩
  · go_enter Try.func4, Try.ntmps4
    go_wp2_with (go_at_call 8; refine (HF.out _ ((Ext.refl _).alloc _)).mono ?_; rintro e w0 ⟨rfl, x0⟩)
    have X0 := Ext.trans (a := w) ((Ext.refl _).alloc _) x0
    obtain ⟨k10, k11⟩ := box_two x0
    cases B
    all_goals (
      go_region_held3 (fun w' => w'.cell? ⟨w.heap.size, 0, none⟩ = some (.int .i64 n) ∧ w'.cell? ⟨w.heap.size, 1, none⟩ = some (.slice a M cap))
        (refine ⟨Ext.cell (w := w0) ?_ k10, Ext.cell (w := w0) ?_ k11⟩ <;> (repeat (first | assumption | exact Ext.refl _ | refine Ext.alloc ?_ _ | refine Ext.drew ?_)))
        (first
          | (go_at_call 16; refine (H1.out _ (by (repeat (first | assumption | exact Ext.refl _ | refine Ext.alloc ?_ _ | refine Ext.drew ?_)))).mono ?_; rintro e w1 ⟨q1, k1, rfl, i1, x1⟩; have X1 := Ext.trans (a := w0) (by (repeat (first | assumption | exact Ext.refl _ | refine Ext.alloc ?_ _ | refine Ext.drew ?_))) x1; have Y1 := Ext.trans (a := w) (by (repeat (first | assumption | exact Ext.refl _ | refine Ext.alloc ?_ _ | refine Ext.drew ?_))) x1)
          | (go_at_call 17; refine (H2.out _ (by (repeat (first | assumption | exact Ext.refl _ | refine Ext.alloc ?_ _ | refine Ext.drew ?_)))).mono ?_; rintro e w2 ⟨q2, k2, rfl, i2, x2⟩; have X2 := Ext.trans (a := w0) (by (repeat (first | assumption | exact Ext.refl _ | refine Ext.alloc ?_ _ | refine Ext.drew ?_))) x2; have Y2 := Ext.trans (a := w) (by (repeat (first | assumption | exact Ext.refl _ | refine Ext.alloc ?_ _ | refine Ext.drew ?_))) x2)
          | (go_at_call 15; have hq := i5; refine (same_eq HP.out HT.out ?_ ?_).mono ?_; (first | exact i5 | exact i5.ext x6); (first | exact i6 | exact i6.ext x5); rintro e w7 ⟨rfl, x7⟩; have X7 := Ext.trans (a := w0) (by (repeat (first | assumption | exact Ext.refl _ | refine Ext.alloc ?_ _ | refine Ext.drew ?_))) x7; have Y7 := Ext.trans (a := w) (by (repeat (first | assumption | exact Ext.refl _ | refine Ext.alloc ?_ _ | refine Ext.drew ?_))) x7)
          | (go_at_call 15; refine (same_eq HK.out HS.out ?_ ?_).mono ?_; (first | exact i1 | exact i1.ext x2); (first | exact i2 | exact i2.ext x1); rintro e w3 ⟨rfl, x3⟩; have X3 := Ext.trans (a := w0) (by (repeat (first | assumption | exact Ext.refl _ | refine Ext.alloc ?_ _ | refine Ext.drew ?_))) x3; have Y3 := Ext.trans (a := w) (by (repeat (first | assumption | exact Ext.refl _ | refine Ext.alloc ?_ _ | refine Ext.drew ?_))) x3)
          | (go_at_call 18; refine (H3.out _ (by (repeat (first | assumption | exact Ext.refl _ | refine Ext.alloc ?_ _ | refine Ext.drew ?_)))).mono ?_; rintro e w5 ⟨q5, k5, rfl, i5, x5⟩; have X5 := Ext.trans (a := w0) (by (repeat (first | assumption | exact Ext.refl _ | refine Ext.alloc ?_ _ | refine Ext.drew ?_))) x5; have Y5 := Ext.trans (a := w) (by (repeat (first | assumption | exact Ext.refl _ | refine Ext.alloc ?_ _ | refine Ext.drew ?_))) x5)
          | (go_at_call 19; refine (H4.out _ (by (repeat (first | assumption | exact Ext.refl _ | refine Ext.alloc ?_ _ | refine Ext.drew ?_)))).mono ?_; rintro e w6 ⟨q6, k6, rfl, i6, x6⟩; have X6 := Ext.trans (a := w0) (by (repeat (first | assumption | exact Ext.refl _ | refine Ext.alloc ?_ _ | refine Ext.drew ?_))) x6; have Y6 := Ext.trans (a := w) (by (repeat (first | assumption | exact Ext.refl _ | refine Ext.alloc ?_ _ | refine Ext.drew ?_))) x6)
          | (go_at_call 20; refine (H5.out _ (by (repeat (first | assumption | exact Ext.refl _ | refine Ext.alloc ?_ _ | refine Ext.drew ?_)))).mono ?_; rintro e w8 ⟨rfl, x8⟩; have X8 := Ext.trans (a := w0) (by (repeat (first | assumption | exact Ext.refl _ | refine Ext.alloc ?_ _ | refine Ext.drew ?_))) x8; have Y8 := Ext.trans (a := w) (by (repeat (first | assumption | exact Ext.refl _ | refine Ext.alloc ?_ _ | refine Ext.drew ?_))) x8)
          | (go_at_call 21; refine (H6.out _ (by (repeat (first | assumption | exact Ext.refl _ | refine Ext.alloc ?_ _ | refine Ext.drew ?_)))).mono ?_; rintro e w9 ⟨rfl, x9⟩; have X9 := Ext.trans (a := w0) (by (repeat (first | assumption | exact Ext.refl _ | refine Ext.alloc ?_ _ | refine Ext.drew ?_))) x9; have Y9 := Ext.trans (a := w) (by (repeat (first | assumption | exact Ext.refl _ | refine Ext.alloc ?_ _ | refine Ext.drew ?_))) x9)
          | (go_at_call 9; refine (awake_any V.out _).mono ?_; rintro e w4 ⟨rfl, x4⟩; have X4 := Ext.trans (a := w0) (by (repeat (first | assumption | exact Ext.refl _ | refine Ext.alloc ?_ _ | refine Ext.drew ?_))) x4; have Y4 := Ext.trans (a := w) (by (repeat (first | assumption | exact Ext.refl _ | refine Ext.alloc ?_ _ | refine Ext.drew ?_))) x4))
      all_goals (
        go_wp2_with fail
        go_ret
        exact ⟨rfl, Y4⟩))
end Go.Proofs.Ytaipcpdncmnelaa.Pt

/- The law of Blocks, walked. -/
namespace Go.Proofs.Ytaipcpdncmnelaa.Pt
open Go.RowKit Go.Sort Go.Lib Fx Tp

theorem blocksR_len (N : Nat) (A : Arcs) : (blocksR N A).length ≤ A.length := by
  have := clsK_len (mrgL N A N) (mrgL N A N).length
  unfold blocksR classesT
  rw [mrg_len] at this ⊢
  exact this
theorem blocksR_row {N : Nat} {A : Arcs} {r : List Nat} (h : r ∈ blocksR N A) : r.length ≤ A.length := by
  unfold blocksR classesT clsK at h
  obtain ⟨i, _, rfl⟩ := List.mem_map.1 h
  have := clsR_len (mrgL N A N) i (mrgL N A N).length
  rw [mrg_len] at this ⊢
  exact this
/-- What both functions hand back. -/
theorem blocks_all (VIS : Vis) {n : Int} {a : Option Addr} {L : ArcZ} {cap : Nat} {w : World} (hn0 : -9223372036854775808 ≤ n) (hn1 : n ≤ 9223372036854775807) (h : ArcIn w a L) (hk : ArcOk L) (hL : L.length ≤ 9223372036854775807) :
    ∃ (R : List (List Int)), R.length ≤ 256 ∧ (∀ r ∈ R, r.length ≤ 256) ∧
      (∀ w1, Ext w w1 → Calls Try.prog 22 #[.agg #[.int .i64 n, .slice a L.length cap]] w1 fun e w' => ∃ b c, e = .returned (.slice b R.length c) ∧ Tp.RowsIn w' b R ∧ Ext w1 w') ∧
      (∀ w1, Ext w w1 → Calls Try.prog 23 #[.agg #[.int .i64 n, .slice a L.length cap]] w1 fun e w' => ∃ b c, e = .returned (.slice b R.length c) ∧ Tp.RowsIn w' b R ∧ Ext w1 w') := by
  by_cases hv : validL n L = true
  · obtain ⟨N, A, rfl, hN, hz, hA, ok⟩ := valid_nat hv
    have hz : L = zarc A := hz
    subst hz
    have he := blocks_eq ok
    refine ⟨(blocksR N A).map zl, by rw [List.length_map]; have := blocksR_len N A; omega, fun r hr => ?_, fun w1 x => ?_, fun w1 x => ?_⟩
    · obtain ⟨q, hq, rfl⟩ := List.mem_map.1 hr
      rw [zl_len]; have := blocksR_row hq; omega
    · rw [zarc_len, List.length_map]
      refine (blocks_of VIS N a A cap w1 hN (h.ext x) hA ok).mono ?_
      rintro e w' ⟨⟨b, c, rfl, hr⟩, y⟩
      have hr2 := hr.rows
      rw [he] at hr2
      exact ⟨b, c, by rw [he], hr2, y⟩
    · rw [zarc_len, List.length_map]
      refine (blocksR_any N a A cap w1 hN (h.ext x) hA ok).mono ?_
      rintro e w' ⟨⟨fv, rfl, hr⟩, y⟩
      obtain ⟨b, c, rfl, hr2⟩ := hr.rows
      exact ⟨b, c, rfl, hr2, y⟩
  · have hv : validL n L = false := by simpa using hv
    refine ⟨[], Nat.zero_le _, (fun r h => by cases h), fun w1 x => (blocks_bad n a L cap w1 hn0 hn1 (h.ext x) hk hL hv).mono ?_, fun w1 x => (blocksR_bad n a L cap w1 hn0 hn1 (h.ext x) hk hL hv).mono ?_⟩ <;>
      (rintro e w' ⟨rfl, y⟩; exact ⟨_, _, rfl, rows_nil _ _, y⟩)
set_option maxHeartbeats 8000000 in
theorem blocks_walk (VIS : Vis) (g : Value) (w : World) (hg : DigArg w g) :
    Calls Try.prog 5 #[g] w fun e w' => e = .returned (.bool true) ∧ Ext w w' := by
  obtain ⟨n, a, L, cap, rfl, hn0, hn1, h, hk, hL⟩ := hg
  obtain ⟨R, hR, hRr, h1, h2⟩ := blocks_all VIS (cap := cap) hn0 hn1 h hk hL
  have hf := fun w1 (x : Ext w w1) => few_any n a L cap w1 hn0 hn1 (h.ext x) hk hL
  obtain ⟨fb, hfb⟩ : ∃ fb, fb = fewB n L := ⟨_, rfl⟩
  rw [← hfb] at hf
  obtain ⟨M, hM⟩ : ∃ M, M = L.length := ⟨_, rfl⟩
  obtain ⟨K, hK⟩ : ∃ K, K = R.length := ⟨_, rfl⟩
  rw [← hM] at h1 h2 hf
  rw [← hK] at h1 h2
  rw [← hM]
  have HF := Lib.hid hf; have H1 := Lib.hid h1; have H2 := Lib.hid h2; have HR := Lib.hid hR; have HRR := Lib.hid hRr; have HK := Lib.hid hK; have V := Lib.hid VIS
  clear h hk hL hM h1 h2 hR hRr hK hf hfb VIS
  cases fb
  · go_enter Try.func5, Try.ntmps5
    go_wp2_with (first
      | (go_at_call 8; refine (HF.out _ ((Ext.refl _).alloc _)).mono ?_; rintro e w0 ⟨rfl, x0⟩; have X0 := Lib.hid x0; clear x0)
      | (go_at_call 9; refine (awake_any V.out _).mono ?_; rintro e w4 ⟨rfl, x4⟩))
    go_ret
    exact ⟨rfl, (((Ext.refl _).alloc _).trans X0.out).trans x4⟩
  · go_enter Try.func5, Try.ntmps5
    go_wp2_with (go_at_call 8; refine (HF.out _ ((Ext.refl _).alloc _)).mono ?_; rintro e w0 ⟨rfl, x0⟩)
    have X0 := Ext.trans (a := w) ((Ext.refl _).alloc _) x0
    obtain ⟨k10, k11⟩ := box_two x0
    go_region_held3 (fun w' => w'.cell? ⟨w.heap.size, 0, none⟩ = some (.int .i64 n) ∧ w'.cell? ⟨w.heap.size, 1, none⟩ = some (.slice a M cap))
      (refine ⟨Ext.cell (w := w0) ?_ k10, Ext.cell (w := w0) ?_ k11⟩ <;> (repeat (first | assumption | exact Ext.refl _ | refine Ext.alloc ?_ _ | refine Ext.drew ?_)))
      (first
        | (go_at_call 22; refine (H1.out _ (by (repeat (first | assumption | exact Ext.refl _ | refine Ext.alloc ?_ _ | refine Ext.drew ?_)))).mono ?_; rintro e w1 ⟨q1, k1, rfl, i1, x1⟩; have X1 := Ext.trans (a := w0) (by (repeat (first | assumption | exact Ext.refl _ | refine Ext.alloc ?_ _ | refine Ext.drew ?_))) x1; have Y1 := Ext.trans (a := w) (by (repeat (first | assumption | exact Ext.refl _ | refine Ext.alloc ?_ _ | refine Ext.drew ?_))) x1)
        | (go_at_call 23; refine (H2.out _ (by (repeat (first | assumption | exact Ext.refl _ | refine Ext.alloc ?_ _ | refine Ext.drew ?_)))).mono ?_; rintro e w2 ⟨q2, k2, rfl, i2, x2⟩; have X2 := Ext.trans (a := w0) (by (repeat (first | assumption | exact Ext.refl _ | refine Ext.alloc ?_ _ | refine Ext.drew ?_))) x2; have Y2 := Ext.trans (a := w) (by (repeat (first | assumption | exact Ext.refl _ | refine Ext.alloc ?_ _ | refine Ext.drew ?_))) x2)
        | (go_at_call 10; refine (lists_eq HK.out HR.out HRR.out ?_ ?_).mono ?_; (first | exact i1 | exact i1.ext x2); (first | exact i2 | exact i2.ext x1); rintro e w3 ⟨rfl, x3⟩; have X3 := Ext.trans (a := w0) (by (repeat (first | assumption | exact Ext.refl _ | refine Ext.alloc ?_ _ | refine Ext.drew ?_))) x3; have Y3 := Ext.trans (a := w) (by (repeat (first | assumption | exact Ext.refl _ | refine Ext.alloc ?_ _ | refine Ext.drew ?_))) x3)
        | (go_at_call 9; refine (awake_any V.out _).mono ?_; rintro e w4 ⟨rfl, x4⟩; have X4 := Ext.trans (a := w0) (by (repeat (first | assumption | exact Ext.refl _ | refine Ext.alloc ?_ _ | refine Ext.drew ?_))) x4; have Y4 := Ext.trans (a := w) (by (repeat (first | assumption | exact Ext.refl _ | refine Ext.alloc ?_ _ | refine Ext.drew ?_))) x4))
    all_goals (
      go_wp2_with fail
      go_ret
      exact ⟨rfl, Y4⟩)
end Go.Proofs.Ytaipcpdncmnelaa.Pt
