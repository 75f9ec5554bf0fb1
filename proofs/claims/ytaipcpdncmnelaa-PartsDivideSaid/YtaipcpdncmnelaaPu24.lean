/- Packed texts: PrtDivL -/
import Derived.Test.YtaipcpdncmnelaaPu23
set_option linter.unusedVariables false
set_option linter.unusedSimpArgs false
/- What the law of divided parts counts, plain. -/
namespace Go.Proofs.Ytaipcpdncmnelaa.Pt
open Tp

variable {N : Nat} {A : Arcs}
def incS (l : List Int) (e : Nat) : List Int := l.set e (l.getD e 0 + 1)
def seenK (M : Nat) (L : List Nat) : List Int := L.foldl incS (List.replicate M 0)
theorem seenK_snoc (M : Nat) (L : List Nat) (e : Nat) : seenK M (L ++ [e]) = incS (seenK M L) e := by unfold seenK; rw [List.foldl_append]; rfl
theorem seenK_law {M : Nat} : ∀ (n : Nat) (L : List Nat), L.length = n → (seenK M L).length = M ∧ ∀ e, e < M → (seenK M L).getD e 0 = (L.count e : Int)
  | 0, L, h => by
    rw [List.eq_nil_of_length_eq_zero h]
    refine ⟨by simp [seenK], fun e he => ?_⟩
    unfold seenK
    rw [List.foldl_nil, List.getD_eq_getElem?_getD, List.getElem?_replicate_of_lt he]; rfl
  | n + 1, L, h => by
    rcases List.eq_nil_or_concat L with e | ⟨L', x, e⟩
    · rw [e] at h; simp at h
    · rw [List.concat_eq_append] at e
      subst e
      have ih := seenK_law (M := M) n L' (by simpa using h)
      rw [seenK_snoc]
      unfold incS
      refine ⟨by rw [List.length_set]; exact ih.1, fun e he => ?_⟩
      rw [getD_set, List.count_append]
      by_cases hx : x = e
      · subst hx
        rw [if_pos ⟨rfl, by rw [ih.1]; exact he⟩, ih.2 x he, List.count_singleton_self]; rfl
      · rw [if_neg (fun z => hx z.1), ih.2 e he, List.count_singleton, if_neg (by simpa using hx)]; rfl
theorem seen_len (M : Nat) (L : List Nat) : (seenK M L).length = M := (seenK_law L.length L rfl).1
theorem seen_at {M : Nat} (L : List Nat) {e : Nat} (he : e < M) : (seenK M L).getD e 0 = (L.count e : Int) := (seenK_law L.length L rfl).2 e he
theorem count_nodup {L : List Nat} (h : L.Nodup) (e : Nat) : L.count e ≤ 1 := List.nodup_iff_count.1 h e
theorem blocks_flat (ok : Ok N A) : (blocksT N A).flatten.Nodup := by
  have h : (blocksT N A).flatten.Perm (blkT N A).flatten := (sortH_perm _).flatten
  exact h.nodup_iff.2 (blk_ok ok).nd
/-- What was counted up to an edge of a block. -/
def prefX (X : List (List Nat)) (i : Nat) (C : List Nat) (j : Nat) : List Nat := (X.take i).flatten ++ C.take j
theorem pref_nodup {X : List (List Nat)} (h : X.flatten.Nodup) {i : Nat} (hi : i < X.length) (j : Nat) : (prefX X i X[i] j).Nodup := by
  have e : X.flatten = (X.take i).flatten ++ (X[i] ++ (X.drop (i + 1)).flatten) := by
    have h1 : X = X.take i ++ (X[i] :: X.drop (i + 1)) := by rw [← List.drop_eq_getElem_cons hi, List.take_append_drop]
    rw [← List.flatten_cons, ← List.flatten_append, ← h1]
  rw [e] at h
  have h2 : prefX X i X[i] j ++ (X[i].drop j ++ (X.drop (i + 1)).flatten) = (X.take i).flatten ++ (X[i] ++ (X.drop (i + 1)).flatten) := by
    unfold prefX
    rw [List.append_assoc, ← List.append_assoc (X[i].take j), List.take_append_drop]
  rw [← h2] at h
  exact (List.nodup_append.1 h).1
theorem pref_succ (X : List (List Nat)) (i : Nat) (C : List Nat) (j : Nat) (hj : j < C.length) : prefX X i C (j + 1) = prefX X i C j ++ [C[j]] := by
  unfold prefX
  rw [List.take_succ_eq_append_getElem hj, List.append_assoc]
theorem pref_zero (X : List (List Nat)) (i : Nat) (C : List Nat) : prefX X i C 0 = (X.take i).flatten := by unfold prefX; simp
theorem pref_full (X : List (List Nat)) (i : Nat) (hi : i < X.length) : prefX X i X[i] X[i].length = (X.take (i + 1)).flatten := by
  unfold prefX
  rw [List.take_length, List.take_succ_eq_append_getElem hi, List.flatten_append]; simp
theorem seen_one (ok : Ok N A) {e : Nat} (he : e < A.length) : (seenK A.length ((blocksT N A).take (blocksT N A).length).flatten).getD e 0 = 1 := by
  rw [List.take_length, seen_at _ he]
  obtain ⟨C, hC, hm⟩ := (blk_ok ok).all e he
  have hmem : e ∈ (blocksT N A).flatten := List.mem_flatten.2 ⟨C, blocks_mem.2 hC, hm⟩
  have h1 := count_nodup (blocks_flat ok) e
  have h2 := List.count_pos_iff.2 hmem
  omega
/-! ### two blocks -/
theorem idx_ne (ok : Ok N A) {i k : Nat} (hi : i < (blocksT N A).length) (hk : k < (blocksT N A).length) (h : k < i) : (blocksT N A)[i] ≠ (blocksT N A)[k] := fun e => by
  have := List.pairwise_iff_getElem.1 (blocks_nodup ok) k i hk hi h
  exact this e.symm
theorem share_cut (ok : Ok N A) {C D : List Nat} (hC : C ∈ blocksT N A) (hD : D ∈ blocksT N A) (hne : C ≠ D) {v : Nat} (hv : v < N) (h1 : v ∈ vertsOf A C) (h2 : v ∈ vertsOf A D) (l1 : isLp A C = false) (l2 : isLp A D = false) : v ∈ cutsT N A := by
  have c1 : hit A v C = true := by unfold hit; rw [l1, Bool.and_eq_true, List.contains_iff_mem]; exact ⟨rfl, h1⟩
  have c2 : hit A v D = true := by unfold hit; rw [l2, Bool.and_eq_true, List.contains_iff_mem]; exact ⟨rfl, h2⟩
  have h0 := (two_iff ((blocks_nodup ok).filter (hit A v))).2 ⟨C, List.mem_filter.2 ⟨hC, c1⟩, D, List.mem_filter.2 ⟨hD, c2⟩, hne⟩
  unfold cutsT cutK
  rw [List.mem_filter, List.mem_range, decide_eq_true_eq, (cnt_law (A := A) hv _ (Nat.le_refl _)).2, List.take_length]
  exact ⟨hv, by omega⟩
theorem loop_one (ok : Ok N A) {C : List Nat} (hC : C ∈ blkT N A) (h : isLp A C = true) {v : Nat} (hv : v ∈ vertsOf A C) : v = (arcN A (hd C)).1 := by
  have b := blk_ok ok
  have hm := hd_mem (b.ne C hC)
  have hl : (arcN A (hd C)).1 = (arcN A (hd C)).2 := by unfold isLp at h; rw [beq_iff_eq] at h; omega
  obtain ⟨e, he, hx⟩ := mem_verts.1 hv
  rcases (b.sim C hC (hd C) hm e he).out with h1 | ⟨j, _, v0, h2, _⟩
  · rw [← h1, ← hl] at hx
    rcases hx with hx | hx <;> exact hx.symm
  · exact absurd hl (mem_incT.1 h2).2.1
theorem share_one (ok : Ok N A) {C D : List Nat} (hC : C ∈ blocksT N A) (hD : D ∈ blocksT N A) (hne : C ≠ D) : ∃ z, ∀ v, v ∈ vertsOf A C → v ∈ vertsOf A D → v = z := by
  have b := blk_ok ok
  have hC := blocks_mem.1 hC
  have hD := blocks_mem.1 hD
  by_cases h1 : isLp A C = true
  · exact ⟨_, fun v hv _ => loop_one ok hC h1 hv⟩
  by_cases h2 : isLp A D = true
  · exact ⟨_, fun v _ hv => loop_one ok hD h2 hv⟩
  obtain ⟨j, hj, e1⟩ := List.getElem_of_mem hC
  obtain ⟨k, hk, e2⟩ := List.getElem_of_mem hD
  obtain ⟨z, hz⟩ := b.one j k C D (by rw [List.getElem?_eq_getElem hj, e1]) (by rw [List.getElem?_eq_getElem hk, e2]) (fun e => by subst e; exact hne (by rw [← e1, ← e2]))
  refine ⟨z, fun v hv hw => ?_⟩
  obtain ⟨e, he, hi⟩ := (hit_iff ok hC).1 (by unfold hit; rw [Bool.and_eq_true, List.contains_iff_mem]; exact ⟨by simpa using h1, hv⟩ : hit A v C = true)
  obtain ⟨e', he', hi'⟩ := (hit_iff ok hD).1 (by unfold hit; rw [Bool.and_eq_true, List.contains_iff_mem]; exact ⟨by simpa using h2, hw⟩ : hit A v D = true)
  exact hz v e e' he he' hi hi'
/-- The vertices that two lists of marks have in common. -/
def cmnK (a b : List Bool) (v : Nat) : List Nat := (List.range v).filter (fun x => a.getD x false && b.getD x false)
theorem cmnK_succ (a b : List Bool) (v : Nat) : cmnK a b (v + 1) = cmnK a b v ++ (if (a.getD v false && b.getD v false) = true then [v] else []) := range_filter' _ v
theorem cmnK_len (a b : List Bool) (v : Nat) : (cmnK a b v).length ≤ v := Nat.le_trans (List.length_filter_le _ _) (by simp)
theorem one_len {l : List Nat} (h : l.Nodup) {z : Nat} (hz : ∀ x ∈ l, x = z) : l.length ≤ 1 := by
  match l, h with
  | [], _ => simp
  | [_], _ => simp
  | x :: y :: t, h =>
    exfalso
    have h1 := hz x (by simp); have h2 := hz y (by simp)
    exact (List.nodup_cons.1 h).1 (by rw [h1, ← h2]; simp)
theorem common_le (ok : Ok N A) {C D : List Nat} (hC : C ∈ blocksT N A) (hD : D ∈ blocksT N A) (hne : C ≠ D) : (cmnK (endsT N A C) (endsT N A D) N).length ≤ 1 := by
  obtain ⟨z, hz⟩ := share_one ok hC hD hne
  refine one_len (List.nodup_range.filter _) (z := z) (fun v hv => ?_)
  unfold cmnK at hv
  rw [List.mem_filter, List.mem_range, Bool.and_eq_true] at hv
  exact hz v ((endsT_at hv.1).1 hv.2.1) ((endsT_at hv.1).1 hv.2.2)
/-! ### bridges -/
def aloneB (b : Nat) (C : List Nat) : Bool := C.length == 1 && hd C == b
def aloneK (X : List (List Nat)) (b k : Nat) : Bool := (X.take k).any (aloneB b)
theorem aloneK_succ (X : List (List Nat)) (b k : Nat) (h : k < X.length) : aloneK X b (k + 1) = (aloneK X b k || aloneB b X[k]) := by
  unfold aloneK
  rw [List.take_succ_eq_append_getElem h, List.any_append]; simp
theorem alone_true (N : Nat) (A : Arcs) {b : Nat} (hb : b ∈ bridgesT N A) : aloneK (blocksT N A) b (blocksT N A).length = true := by
  unfold bridgesT at hb
  rw [brK_full] at hb
  obtain ⟨C, hC, rfl⟩ := List.mem_map.1 hb
  rw [List.mem_filter, isBr_iff] at hC
  obtain ⟨hC, ⟨e, rfl⟩, _⟩ := hC
  unfold aloneK
  rw [List.take_length, List.any_eq_true]
  exact ⟨[e], hC, by unfold aloneB hd; simp⟩
theorem blocks_elem (ok : Ok N A) {C : List Nat} (hC : C ∈ blocksT N A) : C ≠ [] ∧ C.length ≤ A.length ∧ (∀ e ∈ C, e < A.length) := by
  have b := blk_ok ok
  have hC := blocks_mem.1 hC
  refine ⟨b.ne C hC, ?_, b.lt C hC⟩
  exact nodup_len (List.Pairwise.imp (fun h => Nat.ne_of_lt h) (b.asc C hC)) (b.lt C hC)
end Go.Proofs.Ytaipcpdncmnelaa.Pt
