/- Packed texts: TopText, FixArith, FixWalkA, TopMem -/
import Derived.Lib.Hide
import Derived.WalkKit
import Derived.Test.YtaipcpdncmnelaaRows
import Derived.Below
import Derived.Deep.Draws
import Derived.Sort.Grow
import Derived.Lib.LaidTab
import Derived.Deep.AppendLies
import Derived.Deep.LoopGhost
import Derived.Deep.RegionHeld3
import Derived.Deep.QuietTactic
import Derived.BigQuiet
import Derived.BigRegion
import Derived.Lib.Builder
import Derived.OneCell
import Derived.Deep.OwnRows
import Derived.Laws.OwnMore
set_option linter.unusedVariables false
set_option linter.unusedSimpArgs false
/- Digraphs as plain lists of arcs: paths, the heads of arcs, the document's marking in rounds and the program's search, both equal to the vertices that are reached; no program in sight. -/
namespace Go.Proofs.Ytaipcpdncmnelaa.Tp

/-- Arcs between vertices. -/
abbrev Arcs := List (Nat × Nat)
/-- All ends are vertices. -/
def Ok (N : Nat) (A : Arcs) : Prop := ∀ p ∈ A, p.1 < N ∧ p.2 < N
/-- v is reached from u. -/
inductive Path (A : Arcs) : Nat → Nat → Prop
  | refl (v : Nat) : Path A v v
  | step {u v w : Nat} : Path A u v → (v, w) ∈ A → Path A u w
theorem Path.trans {A : Arcs} {u v w : Nat} (h : Path A u v) (k : Path A v w) : Path A u w := by
  induction k with
  | refl => exact h
  | step _ e ih => exact .step ih e
theorem Path.arc {A : Arcs} {u v : Nat} (h : (u, v) ∈ A) : Path A u v := .step (.refl _) h
theorem Path.lt {N : Nat} {A : Arcs} (ok : Ok N A) {u v : Nat} (h : Path A u v) (hu : u < N) : v < N := by
  induction h with
  | refl => exact hu
  | step _ e _ => exact (ok _ e).2
/-- A set that is left by no arc is left by no path. -/
theorem Path.closed {A : Arcs} {S : Nat → Prop} (hc : ∀ p ∈ A, S p.1 → S p.2) {u v : Nat} (h : Path A u v) (hu : S u) : S v := by
  induction h with
  | refl => exact hu
  | step _ e ih => exact hc _ e ih
/-- The heads of the arcs of a vertex, in order. -/
def outs (A : Arcs) (v : Nat) : List Nat := (A.filter (fun p => p.1 == v)).map (·.2)
theorem mem_outs {A : Arcs} {v w : Nat} : w ∈ outs A v ↔ (v, w) ∈ A := by
  unfold outs
  simp only [List.mem_map, List.mem_filter, beq_iff_eq]
  constructor
  · rintro ⟨⟨a, b⟩, ⟨h1, h2⟩, h3⟩
    simp only at h2 h3
    subst h2; subst h3; exact h1
  · intro h; exact ⟨(v, w), ⟨h, rfl⟩, rfl⟩
theorem outs_snoc (A : Arcs) (p : Nat × Nat) (v : Nat) : outs (A ++ [p]) v = outs A v ++ (if p.1 = v then [p.2] else []) := by
  unfold outs
  by_cases h : p.1 = v
  · simp [h]
  · simp [h]
theorem outs_len_le (A : Arcs) (v : Nat) : (outs A v).length ≤ A.length := by
  unfold outs; rw [List.length_map]; exact List.length_filter_le _ _

/-! ### marks -/
/-- One list of marks says no more than another. -/
def Le : List Bool → List Bool → Prop
  | [], [] => True
  | a :: s, b :: t => (a = true → b = true) ∧ Le s t
  | _, _ => False
theorem Le.refl : ∀ s, Le s s
  | [] => trivial
  | _ :: s => ⟨id, Le.refl s⟩
theorem Le.trans : ∀ {s t u : List Bool}, Le s t → Le t u → Le s u
  | [], [], [], _, _ => trivial
  | _ :: _, _ :: _, _ :: _, h, k => ⟨fun x => k.1 (h.1 x), Le.trans h.2 k.2⟩
  | [], [], _ :: _, _, k => k.elim
  | [], _ :: _, _, h, _ => h.elim
  | _ :: _, [], _, h, _ => h.elim
  | _ :: _, _ :: _, [], _, k => k.elim
theorem Le.len : ∀ {s t : List Bool}, Le s t → s.length = t.length
  | [], [], _ => rfl
  | _ :: _, _ :: _, h => by rw [List.length_cons, List.length_cons, Le.len h.2]
  | [], _ :: _, h => h.elim
  | _ :: _, [], h => h.elim
theorem Le.at : ∀ {s t : List Bool}, Le s t → ∀ i, s.getD i false = true → t.getD i false = true
  | [], [], _, i, h => by simp at h
  | a :: s, b :: t, h, 0, hi => by simpa using h.1 (by simpa using hi)
  | a :: s, b :: t, h, i + 1, hi => by simpa using Le.at h.2 i (by simpa using hi)
  | [], _ :: _, h, _, _ => h.elim
  | _ :: _, [], h, _, _ => h.elim
def ones (s : List Bool) : Nat := s.count true
theorem ones_le (s : List Bool) : ones s ≤ s.length := List.count_le_length
theorem Le.ones : ∀ {s t : List Bool}, Le s t → ones s ≤ ones t
  | [], [], _ => Nat.le_refl _
  | a :: s, b :: t, h => by
    have ih := Le.ones h.2
    unfold Tp.ones at *
    cases a <;> cases b <;> simp [List.count_cons] at * <;> first | omega | (have := h.1; simp at this)
  | [], _ :: _, h => h.elim
  | _ :: _, [], h => h.elim
theorem Le.eq : ∀ {s t : List Bool}, Le s t → Tp.ones s = Tp.ones t → s = t
  | [], [], _, _ => rfl
  | a :: s, b :: t, h, e => by
    have ih := Le.ones h.2
    have h1 := h.1
    unfold Tp.ones at e ih
    have key : a = b ∧ s.count true = t.count true := by
      cases a <;> cases b <;> simp [List.count_cons] at * <;> omega
    rw [key.1, Le.eq h.2 key.2]
  | [], _ :: _, h, _ => h.elim
  | _ :: _, [], h, _ => h.elim
theorem Le.set : ∀ (s : List Bool) (i : Nat), Le s (s.set i true)
  | [], _ => trivial
  | _ :: s, 0 => ⟨fun _ => rfl, Le.refl s⟩
  | _ :: s, i + 1 => ⟨id, Le.set s i⟩
theorem getD_set {α : Type} (s : List α) (i j : Nat) (v d : α) : (s.set i v).getD j d = if i = j ∧ i < s.length then v else s.getD j d := by
  simp only [List.getD_eq_getElem?_getD, List.getElem?_set]
  by_cases h : i = j
  · subst h
    by_cases h2 : i < s.length
    · simp [h2]
    · simp [h2, List.getElem?_eq_none (Nat.not_lt.1 h2)]
  · simp [h]
def relax (s : List Bool) (p : Nat × Nat) : List Bool := if s.getD p.1 false = true then s.set p.2 true else s
theorem relax_le (s : List Bool) (p : Nat × Nat) : Le s (relax s p) := by
  unfold relax; split
  · exact Le.set _ _
  · exact Le.refl _
def roundR (A : Arcs) (s : List Bool) : List Bool := A.foldl relax s
theorem roundR_le : ∀ (A : Arcs) (s : List Bool), Le s (roundR A s)
  | [], s => Le.refl s
  | p :: A, s => Le.trans (relax_le s p) (roundR_le A (relax s p))
theorem roundR_len (A : Arcs) (s : List Bool) : (roundR A s).length = s.length := (roundR_le A s).len.symm
/-- Nothing new in a round: closed. -/
theorem roundR_fix : ∀ (A : Arcs) (s : List Bool), Le (roundR A s) s → ∀ p ∈ A, p.2 < s.length → s.getD p.1 false = true → s.getD p.2 false = true
  | [], _, _, p, h, _, _ => by cases h
  | q :: A, s, h, p, hp, hl, hs => by
    have h1 : Le (relax s q) s := Le.trans (roundR_le A (relax s q)) h
    have he : relax s q = s := Le.eq h1 (Nat.le_antisymm (Le.ones h1) (Le.ones (relax_le s q)))
    rcases List.mem_cons.1 hp with rfl | hp
    · have := h1.at p.2 (by unfold relax; rw [if_pos hs, getD_set, if_pos ⟨rfl, hl⟩])
      exact this
    · have h2 : Le (roundR A s) s := by
        have : roundR (q :: A) s = roundR A (relax s q) := rfl
        rw [this, he] at h; exact h
      exact roundR_fix A s h2 p hp hl hs
def itR (A : Arcs) : Nat → List Bool → List Bool
  | 0, s => s
  | k + 1, s => roundR A (itR A k s)
theorem itR_len (A : Arcs) (s : List Bool) : ∀ k, (itR A k s).length = s.length
  | 0 => rfl
  | k + 1 => by rw [itR, roundR_len, itR_len A s k]
theorem itR_le (A : Arcs) (s : List Bool) : ∀ k, Le s (itR A k s)
  | 0 => Le.refl s
  | k + 1 => Le.trans (itR_le A s k) (roundR_le A _)
/-- After as many rounds as there are vertices the marks are closed. -/
theorem itR_fix (A : Arcs) (s : List Bool) : ∀ k, Le (roundR A (itR A k s)) (itR A k s) ∨ ones s + k ≤ ones (itR A k s)
  | 0 => .inr (Nat.le_refl _)
  | k + 1 => by
    rcases itR_fix A s k with h | h
    · left
      have e : roundR A (itR A k s) = itR A k s := Le.eq h (Nat.le_antisymm (Le.ones h) (Le.ones (roundR_le A _)))
      rw [itR, e, e]; exact Le.refl _
    · by_cases hc : ones (roundR A (itR A k s)) = ones (itR A k s)
      · left
        have e : itR A k s = roundR A (itR A k s) := Le.eq (roundR_le A _) hc.symm
        rw [itR, ← e, ← e]; exact Le.refl _
      · right
        have := Le.ones (roundR_le A (itR A k s))
        rw [itR]; omega
def markN (N v : Nat) : List Bool := (List.replicate N false).set v true
theorem markN_len (N v : Nat) : (markN N v).length = N := by simp [markN]
theorem markN_at (N v u : Nat) : (markN N v).getD u false = decide (v = u ∧ v < N) := by
  unfold markN
  rw [getD_set, List.length_replicate]
  by_cases h : v = u ∧ v < N
  · rw [if_pos h, decide_eq_true h]
  · rw [if_neg h, decide_eq_false h, List.getD_eq_getElem?_getD, List.getElem?_replicate]
    split <;> rfl
theorem ones_pos : ∀ (s : List Bool) (i : Nat), s.getD i false = true → 1 ≤ ones s
  | [], i, h => by simp at h
  | a :: s, 0, h => by
    have : a = true := by simpa using h
    subst this; unfold ones; simp [List.count_cons]
  | a :: s, i + 1, h => by
    have := ones_pos s i (by simpa using h)
    unfold ones at *; rw [List.count_cons]; omega
def reachB (N : Nat) (A : Arcs) (v : Nat) : List Bool := itR A N (markN N v)
/-- The vertices that v reaches, ascending. -/
def reachT (N : Nat) (A : Arcs) (v : Nat) : List Nat := (List.range N).filter (fun u => (reachB N A v).getD u false)
theorem itR_path {N : Nat} {A : Arcs} {v : Nat} {s : List Bool} (hs : ∀ u, s.getD u false = true → Path A v u) : ∀ k u, (itR A k s).getD u false = true → Path A v u := by
  have one : ∀ (B : Arcs) (s : List Bool), (∀ p ∈ B, p ∈ A) → (∀ u, s.getD u false = true → Path A v u) → ∀ u, (roundR B s).getD u false = true → Path A v u := by
    intro B
    induction B with
    | nil => intro s _ h u hu; exact h u hu
    | cons q B ih =>
      intro s hB h u hu
      refine ih (relax s q) (fun p hp => hB p (List.mem_cons_of_mem _ hp)) (fun x hx => ?_) u hu
      unfold relax at hx
      split at hx
      · rename_i hq
        rw [getD_set] at hx
        split at hx
        · rename_i hh; rw [← hh.1]; exact .step (h _ hq) (hB q (List.mem_cons_self ..))
        · exact h x hx
      · exact h x hx
  intro k
  induction k with
  | zero => exact hs
  | succ k ih => intro u hu; exact one A _ (fun p hp => hp) ih u hu
theorem reachB_iff {N : Nat} {A : Arcs} (ok : Ok N A) {v : Nat} (hv : v < N) (u : Nat) : (reachB N A v).getD u false = true ↔ Path A v u := by
  constructor
  · refine itR_path (N := N) (fun x hx => ?_) N u
    rw [markN_at] at hx
    have := of_decide_eq_true hx
    rw [← this.1]; exact .refl _
  · intro h
    have hl : (reachB N A v).length = N := by unfold reachB; rw [itR_len, markN_len]
    have hm : (markN N v).getD v false = true := by rw [markN_at]; exact decide_eq_true ⟨rfl, hv⟩
    have fix : Le (roundR A (reachB N A v)) (reachB N A v) := by
      rcases itR_fix A (markN N v) N with h | h
      · exact h
      · exfalso
        have h1 := ones_pos _ _ hm
        have h2 := ones_le (itR A N (markN N v))
        rw [itR_len, markN_len] at h2
        omega
    refine Path.closed (S := fun x => (reachB N A v).getD x false = true) (fun p hp hs => roundR_fix A _ fix p hp (by rw [hl]; exact (ok p hp).2) hs) h ?_
    exact (itR_le A (markN N v) N).at v hm
theorem mem_reachT {N : Nat} {A : Arcs} (ok : Ok N A) {v : Nat} (hv : v < N) {u : Nat} : u ∈ reachT N A v ↔ Path A v u := by
  unfold reachT
  rw [List.mem_filter, List.mem_range, reachB_iff ok hv]
  exact ⟨fun h => h.2, fun h => ⟨h.lt ok hv, h⟩⟩
theorem reachT_asc (N : Nat) (A : Arcs) (v : Nat) : (reachT N A v).Pairwise (· < ·) := List.Pairwise.filter _ List.pairwise_lt_range

/-! ### ascending lists -/
theorem asc_ext : ∀ {l m : List Nat}, l.Pairwise (· < ·) → m.Pairwise (· < ·) → (∀ x, x ∈ l ↔ x ∈ m) → l = m
  | [], [], _, _, _ => rfl
  | [], b :: m, _, _, h => by have := (h b).2 (List.mem_cons_self ..); cases this
  | a :: l, [], _, _, h => by have := (h a).1 (List.mem_cons_self ..); cases this
  | a :: l, b :: m, hl, hm, h => by
    have hl' := List.pairwise_cons.1 hl
    have hm' := List.pairwise_cons.1 hm
    have e : a = b := by
      rcases List.mem_cons.1 ((h a).1 (List.mem_cons_self ..)) with h1 | h1
      · exact h1
      · rcases List.mem_cons.1 ((h b).2 (List.mem_cons_self ..)) with h2 | h2
        · exact h2.symm
        · have := hl'.1 b h2; have := hm'.1 a h1; omega
    subst e
    refine congrArg _ (asc_ext hl'.2 hm'.2 fun x => ?_)
    have hx := h x
    simp only [List.mem_cons] at hx
    constructor
    · intro h1
      rcases hx.1 (.inr h1) with h2 | h2
      · subst h2; have := hl'.1 x h1; omega
      · exact h2
    · intro h1
      rcases hx.2 (.inr h1) with h2 | h2
      · subst h2; have := hm'.1 x h1; omega
      · exact h2
theorem nodup_le_asc {l : List Nat} (h : l.Pairwise (· ≤ ·)) (hn : l.Nodup) : l.Pairwise (· < ·) := by
  induction l with
  | nil => exact .nil
  | cons a l ih =>
    have h1 := List.pairwise_cons.1 h
    have h2 := List.nodup_cons.1 hn
    refine List.pairwise_cons.2 ⟨fun x hx => ?_, ih h1.2 h2.2⟩
    have := h1.1 x hx
    rcases Nat.lt_or_eq_of_le this with h3 | h3
    · exact h3
    · subst h3; exact absurd hx h2.1
theorem nodup_sub : ∀ {l m : List Nat}, l.Nodup → (∀ x ∈ l, x ∈ m) → l.length ≤ m.length
  | [], _, _, _ => Nat.zero_le _
  | a :: l, m, hn, h => by
    have h2 := List.nodup_cons.1 hn
    have ha := h a (List.mem_cons_self ..)
    have ih := nodup_sub (m := m.erase a) h2.2 (fun x hx => (List.mem_erase_of_ne (fun e => h2.1 (by rw [← e]; exact hx))).2 (h x (List.mem_cons_of_mem _ hx)))
    rw [List.length_erase_of_mem ha] at ih
    have := List.length_pos_of_mem ha
    rw [List.length_cons]; omega
/-- Different numbers below N are at most N. -/
theorem nodup_len {N : Nat} {l : List Nat} (hn : l.Nodup) (h : ∀ x ∈ l, x < N) : l.length ≤ N := by
  have := nodup_sub (m := List.range N) hn (fun x hx => List.mem_range.2 (h x hx))
  simpa using this
/-- Different numbers, as many as there are: all. -/
theorem nodup_all {N : Nat} {l : List Nat} (hn : l.Nodup) (h : ∀ x ∈ l, x < N) (hl : l.length = N) (x : Nat) (hx : x < N) : x ∈ l := by
  rcases Classical.em (x ∈ l) with h1 | h1
  · exact h1
  · have := nodup_len (N := N) (l := x :: l) (List.nodup_cons.2 ⟨h1, hn⟩) (fun y hy => by
      rcases List.mem_cons.1 hy with rfl | h2
      · exact hx
      · exact h y h2)
    rw [List.length_cons] at this; omega
theorem perm_of_mem {l m : List Nat} (hl : l.Nodup) (hm : m.Nodup) (h : ∀ x, x ∈ l ↔ x ∈ m) : l.Perm m := by
  induction l generalizing m with
  | nil =>
    cases m with
    | nil => exact .nil
    | cons b m => have := (h b).2 (List.mem_cons_self ..); cases this
  | cons a l ih =>
    have h2 := List.nodup_cons.1 hl
    have ha := (h a).1 (List.mem_cons_self ..)
    have hp := List.perm_cons_erase ha
    refine .trans (.cons a (ih h2.2 (List.Nodup.erase a hm) fun x => ?_)) hp.symm
    have hx := h x
    rw [List.mem_cons] at hx
    rw [List.Nodup.mem_erase_iff hm]
    constructor
    · intro h1; exact ⟨fun e => h2.1 (e ▸ h1), hx.1 (.inr h1)⟩
    · rintro ⟨h1, h3⟩
      rcases hx.2 h3 with h4 | h4
      · exact absurd h4 h1
      · exact h4

/-! ### the program's search -/
def seeB (s : List Bool × List Nat) (w : Nat) : List Bool × List Nat := if s.1.getD w false = true then s else (s.1.set w true, s.2 ++ [w])
/-- What holds of the marks and the list. -/
structure SeeI (N : Nat) (A : Arcs) (v : Nat) (s : List Bool × List Nat) : Prop where
  len : s.1.length = N
  mem : ∀ u, s.1.getD u false = true ↔ u ∈ s.2
  nodup : s.2.Nodup
  path : ∀ u ∈ s.2, Path A v u
  lt : ∀ u ∈ s.2, u < N
  start : v ∈ s.2
theorem SeeI.small {N : Nat} {A : Arcs} {v : Nat} {s : List Bool × List Nat} (h : SeeI N A v s) : s.2.length ≤ N := nodup_len h.nodup h.lt
theorem SeeI.see {N : Nat} {A : Arcs} {v : Nat} {s : List Bool × List Nat} (h : SeeI N A v s) {w : Nat} (hw : w < N) (hp : Path A v w) : SeeI N A v (seeB s w) := by
  unfold seeB
  split
  · exact h
  · rename_i hn
    have hni : w ∉ s.2 := fun hi => hn ((h.mem w).2 hi)
    refine ⟨by simpa using h.len, fun u => ?_, ?_, fun u hu => ?_, fun u hu => ?_, List.mem_append_left _ h.start⟩
    · rw [getD_set, List.mem_append, List.mem_singleton]
      by_cases e : w = u
      · subst e; rw [if_pos ⟨rfl, by rw [h.len]; exact hw⟩]; simp
      · rw [if_neg (fun x => e x.1), h.mem]
        constructor
        · exact .inl
        · rintro (x | x)
          · exact x
          · exact absurd x.symm e
    · rw [List.nodup_append]
      refine ⟨h.nodup, by simp, ?_⟩
      rintro a ha b hb rfl
      rw [List.mem_singleton] at hb; subst hb; exact hni ha
    · rcases List.mem_append.1 hu with hu | hu
      · exact h.path u hu
      · rw [List.mem_singleton] at hu; subst hu; exact hp
    · rcases List.mem_append.1 hu with hu | hu
      · exact h.lt u hu
      · rw [List.mem_singleton] at hu; subst hu; exact hw
theorem seeB_pre (s : List Bool × List Nat) (w : Nat) : ∃ t, (seeB s w).2 = s.2 ++ t := by
  unfold seeB; split
  · exact ⟨[], by simp⟩
  · exact ⟨[w], rfl⟩
theorem foldB_pre : ∀ (l : List Nat) (s : List Bool × List Nat), ∃ t, (l.foldl seeB s).2 = s.2 ++ t
  | [], s => ⟨[], by simp⟩
  | w :: l, s => by
    obtain ⟨t, ht⟩ := seeB_pre s w
    obtain ⟨u, hu⟩ := foldB_pre l (seeB s w)
    exact ⟨t ++ u, by rw [List.foldl_cons, hu, ht, List.append_assoc]⟩
theorem foldB_inv {N : Nat} {A : Arcs} {v : Nat} : ∀ (l : List Nat) (s : List Bool × List Nat), SeeI N A v s → (∀ w ∈ l, w < N ∧ Path A v w) → SeeI N A v (l.foldl seeB s)
  | [], _, h, _ => h
  | w :: l, s, h, hw => foldB_inv l (seeB s w) (h.see (hw w (List.mem_cons_self ..)).1 (hw w (List.mem_cons_self ..)).2) (fun x hx => hw x (List.mem_cons_of_mem _ hx))
theorem foldB_mem {N : Nat} {A : Arcs} {v : Nat} : ∀ (l : List Nat) (s : List Bool × List Nat), SeeI N A v s → (∀ w ∈ l, w < N ∧ Path A v w) → ∀ w ∈ l, w ∈ (l.foldl seeB s).2
  | [], _, _, _, w, h => by cases h
  | x :: l, s, h, hw, w, hx => by
    have hx0 := hw x (List.mem_cons_self ..)
    have h1 := h.see hx0.1 hx0.2
    rcases List.mem_cons.1 hx with rfl | hx
    · obtain ⟨t, ht⟩ := foldB_pre l (seeB s w)
      rw [List.foldl_cons, ht]
      refine List.mem_append_left _ ?_
      rw [← h1.mem]
      unfold seeB
      split
      · assumption
      · simp only; rw [getD_set, if_pos ⟨rfl, by rw [h.len]; exact hx0.1⟩]
    · exact foldB_mem l (seeB s x) h1 (fun y hy => hw y (List.mem_cons_of_mem _ hy)) w hx
theorem outs_path {N : Nat} {A : Arcs} (ok : Ok N A) {v x : Nat} (h : Path A v x) : ∀ w ∈ outs A x, w < N ∧ Path A v w := fun w hw => by
  have := mem_outs.1 hw
  exact ⟨(ok _ this).2, .step h this⟩
/-- .. with the heads of the first i entered. -/
structure BfsI (N : Nat) (A : Arcs) (v : Nat) (i : Nat) (s : List Bool × List Nat) : Prop extends SeeI N A v s where
  at_ : i ≤ s.2.length
  done : ∀ j, j < i → ∀ w ∈ outs A (s.2.getD j 0), w ∈ s.2
theorem BfsI.zero (N : Nat) (A : Arcs) {v : Nat} (hv : v < N) : BfsI N A v 0 (markN N v, [v]) := by
  refine ⟨⟨markN_len N v, fun u => ?_, by simp, fun u hu => ?_, fun u hu => ?_, by simp⟩, Nat.zero_le _, fun j hj => by omega⟩
  · show (markN N v).getD u false = true ↔ u ∈ [v]
    rw [markN_at, decide_eq_true_eq, List.mem_singleton]
    exact ⟨fun h => h.1.symm, fun h => ⟨h.symm, hv⟩⟩
  · have : u = v := by simpa using hu
    subst this; exact .refl _
  · have : u = v := by simpa using hu
    subst this; exact hv
theorem getD_mem {l : List Nat} {i : Nat} (h : i < l.length) : l.getD i 0 ∈ l := by
  rw [List.getD_eq_getElem?_getD, List.getElem?_eq_getElem h]; exact List.getElem_mem h
theorem getD_app {l t : List Nat} {i : Nat} (h : i < l.length) : (l ++ t).getD i 0 = l.getD i 0 := by
  rw [List.getD_eq_getElem?_getD, List.getD_eq_getElem?_getD, List.getElem?_append_left h]
theorem BfsI.next {N : Nat} {A : Arcs} (ok : Ok N A) {v i : Nat} {s : List Bool × List Nat} (h : BfsI N A v i s) (hi : i < s.2.length) : BfsI N A v (i + 1) ((outs A (s.2.getD i 0)).foldl seeB s) := by
  have hp := outs_path ok (h.path _ (getD_mem hi))
  obtain ⟨t, ht⟩ := foldB_pre (outs A (s.2.getD i 0)) s
  have hm := foldB_mem _ s h.toSeeI hp
  refine ⟨foldB_inv _ s h.toSeeI hp, ?_, fun j hj w hw => ?_⟩
  · rw [ht, List.length_append]; omega
  · rw [ht, getD_app (by omega)] at hw
    rcases Nat.lt_or_ge j i with h1 | h1
    · rw [ht]; exact List.mem_append_left _ (h.done j h1 w hw)
    · obtain rfl : j = i := by omega
      exact hm w hw
theorem BfsI.end {N : Nat} {A : Arcs} (ok : Ok N A) {v : Nat} {s : List Bool × List Nat} (h : BfsI N A v s.2.length s) (hv : v < N) (u : Nat) : u ∈ s.2 ↔ u ∈ reachT N A v := by
  rw [mem_reachT ok hv]
  constructor
  · exact h.path u
  · intro hp
    refine Path.closed (S := (· ∈ s.2)) (fun p hpa hs => ?_) hp h.start
    obtain ⟨j, hj, e⟩ := List.getElem_of_mem hs
    refine h.done j hj p.2 ?_
    rw [List.getD_eq_getElem?_getD, List.getElem?_eq_getElem hj, e]
    exact mem_outs.2 hpa
/-- The list, sorted, is the reached vertices. -/
theorem BfsI.sorted {N : Nat} {A : Arcs} (ok : Ok N A) {v : Nat} {s : List Bool × List Nat} (h : BfsI N A v s.2.length s) (hv : v < N) {l : List Nat} (hp : l.Perm s.2) (hs : l.Pairwise (· ≤ ·)) : l = reachT N A v :=
  asc_ext (nodup_le_asc hs (hp.symm.nodup h.nodup)) (reachT_asc N A v) (fun x => by rw [hp.mem_iff]; exact h.end ok hv x)
end Go.Proofs.Ytaipcpdncmnelaa.Tp

/- Plain arithmetic of the fixed-point layer: absolute values, rounded products and quotients, square roots; no program in sight. -/
namespace Go.Proofs.Ytaipcpdncmnelaa.Fx

/-- The absolute value. -/
def ab (n : Int) : Int := if n < 0 then -n else n
theorem ab_nonneg (n : Int) : 0 ≤ ab n := by unfold ab; split <;> omega
theorem ab_le (n : Int) (h0 : -9223372036854775808 ≤ n) (h1 : n ≤ 9223372036854775807) : ab n ≤ 9223372036854775808 := by unfold ab; split <;> omega

/-- The number with its sign, or the error 16. -/
def sg (q : Int) (m : Bool) : Int × Int := if 268435456 < q then (0, 16) else (if m then -q else q, 0)
/-- Signs differ. -/
def opp (a b : Int) : Bool := decide (a < 0) != decide (b < 0)
/-- The product, rounded. -/
def mulR (a b : Int) : Int × Int := sg ((ab a * ab b + 500) / 1000) (opp a b)
/-- The quotient, rounded, of sizes. -/
def quoR (x y : Int) : Int := (x * 1000) / y + (if y ≤ 2 * ((x * 1000) % y) then 1 else 0)
def divR (a b : Int) : Int × Int := if b = 0 then (0, 1) else sg (quoR (ab a) (ab b)) (opp a b)

theorem sg_over {q : Int} (h : 268435456 < q) (m : Bool) : sg q m = (0, 16) := by unfold sg; rw [if_pos h]
theorem sg_in {q : Int} (h : q ≤ 268435456) (m : Bool) : sg q m = (if m then -q else q, 0) := by unfold sg; rw [if_neg (by omega)]

/-! ### Sqrt -/
theorem sq_lt {a b : Nat} (h : a * a < b * b) : a < b := by
  rcases Nat.lt_or_ge a b with h1 | h1
  · exact h1
  · exact absurd h (Nat.not_lt.2 (Nat.mul_le_mul h1 h1))
theorem sqrt_unique {n s t : Nat} (h1 : s * s ≤ n) (h2 : n < (s + 1) * (s + 1)) (h3 : t * t ≤ n) (h4 : n < (t + 1) * (t + 1)) : s = t := by
  have a := sq_lt (Nat.lt_of_le_of_lt h1 h4)
  have b := sq_lt (Nat.lt_of_le_of_lt h3 h2)
  omega

/-! ### Knuth's division of two words by one: what one of the two loops finds. B is 2^32. -/
/-- On exit the estimate is the digit. -/
theorem digit_eq {u1 u0 y1 y0 q r B : Int} (hB : 0 < B) (hy1 : 0 < y1) (hy0 : 0 ≤ y0) (h : q * y1 + r = u1) (hle : q * y0 ≤ B * r + u0) (hlt : u1 * B + u0 < (q + 1) * (y1 * B + y0)) :
    (u1 * B + u0) / (y1 * B + y0) = q ∧ u1 * B + u0 - q * (y1 * B + y0) = (u1 * B + u0) % (y1 * B + y0) := by
  have hd : 0 < y1 * B + y0 := by have := Int.mul_pos hy1 hB; omega
  have e : u1 * B + u0 - q * (y1 * B + y0) = B * r + u0 - q * y0 := by
    subst h; rw [Int.add_mul, Int.mul_add, Int.mul_comm r B, Int.mul_assoc q y1 B]; omega
  have e2 : (q + 1) * (y1 * B + y0) = q * (y1 * B + y0) + (y1 * B + y0) := by rw [Int.add_mul]; omega
  have lo : 0 ≤ u1 * B + u0 - q * (y1 * B + y0) := by omega
  have hi : u1 * B + u0 - q * (y1 * B + y0) < y1 * B + y0 := by omega
  have key : u1 * B + u0 = (y1 * B + y0) * q + (u1 * B + u0 - q * (y1 * B + y0)) := by rw [Int.mul_comm (y1 * B + y0) q]; omega
  constructor
  · rw [key, Int.add_comm ((y1 * B + y0) * q), Int.add_mul_ediv_left _ _ (Int.ne_of_gt hd), Int.ediv_eq_zero_of_lt]
    · omega
    · exact lo
    · exact hi
  · have h3 : (u1 * B + u0 - q * (y1 * B + y0) + (y1 * B + y0) * q) % (y1 * B + y0) = u1 * B + u0 - q * (y1 * B + y0) := by
      rw [Int.add_mul_emod_self_left]; exact Int.emod_eq_of_lt lo hi
    rw [Int.mul_comm (y1 * B + y0) q] at h3
    rw [← h3]; congr 1; omega
/-- The test says that the estimate is too great: it stays an upper bound one lower. -/
theorem digit_down {u1 u0 y1 y0 q r B : Int} (h : q * y1 + r = u1) (hgt : B * r + u0 < q * y0) : u1 * B + u0 < (q - 1 + 1) * (y1 * B + y0) ∧ (q - 1) * y1 + (r + y1) = u1 := by
  have e : u1 * B + u0 - q * (y1 * B + y0) = B * r + u0 - q * y0 := by
    subst h; rw [Int.add_mul, Int.mul_add, Int.mul_comm r B, Int.mul_assoc q y1 B]; omega
  refine ⟨?_, by rw [Int.sub_mul]; omega⟩
  rw [show q - 1 + 1 = q by omega]; omega
end Go.Proofs.Ytaipcpdncmnelaa.Fx

/- What the small functions of the fixed-point layer return: size, signed, abs, Sqrt, and the document's twins. For every argument of the kinds. -/
namespace Go.Proofs.Ytaipcpdncmnelaa.Fx
open Go.RowKit

/-- Nothing of what was there has turned. -/
def Ext (w w' : World) : Prop := Below w.heap.size w w'
theorem Ext.refl (w : World) : Ext w w := Below.refl _ _
theorem Ext.trans {a b c : World} (h : Ext a b) (k : Ext b c) : Ext a c := Below.trans h (Below.mono k (Below.size h))
theorem Ext.drew {a w : World} (h : Ext a w) : Ext a w.drew := Below.drew h
theorem Ext.drewN {a w : World} (h : Ext a w) : ∀ n, Ext a (w.drewN n)
  | 0 => by rw [World.drewN_zero]; exact h
  | n + 1 => ⟨h.os, h.tape, h.output, h.size, h.block⟩
theorem Ext.alloc {a w : World} (h : Ext a w) (o : Obj) : Ext a (w.alloc o) := Below.alloc h (Below.size h) o
theorem Ext.setCell {a w : World} (h : Ext a w) {p : Addr} (hp : a.heap.size ≤ p.block) (u : Value) : Ext a (w.setCell p u) := Below.setCell h hp u
theorem Ext.grow {a w : World} (h : Ext a w) (os : Array Obj) : Ext a (Sort.grow w os) :=
  Ext.trans h ⟨rfl, rfl, rfl, by simp [Sort.grow], fun k hk => Sort.heap_grow_old w os hk⟩
theorem Ext.cell {w w' : World} (h : Ext w w') {p : Addr} {v : Value} (hv : w.cell? p = some v) : w'.cell? p = some v := by
  have hb : p.block < w.heap.size := by
    rcases Nat.lt_or_ge p.block w.heap.size with h1 | h1
    · exact h1
    · exfalso; unfold World.cell? at hv; rw [Array.getElem?_eq_none h1] at hv; cases hv
  rw [Below.cell h hb]; exact hv
theorem Ext.tab {P : Program} {w w' : World} {n : String} {k : IntKind} {zs : List Int} (h : Ext w w') (ht : Lib.TabIs P w n k zs) : Lib.TabIs P w' n k zs := by
  unfold Lib.TabIs World.var? at *
  cases hg : P.globalNamed n with
  | none => simp [hg] at ht
  | some g =>
    simp only [hg, Option.bind_some] at ht ⊢
    have hlt : g < w.heap.size := by
      rcases Nat.lt_or_ge g w.heap.size with h' | h'
      · exact h'
      · rw [Array.getElem?_eq_none h'] at ht; simp at ht
    rw [Below.block h g hlt]
    exact ht

theorem ret_int {k : IntKind} {a b : Int} (h : a = b) : Ending.returned (.int k a) = .returned (.int k b) := by rw [h]

theorem ret_pair {k k' : IntKind} {a b c d : Int} (h : a = b) (h' : c = d) : Ending.returned (.tuple #[.int k a, .int k' c]) = .returned (.tuple #[.int k b, .int k' d]) := by rw [h, h']




end Go.Proofs.Ytaipcpdncmnelaa.Fx

/- A digraph in memory: its arcs behind a slice; rows of numbers in blocks of their own. -/
namespace Go.Proofs.Ytaipcpdncmnelaa.Tp
open Go.RowKit Go.Sort Go.Lib Fx

/-- The arcs as they lie in memory. -/
abbrev ArcZ := List (Int × Int)
def ArcIn (w : World) (a : Option Addr) (L : ArcZ) : Prop :=
  ∀ k (h : k < L.length), ∃ g o, a = some ⟨g, o, none⟩ ∧ w.cell? ⟨g, o + k * 2, none⟩ = some (.int .i64 L[k].1) ∧ w.cell? ⟨g, o + k * 2 + 1, none⟩ = some (.int .i64 L[k].2)
theorem ArcIn.ext {w w' : World} {a : Option Addr} {L : ArcZ} (h : ArcIn w a L) (x : Ext w w') : ArcIn w' a L := fun k hk => by
  obtain ⟨g, o, ha, h0, h1⟩ := h k hk
  exact ⟨g, o, ha, x.cell h0, x.cell h1⟩
/-- The ends are numbers of the machine. -/
def ArcOk (L : ArcZ) : Prop := ∀ p ∈ L, -9223372036854775808 ≤ p.1 ∧ p.1 ≤ 9223372036854775807 ∧ -9223372036854775808 ≤ p.2 ∧ p.2 ≤ 9223372036854775807
def goodP (n : Int) (p : Int × Int) : Bool := decide (0 ≤ p.1 ∧ 0 ≤ p.2 ∧ p.1 < n ∧ p.2 < n)
def validL (n : Int) (L : ArcZ) : Bool := decide (0 ≤ n ∧ n ≤ 64 ∧ L.length ≤ 256) && L.all (goodP n)
/-- A valid digraph in plain numbers. -/
theorem valid_nat {n : Int} {L : ArcZ} (h : validL n L = true) : ∃ (N : Nat) (A : Arcs), n = N ∧ N ≤ 64 ∧ L = A.map (fun p => ((p.1 : Int), (p.2 : Int))) ∧ A.length ≤ 256 ∧ Ok N A := by
  unfold validL at h
  rw [Bool.and_eq_true, decide_eq_true_eq, List.all_eq_true] at h
  obtain ⟨⟨h0, h1, h2⟩, h3⟩ := h
  refine ⟨n.toNat, L.map (fun p => (p.1.toNat, p.2.toNat)), by omega, by omega, ?_, by simpa using h2, fun p hp => ?_⟩
  · rw [List.map_map]
    have : L.map id = L := List.map_id _
    conv => lhs; rw [← this]
    refine List.map_congr_left fun p hp => ?_
    have := of_decide_eq_true (h3 p hp)
    obtain ⟨a, b⟩ := p
    simp only [Function.comp, id] at this ⊢
    rw [Int.toNat_of_nonneg this.1, Int.toNat_of_nonneg this.2.1]
  · obtain ⟨q, hq, rfl⟩ := List.mem_map.1 hp
    have := of_decide_eq_true (h3 q hq)
    simp only; omega
def zarc (A : Arcs) : ArcZ := A.map (fun p => ((p.1 : Int), (p.2 : Int)))
theorem zarc_len (A : Arcs) : (zarc A).length = A.length := by simp [zarc]
theorem zarc_at (A : Arcs) (k : Nat) (h : k < A.length) : (zarc A)[k]'(by rw [zarc_len]; exact h) = ((A[k].1 : Int), (A[k].2 : Int)) := by simp [zarc]

/-! ### rows of numbers -/
theorem own_ext' {w w' : World} {B : Nat} {e : TypeId} {sz : Nat} {v : Value} {n : Nat} {xs : List Value} (h : w.ownsRow B e sz v n xs) (x : Ext w w') : w'.ownsRow B e sz v n xs := by
  refine ⟨h.1, ?_⟩
  rcases h.2 with h1 | ⟨g, cap, cur, hv, hb, hg, r⟩
  · exact .inl h1
  · exact .inr ⟨g, cap, cur, hv, hb, (x.block g (Array.getElem?_eq_some_iff.1 hg).1).trans hg, r⟩
def zl (L : List Nat) : List Int := L.map (fun x : Nat => (x : Int))
theorem zl_len (L : List Nat) : (zl L).length = L.length := by simp [zl]
theorem zl_app (L M : List Nat) : zl (L ++ M) = zl L ++ zl M := by simp [zl]
theorem zl_at (L : List Nat) (k : Nat) (h : k < L.length) : (zl L)[k]'(by rw [zl_len]; exact h) = (L[k] : Int) := by simp [zl]
def iv (L : List Int) : List Value := L.map (Value.int .i64)
theorem iv_len (L : List Int) : (iv L).length = L.length := by simp [iv]
theorem iv_app (L M : List Int) : iv (L ++ M) = iv L ++ iv M := by simp [iv]
/-- Numbers behind a slice. -/
def IntIn (w : World) (a : Option Addr) (L : List Int) : Prop :=
  ∀ j (h : j < L.length), ∃ g o, a = some ⟨g, o, none⟩ ∧ w.cell? ⟨g, o + j, none⟩ = some (.int .i64 L[j])
theorem IntIn.ext {w w' : World} {a : Option Addr} {L : List Int} (h : IntIn w a L) (x : Ext w w') : IntIn w' a L := fun j hj => by
  obtain ⟨g, o, ha, h0⟩ := h j hj
  exact ⟨g, o, ha, x.cell h0⟩
theorem add_at (g j : Nat) : (⟨g, 0, none⟩ : Addr).add j = ⟨g, j, none⟩ := by
  simp [Addr.add]; exact fun h => h.symm
theorem own_ints {w : World} {B n : Nat} {v : Value} {L : List Int} (h : w.ownsRow B 3 1 v n (iv L)) (hn : n = L.length) : ∃ a c, v = .slice a L.length c ∧ IntIn w a L ∧ (L = [] ∨ ∃ g, a = some ⟨g, 0, none⟩) := by
  subst hn
  rcases h.2 with ⟨h1, h2⟩ | ⟨g, cap, cur, hv, _, hg, _⟩
  · have : L = [] := List.eq_nil_of_length_eq_zero h2
    subst this
    exact ⟨_, _, h1, fun k hk => absurd hk (by simp), .inl rfl⟩
  · refine ⟨_, cap, hv, fun k hk => ⟨g, 0, rfl, ?_⟩, .inr ⟨g, rfl⟩⟩
    have hc := h.cells (g := g) (by rw [hv]; rfl) k (.int .i64 L[k]) (by unfold iv; rw [List.getElem?_map, List.getElem?_eq_getElem hk]; rfl)
    rw [add_at] at hc
    rw [Nat.zero_add]; exact hc
/-- A whole block of numbers. -/
def BlkI (w : World) (b : Nat) (L : List Int) : Prop := w.heap[b]? = some (.cells (iv L).toArray 3 (0, 0))
def bv (L : List Bool) : List Value := L.map Value.bool
def BlkB (w : World) (b : Nat) (L : List Bool) : Prop := w.heap[b]? = some (.cells (bv L).toArray 4 (0, 0))
theorem BlkI.cell {w : World} {b : Nat} {L : List Int} (h : BlkI w b L) {j : Nat} (hj : j < L.length) : w.cell? ⟨b, j, none⟩ = some (.int .i64 L[j]) := by
  rw [Lib.cell_of_heap h]; unfold iv; simp [hj]
theorem BlkI.cell0 {w : World} {b : Nat} {L : List Int} (h : BlkI w b L) {j : Nat} (hj : j < L.length) : w.cell? ⟨b, 0 + j, none⟩ = some (.int .i64 (L.getD j 0)) := by
  rw [Nat.zero_add, h.cell hj, List.getD_eq_getElem?_getD, List.getElem?_eq_getElem hj]; rfl
theorem BlkB.cell0 {w : World} {b : Nat} {L : List Bool} (h : BlkB w b L) {j : Nat} (hj : j < L.length) : w.cell? ⟨b, 0 + j, none⟩ = some (.bool (L.getD j false)) := by
  rw [Nat.zero_add, Lib.cell_of_heap h, List.getD_eq_getElem?_getD, List.getElem?_eq_getElem hj]; unfold bv; simp [hj]
theorem BlkI.cellD {w : World} {b : Nat} {L : List Int} (h : BlkI w b L) {j : Nat} (hj : j < L.length) : w.cell? ⟨b, j, none⟩ = some (.int .i64 (L.getD j 0)) := by
  have := h.cell0 hj; rwa [Nat.zero_add] at this
theorem BlkB.cellD {w : World} {b : Nat} {L : List Bool} (h : BlkB w b L) {j : Nat} (hj : j < L.length) : w.cell? ⟨b, j, none⟩ = some (.bool (L.getD j false)) := by
  have := h.cell0 hj; rwa [Nat.zero_add] at this
theorem BlkI.frozen {w : World} {b : Nat} {L : List Int} (h : BlkI w b L) (j : Nat) : w.frozen? ⟨b, j, none⟩ = false := Lib.frozen_of_heap h j
theorem BlkB.frozen {w : World} {b : Nat} {L : List Bool} (h : BlkB w b L) (j : Nat) : w.frozen? ⟨b, j, none⟩ = false := Lib.frozen_of_heap h j
theorem heap_set {w : World} {B : Nat} {cs : Array Value} {T : TypeId} (h : w.heap[B]? = some (.cells cs T (0, 0))) (i : Nat) (v : Value) :
    (w.setCell ⟨B, i, none⟩ v).heap[B]? = some (.cells (cs.setIfInBounds i v) T (0, 0)) := by
  unfold World.setCell
  simp [Array.getElem?_modify, h]
theorem BlkI.set {w : World} {b : Nat} {L : List Int} (h : BlkI w b L) (j : Nat) (x : Int) : BlkI (w.setCell ⟨b, j, none⟩ (.int .i64 x)) b (L.set j x) := by
  have := heap_set h j (.int .i64 x)
  unfold BlkI; rw [this]; unfold iv
  simp [List.map_set]
theorem BlkB.set {w : World} {b : Nat} {L : List Bool} (h : BlkB w b L) (j : Nat) (x : Bool) : BlkB (w.setCell ⟨b, j, none⟩ (.bool x)) b (L.set j x) := by
  have := heap_set h j (.bool x)
  unfold BlkB; rw [this]; unfold bv
  simp [List.map_set]
theorem heap_ext {w w' : World} {b : Nat} {o : Obj} (h : w.heap[b]? = some o) (x : Ext w w') : w'.heap[b]? = some o :=
  (x.block b (Array.getElem?_eq_some_iff.1 h).1).trans h
theorem BlkI.ext {w w' : World} {b : Nat} {L : List Int} (h : BlkI w b L) (x : Ext w w') : BlkI w' b L := heap_ext h x
theorem BlkB.ext {w w' : World} {b : Nat} {L : List Bool} (h : BlkB w b L) (x : Ext w w') : BlkB w' b L := heap_ext h x
theorem BlkI.lt {w : World} {b : Nat} {L : List Int} (h : BlkI w b L) : b < w.heap.size := (Array.getElem?_eq_some_iff.1 h).1
theorem BlkB.lt {w : World} {b : Nat} {L : List Bool} (h : BlkB w b L) : b < w.heap.size := (Array.getElem?_eq_some_iff.1 h).1
theorem made_eq (z : Value) (n : Nat) : madeCells #[z] n = (List.replicate n z).toArray := by
  apply Array.toList_inj.1; rw [toList_madeCells_one]
theorem BlkI.made (w : World) (n : Nat) : BlkI (w.alloc (.cells (madeCells #[.int .i64 0] n) 3)) w.heap.size (List.replicate n 0) := by
  have h := heap_alloc_new w (.cells (madeCells #[.int .i64 0] n) 3)
  unfold BlkI iv; rw [h, made_eq, List.map_replicate]
theorem BlkB.made (w : World) (n : Nat) : BlkB (w.alloc (.cells (madeCells #[.bool false] n) 4)) w.heap.size (List.replicate n false) := by
  have h := heap_alloc_new w (.cells (madeCells #[.bool false] n) 4)
  unfold BlkB bv; rw [h, made_eq, List.map_replicate]
theorem BlkI.intIn {w : World} {b : Nat} {L : List Int} (h : BlkI w b L) : IntIn w (some ⟨b, 0, none⟩) L := fun j hj => ⟨b, 0, rfl, by rw [Nat.zero_add]; exact h.cell hj⟩
/-- Another block is as it was. -/
theorem heap_other {w : World} {b c : Nat} {o : Obj} (h : w.heap[b]? = some o) (j : Nat) (v : Value) (hne : b ≠ c) : (w.setCell ⟨c, j, none⟩ v).heap[b]? = some o := by
  rw [Below.heap_setCell _ _ _ _ hne]; exact h
theorem heap_grown {w w' : World} {b : Nat} {o : Obj} {row : Option Nat} (h : w.heap[b]? = some o) (g : w.grownBy w' row) (hne : some b ≠ row) : w'.heap[b]? = some o :=
  (g.block b (Array.getElem?_eq_some_iff.1 h).1 hne).trans h
theorem info_int : (Try.prog.info? 3).map (fun i => (i.zero, i.size, i.bytes)) = some (some (.int .i64 0), 1, 8) := by kernel_rfl
theorem info_bool : (Try.prog.info? 4).map (fun i => (i.zero, i.size, i.bytes)) = some (some (.bool false), 1, 1) := by kernel_rfl
theorem info_row : (Try.prog.info? 31).map (fun i => (i.zero, i.size, i.bytes)) = some (some (.slice none 0 0), 1, 24) := by kernel_rfl
end Go.Proofs.Ytaipcpdncmnelaa.Tp
