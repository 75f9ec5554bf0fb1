/- Packed texts: TopText, TopOrd, FixArith, FixWalkA -/
import Derived.Lib.Hide
import Derived.WalkKit
import Derived.Test.YtjjcjoedgmfalaaRows
import Derived.Below
import Derived.Deep.Draws
import Derived.Sort.Grow
import Derived.Lib.LaidTab
set_option linter.unusedVariables false
set_option linter.unusedSimpArgs false
/- Digraphs as plain lists of arcs: paths, the heads of arcs, the document's marking in rounds and the program's search, both equal to the vertices that are reached; no program in sight. -/
namespace Go.Proofs.Ytjjcjoedgmfalaa.Tp

/-- Arcs between vertices. -/
abbrev Arcs := List (Nat × Nat)
/-- All ends are vertices. -/
def Ok (N : Nat) (A : Arcs) : Prop := ∀ p ∈ A, p.1 < N ∧ p.2 < N
/-- v is reached from u. -/
inductive Path (A : Arcs) : Nat → Nat → Prop
  | refl (v : Nat) : Path A v v
  | step {u v w : Nat} : Path A u v → (v, w) ∈ A → Path A u w
theorem Path.trans {A : Arcs} {u v w : Nat} (h : Path A u v) (k : Path A v w) : Path A u w := by
  induction k with
  | refl => exact h
  | step _ e ih => exact .step ih e
theorem Path.arc {A : Arcs} {u v : Nat} (h : (u, v) ∈ A) : Path A u v := .step (.refl _) h
theorem Path.lt {N : Nat} {A : Arcs} (ok : Ok N A) {u v : Nat} (h : Path A u v) (hu : u < N) : v < N := by
  induction h with
  | refl => exact hu
  | step _ e _ => exact (ok _ e).2
/-- A set that is left by no arc is left by no path. -/
theorem Path.closed {A : Arcs} {S : Nat → Prop} (hc : ∀ p ∈ A, S p.1 → S p.2) {u v : Nat} (h : Path A u v) (hu : S u) : S v := by
  induction h with
  | refl => exact hu
  | step _ e ih => exact hc _ e ih
/-- The heads of the arcs of a vertex, in order. -/
def outs (A : Arcs) (v : Nat) : List Nat := (A.filter (fun p => p.1 == v)).map (·.2)
theorem mem_outs {A : Arcs} {v w : Nat} : w ∈ outs A v ↔ (v, w) ∈ A := by
  unfold outs
  simp only [List.mem_map, List.mem_filter, beq_iff_eq]
  constructor
  · rintro ⟨⟨a, b⟩, ⟨h1, h2⟩, h3⟩
    simp only at h2 h3
    subst h2; subst h3; exact h1
  · intro h; exact ⟨(v, w), ⟨h, rfl⟩, rfl⟩
theorem outs_snoc (A : Arcs) (p : Nat × Nat) (v : Nat) : outs (A ++ [p]) v = outs A v ++ (if p.1 = v then [p.2] else []) := by
  unfold outs
  by_cases h : p.1 = v
  · simp [h]
  · simp [h]
theorem outs_len_le (A : Arcs) (v : Nat) : (outs A v).length ≤ A.length := by
  unfold outs; rw [List.length_map]; exact List.length_filter_le _ _

/-! ### marks -/
/-- One list of marks says no more than another. -/
def Le : List Bool → List Bool → Prop
  | [], [] => True
  | a :: s, b :: t => (a = true → b = true) ∧ Le s t
  | _, _ => False
theorem Le.refl : ∀ s, Le s s
  | [] => trivial
  | _ :: s => ⟨id, Le.refl s⟩
theorem Le.trans : ∀ {s t u : List Bool}, Le s t → Le t u → Le s u
  | [], [], [], _, _ => trivial
  | _ :: _, _ :: _, _ :: _, h, k => ⟨fun x => k.1 (h.1 x), Le.trans h.2 k.2⟩
  | [], [], _ :: _, _, k => k.elim
  | [], _ :: _, _, h, _ => h.elim
  | _ :: _, [], _, h, _ => h.elim
  | _ :: _, _ :: _, [], _, k => k.elim
theorem Le.len : ∀ {s t : List Bool}, Le s t → s.length = t.length
  | [], [], _ => rfl
  | _ :: _, _ :: _, h => by rw [List.length_cons, List.length_cons, Le.len h.2]
  | [], _ :: _, h => h.elim
  | _ :: _, [], h => h.elim
theorem Le.at : ∀ {s t : List Bool}, Le s t → ∀ i, s.getD i false = true → t.getD i false = true
  | [], [], _, i, h => by simp at h
  | a :: s, b :: t, h, 0, hi => by simpa using h.1 (by simpa using hi)
  | a :: s, b :: t, h, i + 1, hi => by simpa using Le.at h.2 i (by simpa using hi)
  | [], _ :: _, h, _, _ => h.elim
  | _ :: _, [], h, _, _ => h.elim
def ones (s : List Bool) : Nat := s.count true
theorem ones_le (s : List Bool) : ones s ≤ s.length := List.count_le_length
theorem Le.ones : ∀ {s t : List Bool}, Le s t → ones s ≤ ones t
  | [], [], _ => Nat.le_refl _
  | a :: s, b :: t, h => by
    have ih := Le.ones h.2
    unfold Tp.ones at *
    cases a <;> cases b <;> simp [List.count_cons] at * <;> first | omega | (have := h.1; simp at this)
  | [], _ :: _, h => h.elim
  | _ :: _, [], h => h.elim
theorem Le.eq : ∀ {s t : List Bool}, Le s t → Tp.ones s = Tp.ones t → s = t
  | [], [], _, _ => rfl
  | a :: s, b :: t, h, e => by
    have ih := Le.ones h.2
    have h1 := h.1
    unfold Tp.ones at e ih
    have key : a = b ∧ s.count true = t.count true := by
      cases a <;> cases b <;> simp [List.count_cons] at * <;> omega
    rw [key.1, Le.eq h.2 key.2]
  | [], _ :: _, h, _ => h.elim
  | _ :: _, [], h, _ => h.elim
theorem Le.set : ∀ (s : List Bool) (i : Nat), Le s (s.set i true)
  | [], _ => trivial
  | _ :: s, 0 => ⟨fun _ => rfl, Le.refl s⟩
  | _ :: s, i + 1 => ⟨id, Le.set s i⟩
theorem getD_set {α : Type} (s : List α) (i j : Nat) (v d : α) : (s.set i v).getD j d = if i = j ∧ i < s.length then v else s.getD j d := by
  simp only [List.getD_eq_getElem?_getD, List.getElem?_set]
  by_cases h : i = j
  · subst h
    by_cases h2 : i < s.length
    · simp [h2]
    · simp [h2, List.getElem?_eq_none (Nat.not_lt.1 h2)]
  · simp [h]
def relax (s : List Bool) (p : Nat × Nat) : List Bool := if s.getD p.1 false = true then s.set p.2 true else s
theorem relax_le (s : List Bool) (p : Nat × Nat) : Le s (relax s p) := by
  unfold relax; split
  · exact Le.set _ _
  · exact Le.refl _
def roundR (A : Arcs) (s : List Bool) : List Bool := A.foldl relax s
theorem roundR_le : ∀ (A : Arcs) (s : List Bool), Le s (roundR A s)
  | [], s => Le.refl s
  | p :: A, s => Le.trans (relax_le s p) (roundR_le A (relax s p))
theorem roundR_len (A : Arcs) (s : List Bool) : (roundR A s).length = s.length := (roundR_le A s).len.symm
/-- Nothing new in a round: closed. -/
theorem roundR_fix : ∀ (A : Arcs) (s : List Bool), Le (roundR A s) s → ∀ p ∈ A, p.2 < s.length → s.getD p.1 false = true → s.getD p.2 false = true
  | [], _, _, p, h, _, _ => by cases h
  | q :: A, s, h, p, hp, hl, hs => by
    have h1 : Le (relax s q) s := Le.trans (roundR_le A (relax s q)) h
    have he : relax s q = s := Le.eq h1 (Nat.le_antisymm (Le.ones h1) (Le.ones (relax_le s q)))
    rcases List.mem_cons.1 hp with rfl | hp
    · have := h1.at p.2 (by unfold relax; rw [if_pos hs, getD_set, if_pos ⟨rfl, hl⟩])
      exact this
    · have h2 : Le (roundR A s) s := by
        have : roundR (q :: A) s = roundR A (relax s q) := rfl
        rw [this, he] at h; exact h
      exact roundR_fix A s h2 p hp hl hs
def itR (A : Arcs) : Nat → List Bool → List Bool
  | 0, s => s
  | k + 1, s => roundR A (itR A k s)
theorem itR_len (A : Arcs) (s : List Bool) : ∀ k, (itR A k s).length = s.length
  | 0 => rfl
  | k + 1 => by rw [itR, roundR_len, itR_len A s k]
theorem itR_le (A : Arcs) (s : List Bool) : ∀ k, Le s (itR A k s)
  | 0 => Le.refl s
  | k + 1 => Le.trans (itR_le A s k) (roundR_le A _)
/-- After as many rounds as there are vertices the marks are closed. -/
theorem itR_fix (A : Arcs) (s : List Bool) : ∀ k, Le (roundR A (itR A k s)) (itR A k s) ∨ ones s + k ≤ ones (itR A k s)
  | 0 => .inr (Nat.le_refl _)
  | k + 1 => by
    rcases itR_fix A s k with h | h
    · left
      have e : roundR A (itR A k s) = itR A k s := Le.eq h (Nat.le_antisymm (Le.ones h) (Le.ones (roundR_le A _)))
      rw [itR, e, e]; exact Le.refl _
    · by_cases hc : ones (roundR A (itR A k s)) = ones (itR A k s)
      · left
        have e : itR A k s = roundR A (itR A k s) := Le.eq (roundR_le A _) hc.symm
        rw [itR, ← e, ← e]; exact Le.refl _
      · right
        have := Le.ones (roundR_le A (itR A k s))
        rw [itR]; omega
def markN (N v : Nat) : List Bool := (List.replicate N false).set v true
theorem markN_len (N v : Nat) : (markN N v).length = N := by simp [markN]
theorem markN_at (N v u : Nat) : (markN N v).getD u false = decide (v = u ∧ v < N) := by
  unfold markN
  rw [getD_set, List.length_replicate]
  by_cases h : v = u ∧ v < N
  · rw [if_pos h, decide_eq_true h]
  · rw [if_neg h, decide_eq_false h, List.getD_eq_getElem?_getD, List.getElem?_replicate]
    split <;> rfl
theorem ones_pos : ∀ (s : List Bool) (i : Nat), s.getD i false = true → 1 ≤ ones s
  | [], i, h => by simp at h
  | a :: s, 0, h => by
    have : a = true := by simpa using h
    subst this; unfold ones; simp [List.count_cons]
  | a :: s, i + 1, h => by
    have := ones_pos s i (by simpa using h)
    unfold ones at *; rw [List.count_cons]; omega
def reachB (N : Nat) (A : Arcs) (v : Nat) : List Bool := itR A N (markN N v)
/-- The vertices that v reaches, ascending. -/
def reachT (N : Nat) (A : Arcs) (v : Nat) : List Nat := (List.range N).filter (fun u => (reachB N A v).getD u false)
theorem itR_path {N : Nat} {A : Arcs} {v : Nat} {s : List Bool} (hs : ∀ u, s.getD u false = true → Path A v u) : ∀ k u, (itR A k s).getD u false = true → Path A v u := by
  have one : ∀ (B : Arcs) (s : List Bool), (∀ p ∈ B, p ∈ A) → (∀ u, s.getD u false = true → Path A v u) → ∀ u, (roundR B s).getD u false = true → Path A v u := by
    intro B
    induction B with
    | nil => intro s _ h u hu; exact h u hu
    | cons q B ih =>
      intro s hB h u hu
      refine ih (relax s q) (fun p hp => hB p (List.mem_cons_of_mem _ hp)) (fun x hx => ?_) u hu
      unfold relax at hx
      split at hx
      · rename_i hq
        rw [getD_set] at hx
        split at hx
        · rename_i hh; rw [← hh.1]; exact .step (h _ hq) (hB q (List.mem_cons_self ..))
        · exact h x hx
      · exact h x hx
  intro k
  induction k with
  | zero => exact hs
  | succ k ih => intro u hu; exact one A _ (fun p hp => hp) ih u hu
theorem reachB_iff {N : Nat} {A : Arcs} (ok : Ok N A) {v : Nat} (hv : v < N) (u : Nat) : (reachB N A v).getD u false = true ↔ Path A v u := by
  constructor
  · refine itR_path (N := N) (fun x hx => ?_) N u
    rw [markN_at] at hx
    have := of_decide_eq_true hx
    rw [← this.1]; exact .refl _
  · intro h
    have hl : (reachB N A v).length = N := by unfold reachB; rw [itR_len, markN_len]
    have hm : (markN N v).getD v false = true := by rw [markN_at]; exact decide_eq_true ⟨rfl, hv⟩
    have fix : Le (roundR A (reachB N A v)) (reachB N A v) := by
      rcases itR_fix A (markN N v) N with h | h
      · exact h
      · exfalso
        have h1 := ones_pos _ _ hm
        have h2 := ones_le (itR A N (markN N v))
        rw [itR_len, markN_len] at h2
        omega
    refine Path.closed (S := fun x => (reachB N A v).getD x false = true) (fun p hp hs => roundR_fix A _ fix p hp (by rw [hl]; exact (ok p hp).2) hs) h ?_
    exact (itR_le A (markN N v) N).at v hm
theorem mem_reachT {N : Nat} {A : Arcs} (ok : Ok N A) {v : Nat} (hv : v < N) {u : Nat} : u ∈ reachT N A v ↔ Path A v u := by
  unfold reachT
  rw [List.mem_filter, List.mem_range, reachB_iff ok hv]
  exact ⟨fun h => h.2, fun h => ⟨h.lt ok hv, h⟩⟩
theorem reachT_asc (N : Nat) (A : Arcs) (v : Nat) : (reachT N A v).Pairwise (· < ·) := List.Pairwise.filter _ List.pairwise_lt_range

/-! ### ascending lists -/
theorem asc_ext : ∀ {l m : List Nat}, l.Pairwise (· < ·) → m.Pairwise (· < ·) → (∀ x, x ∈ l ↔ x ∈ m) → l = m
  | [], [], _, _, _ => rfl
  | [], b :: m, _, _, h => by have := (h b).2 (List.mem_cons_self ..); cases this
  | a :: l, [], _, _, h => by have := (h a).1 (List.mem_cons_self ..); cases this
  | a :: l, b :: m, hl, hm, h => by
    have hl' := List.pairwise_cons.1 hl
    have hm' := List.pairwise_cons.1 hm
    have e : a = b := by
      rcases List.mem_cons.1 ((h a).1 (List.mem_cons_self ..)) with h1 | h1
      · exact h1
      · rcases List.mem_cons.1 ((h b).2 (List.mem_cons_self ..)) with h2 | h2
        · exact h2.symm
        · have := hl'.1 b h2; have := hm'.1 a h1; omega
    subst e
    refine congrArg _ (asc_ext hl'.2 hm'.2 fun x => ?_)
    have hx := h x
    simp only [List.mem_cons] at hx
    constructor
    · intro h1
      rcases hx.1 (.inr h1) with h2 | h2
      · subst h2; have := hl'.1 x h1; omega
      · exact h2
    · intro h1
      rcases hx.2 (.inr h1) with h2 | h2
      · subst h2; have := hm'.1 x h1; omega
      · exact h2
theorem nodup_le_asc {l : List Nat} (h : l.Pairwise (· ≤ ·)) (hn : l.Nodup) : l.Pairwise (· < ·) := by
  induction l with
  | nil => exact .nil
  | cons a l ih =>
    have h1 := List.pairwise_cons.1 h
    have h2 := List.nodup_cons.1 hn
    refine List.pairwise_cons.2 ⟨fun x hx => ?_, ih h1.2 h2.2⟩
    have := h1.1 x hx
    rcases Nat.lt_or_eq_of_le this with h3 | h3
    · exact h3
    · subst h3; exact absurd hx h2.1
theorem nodup_sub : ∀ {l m : List Nat}, l.Nodup → (∀ x ∈ l, x ∈ m) → l.length ≤ m.length
  | [], _, _, _ => Nat.zero_le _
  | a :: l, m, hn, h => by
    have h2 := List.nodup_cons.1 hn
    have ha := h a (List.mem_cons_self ..)
    have ih := nodup_sub (m := m.erase a) h2.2 (fun x hx => (List.mem_erase_of_ne (fun e => h2.1 (by rw [← e]; exact hx))).2 (h x (List.mem_cons_of_mem _ hx)))
    rw [List.length_erase_of_mem ha] at ih
    have := List.length_pos_of_mem ha
    rw [List.length_cons]; omega
/-- Different numbers below N are at most N. -/
theorem nodup_len {N : Nat} {l : List Nat} (hn : l.Nodup) (h : ∀ x ∈ l, x < N) : l.length ≤ N := by
  have := nodup_sub (m := List.range N) hn (fun x hx => List.mem_range.2 (h x hx))
  simpa using this
/-- Different numbers, as many as there are: all. -/
theorem nodup_all {N : Nat} {l : List Nat} (hn : l.Nodup) (h : ∀ x ∈ l, x < N) (hl : l.length = N) (x : Nat) (hx : x < N) : x ∈ l := by
  rcases Classical.em (x ∈ l) with h1 | h1
  · exact h1
  · have := nodup_len (N := N) (l := x :: l) (List.nodup_cons.2 ⟨h1, hn⟩) (fun y hy => by
      rcases List.mem_cons.1 hy with rfl | h2
      · exact hx
      · exact h y h2)
    rw [List.length_cons] at this; omega
theorem perm_of_mem {l m : List Nat} (hl : l.Nodup) (hm : m.Nodup) (h : ∀ x, x ∈ l ↔ x ∈ m) : l.Perm m := by
  induction l generalizing m with
  | nil =>
    cases m with
    | nil => exact .nil
    | cons b m => have := (h b).2 (List.mem_cons_self ..); cases this
  | cons a l ih =>
    have h2 := List.nodup_cons.1 hl
    have ha := (h a).1 (List.mem_cons_self ..)
    have hp := List.perm_cons_erase ha
    refine .trans (.cons a (ih h2.2 (List.Nodup.erase a hm) fun x => ?_)) hp.symm
    have hx := h x
    rw [List.mem_cons] at hx
    rw [List.Nodup.mem_erase_iff hm]
    constructor
    · intro h1; exact ⟨fun e => h2.1 (e ▸ h1), hx.1 (.inr h1)⟩
    · rintro ⟨h1, h3⟩
      rcases hx.2 h3 with h4 | h4
      · exact absurd h4 h1
      · exact h4

/-! ### the program's search -/
def seeB (s : List Bool × List Nat) (w : Nat) : List Bool × List Nat := if s.1.getD w false = true then s else (s.1.set w true, s.2 ++ [w])
/-- What holds of the marks and the list. -/
structure SeeI (N : Nat) (A : Arcs) (v : Nat) (s : List Bool × List Nat) : Prop where
  len : s.1.length = N
  mem : ∀ u, s.1.getD u false = true ↔ u ∈ s.2
  nodup : s.2.Nodup
  path : ∀ u ∈ s.2, Path A v u
  lt : ∀ u ∈ s.2, u < N
  start : v ∈ s.2
theorem SeeI.small {N : Nat} {A : Arcs} {v : Nat} {s : List Bool × List Nat} (h : SeeI N A v s) : s.2.length ≤ N := nodup_len h.nodup h.lt
theorem SeeI.see {N : Nat} {A : Arcs} {v : Nat} {s : List Bool × List Nat} (h : SeeI N A v s) {w : Nat} (hw : w < N) (hp : Path A v w) : SeeI N A v (seeB s w) := by
  unfold seeB
  split
  · exact h
  · rename_i hn
    have hni : w ∉ s.2 := fun hi => hn ((h.mem w).2 hi)
    refine ⟨by simpa using h.len, fun u => ?_, ?_, fun u hu => ?_, fun u hu => ?_, List.mem_append_left _ h.start⟩
    · rw [getD_set, List.mem_append, List.mem_singleton]
      by_cases e : w = u
      · subst e; rw [if_pos ⟨rfl, by rw [h.len]; exact hw⟩]; simp
      · rw [if_neg (fun x => e x.1), h.mem]
        constructor
        · exact .inl
        · rintro (x | x)
          · exact x
          · exact absurd x.symm e
    · rw [List.nodup_append]
      refine ⟨h.nodup, by simp, ?_⟩
      rintro a ha b hb rfl
      rw [List.mem_singleton] at hb; subst hb; exact hni ha
    · rcases List.mem_append.1 hu with hu | hu
      · exact h.path u hu
      · rw [List.mem_singleton] at hu; subst hu; exact hp
    · rcases List.mem_append.1 hu with hu | hu
      · exact h.lt u hu
      · rw [List.mem_singleton] at hu; subst hu; exact hw
theorem seeB_pre (s : List Bool × List Nat) (w : Nat) : ∃ t, (seeB s w).2 = s.2 ++ t := by
  unfold seeB; split
  · exact ⟨[], by simp⟩
  · exact ⟨[w], rfl⟩
theorem foldB_pre : ∀ (l : List Nat) (s : List Bool × List Nat), ∃ t, (l.foldl seeB s).2 = s.2 ++ t
  | [], s => ⟨[], by simp⟩
  | w :: l, s => by
    obtain ⟨t, ht⟩ := seeB_pre s w
    obtain ⟨u, hu⟩ := foldB_pre l (seeB s w)
    exact ⟨t ++ u, by rw [List.foldl_cons, hu, ht, List.append_assoc]⟩
theorem foldB_inv {N : Nat} {A : Arcs} {v : Nat} : ∀ (l : List Nat) (s : List Bool × List Nat), SeeI N A v s → (∀ w ∈ l, w < N ∧ Path A v w) → SeeI N A v (l.foldl seeB s)
  | [], _, h, _ => h
  | w :: l, s, h, hw => foldB_inv l (seeB s w) (h.see (hw w (List.mem_cons_self ..)).1 (hw w (List.mem_cons_self ..)).2) (fun x hx => hw x (List.mem_cons_of_mem _ hx))
theorem foldB_mem {N : Nat} {A : Arcs} {v : Nat} : ∀ (l : List Nat) (s : List Bool × List Nat), SeeI N A v s → (∀ w ∈ l, w < N ∧ Path A v w) → ∀ w ∈ l, w ∈ (l.foldl seeB s).2
  | [], _, _, _, w, h => by cases h
  | x :: l, s, h, hw, w, hx => by
    have hx0 := hw x (List.mem_cons_self ..)
    have h1 := h.see hx0.1 hx0.2
    rcases List.mem_cons.1 hx with rfl | hx
    · obtain ⟨t, ht⟩ := foldB_pre l (seeB s w)
      rw [List.foldl_cons, ht]
      refine List.mem_append_left _ ?_
      rw [← h1.mem]
      unfold seeB
      split
      · assumption
      · simp only; rw [getD_set, if_pos ⟨rfl, by rw [h.len]; exact hx0.1⟩]
    · exact foldB_mem l (seeB s x) h1 (fun y hy => hw y (List.mem_cons_of_mem _ hy)) w hx
theorem outs_path {N : Nat} {A : Arcs} (ok : Ok N A) {v x : Nat} (h : Path A v x) : ∀ w ∈ outs A x, w < N ∧ Path A v w := fun w hw => by
  have := mem_outs.1 hw
  exact ⟨(ok _ this).2, .step h this⟩
/-- .. with the heads of the first i entered. -/
structure BfsI (N : Nat) (A : Arcs) (v : Nat) (i : Nat) (s : List Bool × List Nat) : Prop extends SeeI N A v s where
  at_ : i ≤ s.2.length
  done : ∀ j, j < i → ∀ w ∈ outs A (s.2.getD j 0), w ∈ s.2
theorem BfsI.zero (N : Nat) (A : Arcs) {v : Nat} (hv : v < N) : BfsI N A v 0 (markN N v, [v]) := by
  refine ⟨⟨markN_len N v, fun u => ?_, by simp, fun u hu => ?_, fun u hu => ?_, by simp⟩, Nat.zero_le _, fun j hj => by omega⟩
  · show (markN N v).getD u false = true ↔ u ∈ [v]
    rw [markN_at, decide_eq_true_eq, List.mem_singleton]
    exact ⟨fun h => h.1.symm, fun h => ⟨h.symm, hv⟩⟩
  · have : u = v := by simpa using hu
    subst this; exact .refl _
  · have : u = v := by simpa using hu
    subst this; exact hv
theorem getD_mem {l : List Nat} {i : Nat} (h : i < l.length) : l.getD i 0 ∈ l := by
  rw [List.getD_eq_getElem?_getD, List.getElem?_eq_getElem h]; exact List.getElem_mem h
theorem getD_app {l t : List Nat} {i : Nat} (h : i < l.length) : (l ++ t).getD i 0 = l.getD i 0 := by
  rw [List.getD_eq_getElem?_getD, List.getD_eq_getElem?_getD, List.getElem?_append_left h]
theorem BfsI.next {N : Nat} {A : Arcs} (ok : Ok N A) {v i : Nat} {s : List Bool × List Nat} (h : BfsI N A v i s) (hi : i < s.2.length) : BfsI N A v (i + 1) ((outs A (s.2.getD i 0)).foldl seeB s) := by
  have hp := outs_path ok (h.path _ (getD_mem hi))
  obtain ⟨t, ht⟩ := foldB_pre (outs A (s.2.getD i 0)) s
  have hm := foldB_mem _ s h.toSeeI hp
  refine ⟨foldB_inv _ s h.toSeeI hp, ?_, fun j hj w hw => ?_⟩
  · rw [ht, List.length_append]; omega
  · rw [ht, getD_app (by omega)] at hw
    rcases Nat.lt_or_ge j i with h1 | h1
    · rw [ht]; exact List.mem_append_left _ (h.done j h1 w hw)
    · obtain rfl : j = i := by omega
      exact hm w hw
theorem BfsI.end {N : Nat} {A : Arcs} (ok : Ok N A) {v : Nat} {s : List Bool × List Nat} (h : BfsI N A v s.2.length s) (hv : v < N) (u : Nat) : u ∈ s.2 ↔ u ∈ reachT N A v := by
  rw [mem_reachT ok hv]
  constructor
  · exact h.path u
  · intro hp
    refine Path.closed (S := (· ∈ s.2)) (fun p hpa hs => ?_) hp h.start
    obtain ⟨j, hj, e⟩ := List.getElem_of_mem hs
    refine h.done j hj p.2 ?_
    rw [List.getD_eq_getElem?_getD, List.getElem?_eq_getElem hj, e]
    exact mem_outs.2 hpa
/-- The list, sorted, is the reached vertices. -/
theorem BfsI.sorted {N : Nat} {A : Arcs} (ok : Ok N A) {v : Nat} {s : List Bool × List Nat} (h : BfsI N A v s.2.length s) (hv : v < N) {l : List Nat} (hp : l.Perm s.2) (hs : l.Pairwise (· ≤ ·)) : l = reachT N A v :=
  asc_ext (nodup_le_asc hs (hp.symm.nodup h.nodup)) (reachT_asc N A v) (fun x => by rw [hp.mem_iff]; exact h.end ok hv x)
end Go.Proofs.Ytjjcjoedgmfalaa.Tp

/- Topological orders as plain lists: the vertex that is least among the free ones comes next; the number of open arcs; longest paths; no program in sight. -/
namespace Go.Proofs.Ytjjcjoedgmfalaa.Tp

/-- A vertex that is not in the list, and all arcs to it come from the list. -/
def freeB (A : Arcs) (done : List Nat) (v : Nat) : Bool := !done.contains v && A.all (fun p => !(p.2 == v) || done.contains p.1)
theorem freeB_iff {A : Arcs} {d : List Nat} {v : Nat} : freeB A d v = true ↔ v ∉ d ∧ ∀ u, (u, v) ∈ A → u ∈ d := by
  unfold freeB
  rw [Bool.and_eq_true, List.all_eq_true]
  constructor
  · rintro ⟨h1, h2⟩
    refine ⟨by simpa using h1, fun u hu => ?_⟩
    have := h2 _ hu
    simpa using this
  · rintro ⟨h1, h2⟩
    refine ⟨by simpa using h1, fun p hp => ?_⟩
    by_cases e : p.2 = v
    · have := h2 p.1 (by rw [← e]; exact hp)
      simp [this]
    · simp [e]
def leastF (N : Nat) (A : Arcs) (done : List Nat) : Option Nat := (List.range N).find? (freeB A done)
theorem leastF_some {N : Nat} {A : Arcs} {d : List Nat} {v : Nat} (hv : v < N) (hf : freeB A d v = true) (hm : ∀ u, u < v → freeB A d u = false) : leastF N A d = some v := by
  unfold leastF
  rw [List.find?_range_eq_some]
  exact ⟨hf, List.mem_range.2 hv, fun j hj => by simpa using hm j hj⟩
theorem leastF_none {N : Nat} {A : Arcs} {d : List Nat} : leastF N A d = none ↔ ∀ v, v < N → freeB A d v = false := by
  unfold leastF
  rw [List.find?_range_eq_none]
  exact ⟨fun h v hv => by simpa using h v hv, fun h v hv => by simpa using h v hv⟩
theorem leastF_spec {N : Nat} {A : Arcs} {d : List Nat} {v : Nat} (h : leastF N A d = some v) : v < N ∧ freeB A d v = true := by
  unfold leastF at h
  rw [List.find?_range_eq_some] at h
  exact ⟨List.mem_range.1 h.2.1, h.1⟩
def ordF (N : Nat) (A : Arcs) : Nat → List Nat → List Nat
  | 0, d => d
  | f + 1, d => match leastF N A d with | none => d | some v => ordF N A f (d ++ [v])
/-- As far as vertices are free. -/
def ordT (N : Nat) (A : Arcs) : List Nat := ordF N A N []
theorem ordF_none {N : Nat} {A : Arcs} {d : List Nat} (h : leastF N A d = none) : ∀ f, ordF N A f d = d
  | 0 => rfl
  | f + 1 => by rw [ordF, h]
theorem ordF_some {N : Nat} {A : Arcs} {d : List Nat} {v : Nat} (h : leastF N A d = some v) (f : Nat) : ordF N A (f + 1) d = ordF N A f (d ++ [v]) := by rw [ordF, h]

/-- What holds of every list that has come about so. -/
structure OrdI (N : Nat) (A : Arcs) (d : List Nat) : Prop where
  nodup : d.Nodup
  lt : ∀ x ∈ d, x < N
  pre : ∀ a b l, d = a ++ b :: l → ∀ u, (u, b) ∈ A → u ∈ a
  eq : ordF N A (N - d.length) d = ordT N A
theorem OrdI.nil (N : Nat) (A : Arcs) : OrdI N A [] := ⟨.nil, by simp, fun a b l h => by simp at h, rfl⟩
theorem OrdI.small {N : Nat} {A : Arcs} {d : List Nat} (h : OrdI N A d) : d.length ≤ N := nodup_len h.nodup h.lt
theorem nodup_snoc {l : List Nat} {x : Nat} (h : l.Nodup) (hx : x ∉ l) : (l ++ [x]).Nodup := by
  rw [List.nodup_append]
  refine ⟨h, by simp, ?_⟩
  rintro a ha b hb rfl
  rw [List.mem_singleton] at hb; subst hb; exact hx ha
theorem OrdI.snoc {N : Nat} {A : Arcs} {d : List Nat} (h : OrdI N A d) {v : Nat} (hv : leastF N A d = some v) : OrdI N A (d ++ [v]) ∧ d.length < N := by
  obtain ⟨hlt, hf⟩ := leastF_spec hv
  have hf' := freeB_iff.1 hf
  have hn := nodup_snoc h.nodup hf'.1
  have hl : ∀ x ∈ d ++ [v], x < N := fun x hx => by
    rcases List.mem_append.1 hx with hx | hx
    · exact h.lt x hx
    · rw [List.mem_singleton] at hx; subst hx; exact hlt
  have hlen := nodup_len hn hl
  rw [List.length_append, List.length_singleton] at hlen
  refine ⟨⟨hn, hl, fun a b l e u hu => ?_, ?_⟩, by omega⟩
  · rcases List.eq_nil_or_concat l with rfl | ⟨l', x, rfl⟩
    · have e2 := List.append_inj' e rfl
      have : b = v := by simpa using e2.2.symm
      subst this
      rw [← e2.1]; exact hf'.2 u hu
    · have e' : d ++ [v] = (a ++ b :: l') ++ [x] := by rw [e]; simp
      have e2 := List.append_inj' e' rfl
      exact h.pre a b l' e2.1 u hu
  · rw [← h.eq, show N - d.length = (N - (d ++ [v]).length) + 1 by rw [List.length_append, List.length_singleton]; omega, ordF_some hv]
theorem OrdI.stop {N : Nat} {A : Arcs} {d : List Nat} (h : OrdI N A d) (hv : leastF N A d = none) : d = ordT N A := by
  rw [← h.eq, ordF_none hv]
theorem ordT_inv (N : Nat) (A : Arcs) : OrdI N A (ordT N A) ∧ leastF N A (ordT N A) = none := by
  have : ∀ f d, OrdI N A d → N ≤ d.length + f → OrdI N A (ordF N A f d) ∧ leastF N A (ordF N A f d) = none := by
    intro f
    induction f with
    | zero =>
      intro d h hf
      refine ⟨h, leastF_none.2 fun v hv => ?_⟩
      have := nodup_all h.nodup h.lt (Nat.le_antisymm h.small hf) v hv
      cases e : freeB A d v with
      | false => exact e
      | true => exact absurd this (freeB_iff.1 e).1
    | succ f ih =>
      intro d h hf
      cases e : leastF N A d with
      | none => rw [ordF_none e]; exact ⟨h, e⟩
      | some v =>
        rw [ordF_some e]
        exact ih _ (h.snoc e).1 (by rw [List.length_append, List.length_singleton]; omega)
  exact this N [] (OrdI.nil N A) (by simp)

/-! ### the number of open arcs -/
def openN (A : Arcs) (d : List Nat) (w : Nat) : Nat := (A.filter (fun p => p.2 == w && !d.contains p.1)).length
theorem openN_zero {A : Arcs} {d : List Nat} {w : Nat} : openN A d w = 0 ↔ ∀ u, (u, w) ∈ A → u ∈ d := by
  unfold openN
  rw [List.length_eq_zero_iff, List.filter_eq_nil_iff]
  constructor
  · intro h u hu
    have := h (u, w) hu
    simpa using this
  · rintro h ⟨u, x⟩ hp
    by_cases e : x = w
    · subst e; have := h u hp; simp [this]
    · simp [e]
theorem openN_free {A : Arcs} {d : List Nat} {w : Nat} : freeB A d w = true ↔ w ∉ d ∧ openN A d w = 0 := by rw [freeB_iff, openN_zero]
theorem openN_snoc (d : List Nat) (v w : Nat) (hv : v ∉ d) : ∀ (A : Arcs), openN A d w = openN A (d ++ [v]) w + (outs A v).count w
  | [] => rfl
  | p :: A => by
    have ih := openN_snoc d v w hv A
    unfold openN outs at *
    obtain ⟨a, b⟩ := p
    by_cases h1 : b = w
    · subst h1
      by_cases h2 : a = v
      · subst h2; simp [hv] at *; omega
      · by_cases h3 : a ∈ d
        · simp [h2, h3] at *; omega
        · simp [h2, h3] at *; omega
    · by_cases h2 : a = v
      · subst h2; simp [h1] at *; omega
      · simp [h1, h2] at *; omega
theorem openN_le (A : Arcs) (d : List Nat) (w : Nat) : openN A d w ≤ A.length := List.length_filter_le _ _
/-- The counts after the first arcs. -/
def inN (A : Arcs) (w : Nat) : Nat := (A.filter (fun p => p.2 == w)).length
theorem inN_open (A : Arcs) (w : Nat) : inN A w = openN A [] w := by
  unfold inN openN; congr 1; apply List.filter_congr; intro p _; simp
theorem inN_snoc (A : Arcs) (p : Nat × Nat) (w : Nat) : inN (A ++ [p]) w = inN A w + (if p.2 = w then 1 else 0) := by
  unfold inN
  rw [List.filter_append, List.length_append]
  by_cases h : p.2 = w
  · simp [h]
  · simp [h]

/-! ### the heap's content -/
/-- The numbers that are written down: one less for each head. -/
def stepO (s : List Nat × List Nat) (w : Nat) : List Nat × List Nat :=
  let o := s.1.set w (s.1.getD w 0 - 1)
  if o.getD w 0 = 0 then (o, s.2 ++ [w]) else (o, s.2)
/-- The rows open at a list of the vertices that are done. -/
structure OpenI (N : Nat) (A : Arcs) (d : List Nat) (v : Nat) (ws : List Nat) (s : List Nat × List Nat) : Prop where
  len : s.1.length = N
  cnt : ∀ w, w < N → s.1.getD w 0 + ws.count w = openN A d w
  nodup : s.2.Nodup
  mem : ∀ w, w ∈ s.2 ↔ w ∈ ws ∧ s.1.getD w 0 = 0
theorem OpenI.step {N : Nat} {A : Arcs} {d : List Nat} {v : Nat} {ws : List Nat} {s : List Nat × List Nat} (h : OpenI N A d v ws s) {w : Nat} (hw : w < N) (hc : (ws ++ [w]).count w ≤ openN A d w) : OpenI N A d v (ws ++ [w]) (stepO s w) := by
  have hcw := h.cnt w hw
  rw [List.count_append, List.count_singleton_self] at hc
  have hpos : 0 < s.1.getD w 0 := by omega
  have hat : ∀ x, (s.1.set w (s.1.getD w 0 - 1)).getD x 0 = if w = x then s.1.getD w 0 - 1 else s.1.getD x 0 := fun x => by
    rw [getD_set, h.len]
    by_cases e : w = x
    · subst e; rw [if_pos ⟨rfl, hw⟩, if_pos rfl]
    · rw [if_neg (fun y => e y.1), if_neg e]
  have hnw : w ∉ s.2 := fun hm => by have := ((h.mem w).1 hm).2; omega
  have hcnt : ∀ x, x < N → (s.1.set w (s.1.getD w 0 - 1)).getD x 0 + (ws ++ [w]).count x = openN A d x := fun x hx => by
    rw [hat, List.count_append]
    by_cases e : w = x
    · subst e; rw [if_pos rfl, List.count_singleton_self]; omega
    · rw [if_neg e]
      have : ([w] : List Nat).count x = 0 := List.count_eq_zero.2 (by simp; exact fun y => e y.symm)
      rw [this]; exact h.cnt x hx
  unfold stepO
  simp only
  rw [hat w, if_pos rfl]
  split
  · rename_i hz
    refine ⟨by simpa using h.len, hcnt, nodup_snoc h.nodup hnw, fun x => ?_⟩
    simp only
    rw [hat x, List.mem_append, List.mem_append, List.mem_singleton, h.mem]
    by_cases e : w = x
    · subst e; rw [if_pos rfl]; exact ⟨fun _ => ⟨.inr rfl, hz⟩, fun _ => .inr rfl⟩
    · rw [if_neg e]
      have : x ≠ w := fun y => e y.symm
      simp [this]
  · rename_i hz
    refine ⟨by simpa using h.len, hcnt, h.nodup, fun x => ?_⟩
    simp only
    rw [hat x, List.mem_append, List.mem_singleton, h.mem]
    by_cases e : w = x
    · subst e; rw [if_pos rfl]
      constructor
      · intro hh; omega
      · intro hh; omega
    · rw [if_neg e]
      have : x ≠ w := fun y => e y.symm
      simp [this]
/-- What lies in the heap between two rounds: the free vertices. -/
def ready (N : Nat) (A : Arcs) (d : List Nat) : List Nat := (List.range N).filter (freeB A d)
theorem ready_nodup (N : Nat) (A : Arcs) (d : List Nat) : (ready N A d).Nodup := List.nodup_range.filter _
theorem mem_ready {N : Nat} {A : Arcs} {d : List Nat} {v : Nat} : v ∈ ready N A d ↔ v < N ∧ freeB A d v = true := by
  unfold ready; rw [List.mem_filter, List.mem_range]
theorem ready_least {N : Nat} {A : Arcs} {d : List Nat} {v : Nat} (hm : v ∈ ready N A d) (hl : ∀ u ∈ ready N A d, v ≤ u) : leastF N A d = some v := by
  obtain ⟨h1, h2⟩ := mem_ready.1 hm
  refine leastF_some h1 h2 fun u hu => ?_
  cases e : freeB A d u with
  | false => rfl
  | true => have := hl u (mem_ready.2 ⟨by omega, e⟩); omega
theorem ready_nil {N : Nat} {A : Arcs} {d : List Nat} (h : ready N A d = []) : leastF N A d = none := by
  rw [leastF_none]
  intro v hv
  cases e : freeB A d v with
  | false => rfl
  | true => have := mem_ready.2 ⟨hv, e⟩; rw [h] at this; cases this
/-- Behind a round the heap holds what is free then. -/
theorem OpenI.ready {N : Nat} {A : Arcs} (ok : Ok N A) {d : List Nat} {v : Nat} {s : List Nat × List Nat} (h : OpenI N A d v (outs A v) s) (ho : OrdI N A d) (hv : leastF N A d = some v) {q : List Nat}
    (hq : (v :: q).Perm (Tp.ready N A d)) : (q ++ s.2).Perm (Tp.ready N A (d ++ [v])) := by
  have hf := freeB_iff.1 (leastF_spec hv).2
  have hqn : (v :: q).Nodup := hq.symm.nodup (ready_nodup N A d)
  have hmem : ∀ x, x ∈ v :: q ↔ x ∈ Tp.ready N A d := fun x => hq.mem_iff
  have hzero : ∀ x, x < N → (s.1.getD x 0 = 0 ↔ openN A (d ++ [v]) x = 0) := fun x hx => by
    have h1 := h.cnt x hx
    have h2 := openN_snoc d v x hf.1 A
    omega
  have hlt : ∀ x ∈ outs A v, x < N := fun x hx => (ok _ (mem_outs.1 hx)).2
  have hqs : ∀ x ∈ q, x ∉ s.2 := fun x hx hxs => by
    have h1 := (h.mem x).1 hxs
    have h2 := (freeB_iff.1 (mem_ready.1 ((hmem x).1 (List.mem_cons_of_mem _ hx))).2).2 v (mem_outs.1 h1.1)
    exact hf.1 h2
  refine perm_of_mem ?_ (ready_nodup _ _ _) fun x => ?_
  · rw [List.nodup_append]
    refine ⟨(List.nodup_cons.1 hqn).2, h.nodup, ?_⟩
    rintro a ha b hb rfl
    exact hqs a ha hb
  · rw [List.mem_append, mem_ready, openN_free, List.mem_append, List.mem_singleton]
    constructor
    · rintro (hx | hx)
      · have h1 := mem_ready.1 ((hmem x).1 (List.mem_cons_of_mem _ hx))
        have h2 := openN_free.1 h1.2
        have h3 := openN_snoc d v x hf.1 A
        refine ⟨h1.1, fun e => ?_, by omega⟩
        rcases e with e | rfl
        · exact h2.1 e
        · exact (List.nodup_cons.1 hqn).1 hx
      · have h1 := (h.mem x).1 hx
        have hxn := hlt x h1.1
        refine ⟨hxn, fun e => ?_, (hzero x hxn).1 h1.2⟩
        have ha := mem_outs.1 h1.1
        rcases e with e | rfl
        · obtain ⟨a, l, e⟩ := List.append_of_mem e
          have := ho.pre a x l e v ha
          exact hf.1 (by rw [e]; exact List.mem_append_left _ this)
        · exact hf.1 (hf.2 x ha)
    · rintro ⟨hx, hn, hz⟩
      by_cases ho : x ∈ outs A v
      · exact .inr ((h.mem x).2 ⟨ho, (hzero x hx).2 hz⟩)
      · left
        have h3 := openN_snoc d v x hf.1 A
        rw [List.count_eq_zero.2 ho] at h3
        have : x ∈ v :: q := (hmem x).2 (mem_ready.2 ⟨hx, openN_free.2 ⟨fun e => hn (.inl e), by omega⟩⟩)
        rcases List.mem_cons.1 this with rfl | h4
        · exact absurd (.inr rfl) hn
        · exact h4
theorem OpenI.zero {N : Nat} {A : Arcs} {d : List Nat} {v : Nat} {o : List Nat} (hl : o.length = N) (h : ∀ w, w < N → o.getD w 0 = openN A d w) : OpenI N A d v [] (o, []) :=
  ⟨hl, fun w hw => by rw [h w hw]; simp, .nil, fun w => by simp⟩

/-! ### longest paths -/
/-- The program's round: the heads of v. -/
def pushS (v : Nat) (d : List Int) (w : Nat) : List Int := d.set w (max (d.getD w 0) (d.getD v 0 + 1))
def pushL (A : Arcs) (d : List Int) (v : Nat) : List Int := (outs A v).foldl (pushS v) d
/-- The document's round: the arcs to v. -/
def pullS (v : Nat) (d : List Int) (p : Nat × Nat) : List Int := if p.2 = v then d.set v (max (d.getD v 0) (d.getD p.1 0 + 1)) else d
def pullL (A : Arcs) (d : List Int) (v : Nat) : List Int := A.foldl (pullS v) d
def longP (N : Nat) (A : Arcs) (o : List Nat) : List Int := o.foldl (pushL A) (List.replicate N 0)
def longR (N : Nat) (A : Arcs) (o : List Nat) : List Int := o.foldl (pullL A) (List.replicate N 0)
/-- Every number is small. -/
def Bd (b : Nat) (d : List Int) : Prop := ∀ i, 0 ≤ d.getD i 0 ∧ d.getD i 0 ≤ b
theorem Bd.zero (N : Nat) : Bd 0 (List.replicate N 0) := fun i => by
  rw [List.getD_eq_getElem?_getD, List.getElem?_replicate]
  split <;> simp
theorem Bd.set {b : Nat} {d : List Int} (h : Bd b d) (w u v : Nat) : Bd (b + 1) (d.set w (max (d.getD u 0) (d.getD v 0 + 1))) := fun i => by
  rw [getD_set]
  have h1 := h u; have h2 := h v; have h3 := h i
  split <;> omega
theorem Bd.mono {b c : Nat} {d : List Int} (h : Bd b d) (hc : b ≤ c) : Bd c d := fun i => by have := h i; omega
theorem pushS_bd {b : Nat} {d : List Int} (h : Bd b d) (v w : Nat) : Bd (b + 1) (pushS v d w) := h.set w w v
theorem pullS_bd {b : Nat} {d : List Int} (h : Bd b d) (v : Nat) (p : Nat × Nat) : Bd (b + 1) (pullS v d p) := by
  unfold pullS; split
  · exact h.set v v p.1
  · exact h.mono (by omega)
theorem pushL_bd (v : Nat) : ∀ (l : List Nat) {b : Nat} {d : List Int}, Bd b d → Bd (b + l.length) (l.foldl (pushS v) d)
  | [], _, _, h => h
  | w :: l, b, d, h => by have := pushL_bd v l (pushS_bd h v w); rw [List.length_cons, show b + (l.length + 1) = b + 1 + l.length by omega]; exact this
theorem pullL_bd (v : Nat) : ∀ (l : Arcs) {b : Nat} {d : List Int}, Bd b d → Bd (b + l.length) (l.foldl (pullS v) d)
  | [], _, _, h => h
  | w :: l, b, d, h => by have := pullL_bd v l (pullS_bd h v w); rw [List.length_cons, show b + (l.length + 1) = b + 1 + l.length by omega]; exact this
theorem longP_bd (A : Arcs) : ∀ (o : List Nat) {b : Nat} {d : List Int}, Bd b d → Bd (b + o.length * A.length) (o.foldl (pushL A) d)
  | [], _, _, h => by simpa using h
  | v :: o, b, d, h => by
    have h1 := pushL_bd v (outs A v) h
    have h2 := longP_bd A o (d := pushL A d v) (h1.mono (Nat.add_le_add_left (outs_len_le A v) b))
    rw [List.length_cons, Nat.add_mul, Nat.one_mul, show b + (o.length * A.length + A.length) = b + A.length + o.length * A.length by omega]
    exact h2
theorem longR_bd (A : Arcs) : ∀ (o : List Nat) {b : Nat} {d : List Int}, Bd b d → Bd (b + o.length * A.length) (o.foldl (pullL A) d)
  | [], _, _, h => by simpa using h
  | v :: o, b, d, h => by
    have h2 := longR_bd A o (d := pullL A d v) (pullL_bd v A h)
    rw [List.length_cons, Nat.add_mul, Nat.one_mul, show b + (o.length * A.length + A.length) = b + A.length + o.length * A.length by omega]
    exact h2
theorem pushS_len (v : Nat) (d : List Int) (w : Nat) : (pushS v d w).length = d.length := by simp [pushS]
theorem pullS_len (v : Nat) (d : List Int) (p : Nat × Nat) : (pullS v d p).length = d.length := by unfold pullS; split <;> simp
theorem pushF_len (v : Nat) : ∀ (l : List Nat) (d : List Int), (l.foldl (pushS v) d).length = d.length
  | [], _ => rfl
  | w :: l, d => by rw [List.foldl_cons, pushF_len v l, pushS_len]
theorem pullF_len (v : Nat) : ∀ (l : Arcs) (d : List Int), (l.foldl (pullS v) d).length = d.length
  | [], _ => rfl
  | w :: l, d => by rw [List.foldl_cons, pullF_len v l, pullS_len]
theorem longP_len (A : Arcs) : ∀ (o : List Nat) (d : List Int), (o.foldl (pushL A) d).length = d.length
  | [], _ => rfl
  | v :: o, d => by rw [List.foldl_cons, longP_len A o]; exact pushF_len v _ d
theorem longR_len (A : Arcs) : ∀ (o : List Nat) (d : List Int), (o.foldl (pullL A) d).length = d.length
  | [], _ => rfl
  | v :: o, d => by rw [List.foldl_cons, longR_len A o]; exact pullF_len v _ d
/-- d tells the longest paths over the arcs that come from S. -/
structure LongI (N : Nat) (A : Arcs) (S : Nat → Prop) (d : List Int) : Prop where
  len : d.length = N
  nn : ∀ w, 0 ≤ d.getD w 0
  up : ∀ u w, (u, w) ∈ A → S u → d.getD u 0 + 1 ≤ d.getD w 0
  tight : ∀ w, w < N → d.getD w 0 = 0 ∨ ∃ u, (u, w) ∈ A ∧ S u ∧ d.getD w 0 = d.getD u 0 + 1
theorem getD_rep (N i : Nat) : (List.replicate N (0 : Int)).getD i 0 = 0 := by
  rw [List.getD_eq_getElem?_getD, List.getElem?_replicate]; split <;> rfl
/-- What a fold of the heads leaves. -/
theorem pushF_at (v : Nat) : ∀ (l : List Nat) (d : List Int), v ∉ l → (∀ w ∈ l, w < d.length) → ∀ w, (l.foldl (pushS v) d).getD w 0 = if w ∈ l then max (d.getD w 0) (d.getD v 0 + 1) else d.getD w 0
  | [], d, _, _, w => by simp
  | x :: l, d, hv, hl, w => by
    rw [List.mem_cons, not_or] at hv
    have hx := hl x (List.mem_cons_self ..)
    rw [List.foldl_cons, pushF_at v l (pushS v d x) hv.2 (fun y hy => by rw [pushS_len]; exact hl y (List.mem_cons_of_mem _ hy)) w]
    have e : ∀ y, (pushS v d x).getD y 0 = if x = y then max (d.getD x 0) (d.getD v 0 + 1) else d.getD y 0 := fun y => by
      unfold pushS; rw [getD_set]
      by_cases h : x = y
      · rw [if_pos ⟨h, hx⟩, if_pos h]
      · rw [if_neg (fun z => h z.1), if_neg h]
    rw [e w, e v, if_neg (fun h : x = v => hv.1 h.symm)]
    by_cases h1 : w ∈ l
    · rw [if_pos h1, if_pos (List.mem_cons_of_mem _ h1)]
      by_cases h2 : x = w
      · subst h2; rw [if_pos rfl]; omega
      · rw [if_neg h2]
    · rw [if_neg h1]
      by_cases h2 : x = w
      · subst h2; rw [if_pos rfl, if_pos (List.mem_cons_self ..)]
      · rw [if_neg h2, if_neg (fun h => (List.mem_cons.1 h).elim (fun z => h2 z.symm) h1)]
theorem LongI.push {N : Nat} {A : Arcs} (ok : Ok N A) {a : List Nat} {v : Nat} {d : List Int} (h : LongI N A (· ∈ a) d) (hv : v < N) (hn : v ∉ a) (hp : ∀ u, (u, v) ∈ A → u ∈ a) (ha : ∀ x ∈ a, ∀ u, (u, x) ∈ A → u ∈ a) :
    LongI N A (· ∈ a ++ [v]) (pushL A d v) := by
  have hnv : v ∉ outs A v := fun hm => hn (hp v (mem_outs.1 hm))
  have hat := pushF_at v (outs A v) d hnv (fun w hw => by rw [h.len]; exact (ok _ (mem_outs.1 hw)).2)
  have hold : ∀ x, x ∈ a ++ [v] → (pushL A d v).getD x 0 = d.getD x 0 := fun x hx => by
    unfold pushL; rw [hat x, if_neg]
    intro hm
    rcases List.mem_append.1 hx with hx | hx
    · exact hn (ha x hx v (mem_outs.1 hm))
    · rw [List.mem_singleton] at hx; subst hx; exact hnv hm
  refine ⟨by unfold pushL; rw [pushF_len, h.len], fun w => ?_, fun u w hu hs => ?_, fun w hw => ?_⟩
  · have := h.nn w; have := h.nn v
    unfold pushL; rw [hat w]; split <;> omega
  · rw [hold u hs]
    have hge : d.getD w 0 ≤ (pushL A d v).getD w 0 := by unfold pushL; rw [hat w]; split <;> omega
    rcases List.mem_append.1 hs with hs | hs
    · have := h.up u w hu hs; omega
    · rw [List.mem_singleton] at hs; subst hs
      unfold pushL; rw [hat w, if_pos (mem_outs.2 hu)]; omega
  · rcases h.tight w hw with h0 | ⟨u, h1, h2, h3⟩
    · by_cases hm : w ∈ outs A v
      · right
        refine ⟨v, mem_outs.1 hm, List.mem_append_right _ (List.mem_singleton.2 rfl), ?_⟩
        rw [hold v (List.mem_append_right _ (List.mem_singleton.2 rfl))]
        have := h.nn v
        unfold pushL; rw [hat w, if_pos hm]; omega
      · left; unfold pushL; rw [hat w, if_neg hm]; exact h0
    · right
      by_cases hm : w ∈ outs A v
      · by_cases hc : d.getD v 0 + 1 ≤ d.getD w 0
        · refine ⟨u, h1, List.mem_append_left _ h2, ?_⟩
          rw [hold u (List.mem_append_left _ h2)]
          unfold pushL; rw [hat w, if_pos hm]; omega
        · refine ⟨v, mem_outs.1 hm, List.mem_append_right _ (List.mem_singleton.2 rfl), ?_⟩
          rw [hold v (List.mem_append_right _ (List.mem_singleton.2 rfl))]
          unfold pushL; rw [hat w, if_pos hm]; omega
      · refine ⟨u, h1, List.mem_append_left _ h2, ?_⟩
        rw [hold u (List.mem_append_left _ h2)]
        unfold pushL; rw [hat w, if_neg hm]; omega
theorem longP_inv {N : Nat} {A : Arcs} (ok : Ok N A) (o : List Nat) (ho : OrdI N A o) : LongI N A (· ∈ o) (longP N A o) := by
  have : ∀ (b a : List Nat) (d : List Int), a ++ b = o → LongI N A (· ∈ a) d → LongI N A (· ∈ o) (b.foldl (pushL A) d) := by
    intro b
    induction b with
    | nil => intro a d e h; rw [List.append_nil] at e; subst e; exact h
    | cons v b ih =>
      intro a d e h
      have hn : v ∉ a := fun hm => by
        have := ho.nodup; rw [← e, List.nodup_append] at this
        exact this.2.2 v hm v (List.mem_cons_self ..) rfl
      refine ih (a ++ [v]) _ (by rw [List.append_assoc]; exact e) (h.push ok (ho.lt v (by rw [← e]; simp)) hn (ho.pre a v b e.symm) fun x hx u hu => ?_)
      obtain ⟨s, t, e2⟩ := List.append_of_mem hx
      have := ho.pre s x (t ++ v :: b) (by rw [← e, e2]; simp) u hu
      rw [e2]; exact List.mem_append_left _ this
  refine this o [] _ rfl ⟨by simp, fun w => by rw [getD_rep]; exact Int.le_refl _, fun u w _ hs => (by cases hs), fun w _ => .inl (getD_rep N w)⟩
theorem pullF_at (v : Nat) : ∀ (l : Arcs) (d : List Int), v < d.length → (∀ u, (u, v) ∈ l → u ≠ v) →
    (∀ w, w ≠ v → (l.foldl (pullS v) d).getD w 0 = d.getD w 0) ∧ d.getD v 0 ≤ (l.foldl (pullS v) d).getD v 0 ∧ (∀ u, (u, v) ∈ l → d.getD u 0 + 1 ≤ (l.foldl (pullS v) d).getD v 0) ∧
      ((l.foldl (pullS v) d).getD v 0 = d.getD v 0 ∨ ∃ u, (u, v) ∈ l ∧ (l.foldl (pullS v) d).getD v 0 = d.getD u 0 + 1)
  | [], d, _, _ => ⟨fun _ _ => rfl, Int.le_refl _, fun u h => (by cases h), .inl rfl⟩
  | p :: l, d, hl, hn => by
    have ih := pullF_at v l (pullS v d p) (by rw [pullS_len]; exact hl) (fun u hu => hn u (List.mem_cons_of_mem _ hu))
    rw [List.foldl_cons]
    by_cases h : p.2 = v
    · have e : pullS v d p = d.set v (max (d.getD v 0) (d.getD p.1 0 + 1)) := by unfold pullS; rw [if_pos h]
      have hne : p.1 ≠ v := hn p.1 (by rw [← h]; exact List.mem_cons_self ..)
      have ev : (pullS v d p).getD v 0 = max (d.getD v 0) (d.getD p.1 0 + 1) := by rw [e, getD_set, if_pos ⟨rfl, hl⟩]
      have ew : ∀ w, w ≠ v → (pullS v d p).getD w 0 = d.getD w 0 := fun w hw => by rw [e, getD_set, if_neg (fun z => hw z.1.symm)]
      rw [ev] at ih
      refine ⟨fun w hw => by rw [ih.1 w hw, ew w hw], by have := ih.2.1; omega, fun u hu => ?_, ?_⟩
      · rcases List.mem_cons.1 hu with e2 | hu
        · subst e2
          have := ih.2.1
          simp only at this ⊢; omega
        · have := ih.2.2.1 u hu
          rw [ew u (hn u (List.mem_cons_of_mem _ hu))] at this; exact this
      · rcases ih.2.2.2 with h1 | ⟨u, h1, h2⟩
        · by_cases hc : d.getD p.1 0 + 1 ≤ d.getD v 0
          · left; omega
          · right; exact ⟨p.1, by rw [← h]; exact List.mem_cons_self .., by omega⟩
        · right
          exact ⟨u, List.mem_cons_of_mem _ h1, by rw [h2, ew u (hn u (List.mem_cons_of_mem _ h1))]⟩
    · have e : pullS v d p = d := by unfold pullS; rw [if_neg h]
      rw [e] at ih ⊢
      refine ⟨ih.1, ih.2.1, fun u hu => ?_, ?_⟩
      · rcases List.mem_cons.1 hu with e2 | hu
        · exact absurd (by rw [← e2]) h
        · exact ih.2.2.1 u hu
      · rcases ih.2.2.2 with h1 | ⟨u, h1, h2⟩
        · exact .inl h1
        · exact .inr ⟨u, List.mem_cons_of_mem _ h1, h2⟩
/-- The document's numbers: right at the vertices that are done, naught at the others. -/
structure PullI (N : Nat) (A : Arcs) (a : List Nat) (d : List Int) : Prop where
  len : d.length = N
  nn : ∀ w, 0 ≤ d.getD w 0
  zero : ∀ w, w ∉ a → d.getD w 0 = 0
  up : ∀ u w, (u, w) ∈ A → w ∈ a → d.getD u 0 + 1 ≤ d.getD w 0
  tight : ∀ w, w ∈ a → d.getD w 0 = 0 ∨ ∃ u, (u, w) ∈ A ∧ d.getD w 0 = d.getD u 0 + 1
theorem longR_inv {N : Nat} {A : Arcs} (o : List Nat) (ho : OrdI N A o) : PullI N A o (longR N A o) := by
  have : ∀ (b a : List Nat) (d : List Int), a ++ b = o → PullI N A a d → PullI N A o (b.foldl (pullL A) d) := by
    intro b
    induction b with
    | nil => intro a d e h; rw [List.append_nil] at e; subst e; exact h
    | cons v b ih =>
      intro a d e h
      have hn : v ∉ a := fun hm => by
        have := ho.nodup; rw [← e, List.nodup_append] at this
        exact this.2.2 v hm v (List.mem_cons_self ..) rfl
      have hp := ho.pre a v b e.symm
      have ha : ∀ x ∈ a, ∀ u, (u, x) ∈ A → u ∈ a := fun x hx u hu => by
        obtain ⟨s, t, e2⟩ := List.append_of_mem hx
        have := ho.pre s x (t ++ v :: b) (by rw [← e, e2]; simp) u hu
        rw [e2]; exact List.mem_append_left _ this
      have hvN := ho.lt v (by rw [← e]; simp)
      obtain ⟨h1, h2, h3, h4⟩ := pullF_at v A d (by rw [h.len]; exact hvN) (fun u hu e3 => hn (by rw [← e3]; exact hp u hu))
      have hne : ∀ x ∈ a, x ≠ v := fun x hx e3 => hn (by rw [← e3]; exact hx)
      refine ih (a ++ [v]) _ (by rw [List.append_assoc]; exact e) ⟨by unfold pullL; rw [pullF_len, h.len], fun w => ?_, fun w hw => ?_, fun u w hu hw => ?_, fun w hw => ?_⟩
      · by_cases hw : w = v
        · subst hw; have := h.nn w; show 0 ≤ (A.foldl (pullS w) d).getD w 0; omega
        · show 0 ≤ (A.foldl (pullS v) d).getD w 0; rw [h1 w hw]; exact h.nn w
      · rw [List.mem_append, List.mem_singleton, not_or] at hw
        show (A.foldl (pullS v) d).getD w 0 = 0
        rw [h1 w hw.2]; exact h.zero w hw.1
      · show (A.foldl (pullS v) d).getD u 0 + 1 ≤ (A.foldl (pullS v) d).getD w 0
        rcases List.mem_append.1 hw with hw | hw
        · rw [h1 u (hne u (ha w hw u hu)), h1 w (hne w hw)]; exact h.up u w hu hw
        · rw [List.mem_singleton] at hw; subst hw
          rw [h1 u (hne u (hp u hu))]; exact h3 u hu
      · show (A.foldl (pullS v) d).getD w 0 = 0 ∨ ∃ u, (u, w) ∈ A ∧ (A.foldl (pullS v) d).getD w 0 = (A.foldl (pullS v) d).getD u 0 + 1
        rcases List.mem_append.1 hw with hw | hw
        · rw [h1 w (hne w hw)]
          rcases h.tight w hw with h5 | ⟨u, h5, h6⟩
          · exact .inl h5
          · exact .inr ⟨u, h5, by rw [h1 u (hne u (ha w hw u h5))]; exact h6⟩
        · rw [List.mem_singleton] at hw; subst hw
          rcases h4 with h5 | ⟨u, h5, h6⟩
          · left; rw [h5]; exact h.zero w hn
          · exact .inr ⟨u, h5, by rw [h1 u (hne u (hp u h5))]; exact h6⟩
  exact this o [] _ rfl ⟨by simp, fun w => by rw [getD_rep]; exact Int.le_refl _, fun w _ => getD_rep N w, fun u w _ hs => (by cases hs), fun w hw => (by cases hw)⟩
/-- Both are one where every vertex is in the order. -/
theorem long_same {N : Nat} {A : Arcs} (ok : Ok N A) (o : List Nat) (ho : OrdI N A o) (hall : o.length = N) : longP N A o = longR N A o := by
  have hp := longP_inv ok o ho
  have hr := longR_inv o ho
  have hm : ∀ x, x < N → x ∈ o := nodup_all ho.nodup ho.lt hall
  have key : ∀ (n : Nat) (a b : List Nat) (x : Nat), a ++ x :: b = o → a.length < n → (longP N A o).getD x 0 = (longR N A o).getD x 0 := by
    intro n
    induction n with
    | zero => intro a b x _ h; exact absurd h (by omega)
    | succ n ih =>
      intro a b x e hl
      have hpre := ho.pre a x b e.symm
      have hxo : x ∈ o := by rw [← e]; simp
      have hxN := ho.lt x hxo
      have ih' : ∀ u ∈ a, (longP N A o).getD u 0 = (longR N A o).getD u 0 := fun u hu => by
        obtain ⟨s, t, e2⟩ := List.append_of_mem hu
        refine ih s (t ++ x :: b) u (by rw [← e, e2]; simp) ?_
        rw [e2, List.length_append, List.length_cons] at hl; omega
      have a1 : (longP N A o).getD x 0 ≤ (longR N A o).getD x 0 := by
        rcases hp.tight x hxN with h | ⟨u, h1, _, h3⟩
        · rw [h]; exact hr.nn x
        · rw [h3, ih' u (hpre u h1)]; exact hr.up u x h1 hxo
      have a2 : (longR N A o).getD x 0 ≤ (longP N A o).getD x 0 := by
        rcases hr.tight x hxo with h | ⟨u, h1, h3⟩
        · rw [h]; exact hp.nn x
        · rw [h3, ← ih' u (hpre u h1)]; exact hp.up u x h1 (hm u (ok _ h1).1)
      exact Int.le_antisymm a1 a2
  refine List.ext_getElem (by rw [hp.len, hr.len]) fun i h1 h2 => ?_
  obtain ⟨a, b, e⟩ := List.append_of_mem (hm i (by rw [hp.len] at h1; exact h1))
  have := key (a.length + 1) a b i e.symm (by omega)
  rw [List.getD_eq_getElem?_getD, List.getD_eq_getElem?_getD, List.getElem?_eq_getElem h1, List.getElem?_eq_getElem h2] at this
  exact this
end Go.Proofs.Ytjjcjoedgmfalaa.Tp

/- Plain arithmetic of the fixed-point layer: absolute values, rounded products and quotients, square roots; no program in sight. -/
namespace Go.Proofs.Ytjjcjoedgmfalaa.Fx

/-- The absolute value. -/
def ab (n : Int) : Int := if n < 0 then -n else n
theorem ab_nonneg (n : Int) : 0 ≤ ab n := by unfold ab; split <;> omega
theorem ab_le (n : Int) (h0 : -9223372036854775808 ≤ n) (h1 : n ≤ 9223372036854775807) : ab n ≤ 9223372036854775808 := by unfold ab; split <;> omega

/-- The number with its sign, or the error 16. -/
def sg (q : Int) (m : Bool) : Int × Int := if 268435456 < q then (0, 16) else (if m then -q else q, 0)
/-- Signs differ. -/
def opp (a b : Int) : Bool := decide (a < 0) != decide (b < 0)
/-- The product, rounded. -/
def mulR (a b : Int) : Int × Int := sg ((ab a * ab b + 500) / 1000) (opp a b)
/-- The quotient, rounded, of sizes. -/
def quoR (x y : Int) : Int := (x * 1000) / y + (if y ≤ 2 * ((x * 1000) % y) then 1 else 0)
def divR (a b : Int) : Int × Int := if b = 0 then (0, 1) else sg (quoR (ab a) (ab b)) (opp a b)

theorem sg_over {q : Int} (h : 268435456 < q) (m : Bool) : sg q m = (0, 16) := by unfold sg; rw [if_pos h]
theorem sg_in {q : Int} (h : q ≤ 268435456) (m : Bool) : sg q m = (if m then -q else q, 0) := by unfold sg; rw [if_neg (by omega)]

/-! ### Sqrt -/
theorem sq_lt {a b : Nat} (h : a * a < b * b) : a < b := by
  rcases Nat.lt_or_ge a b with h1 | h1
  · exact h1
  · exact absurd h (Nat.not_lt.2 (Nat.mul_le_mul h1 h1))
theorem sqrt_unique {n s t : Nat} (h1 : s * s ≤ n) (h2 : n < (s + 1) * (s + 1)) (h3 : t * t ≤ n) (h4 : n < (t + 1) * (t + 1)) : s = t := by
  have a := sq_lt (Nat.lt_of_le_of_lt h1 h4)
  have b := sq_lt (Nat.lt_of_le_of_lt h3 h2)
  omega

/-! ### Knuth's division of two words by one: what one of the two loops finds. B is 2^32. -/
/-- On exit the estimate is the digit. -/
theorem digit_eq {u1 u0 y1 y0 q r B : Int} (hB : 0 < B) (hy1 : 0 < y1) (hy0 : 0 ≤ y0) (h : q * y1 + r = u1) (hle : q * y0 ≤ B * r + u0) (hlt : u1 * B + u0 < (q + 1) * (y1 * B + y0)) :
    (u1 * B + u0) / (y1 * B + y0) = q ∧ u1 * B + u0 - q * (y1 * B + y0) = (u1 * B + u0) % (y1 * B + y0) := by
  have hd : 0 < y1 * B + y0 := by have := Int.mul_pos hy1 hB; omega
  have e : u1 * B + u0 - q * (y1 * B + y0) = B * r + u0 - q * y0 := by
    subst h; rw [Int.add_mul, Int.mul_add, Int.mul_comm r B, Int.mul_assoc q y1 B]; omega
  have e2 : (q + 1) * (y1 * B + y0) = q * (y1 * B + y0) + (y1 * B + y0) := by rw [Int.add_mul]; omega
  have lo : 0 ≤ u1 * B + u0 - q * (y1 * B + y0) := by omega
  have hi : u1 * B + u0 - q * (y1 * B + y0) < y1 * B + y0 := by omega
  have key : u1 * B + u0 = (y1 * B + y0) * q + (u1 * B + u0 - q * (y1 * B + y0)) := by rw [Int.mul_comm (y1 * B + y0) q]; omega
  constructor
  · rw [key, Int.add_comm ((y1 * B + y0) * q), Int.add_mul_ediv_left _ _ (Int.ne_of_gt hd), Int.ediv_eq_zero_of_lt]
    · omega
    · exact lo
    · exact hi
  · have h3 : (u1 * B + u0 - q * (y1 * B + y0) + (y1 * B + y0) * q) % (y1 * B + y0) = u1 * B + u0 - q * (y1 * B + y0) := by
      rw [Int.add_mul_emod_self_left]; exact Int.emod_eq_of_lt lo hi
    rw [Int.mul_comm (y1 * B + y0) q] at h3
    rw [← h3]; congr 1; omega
/-- The test says that the estimate is too great: it stays an upper bound one lower. -/
theorem digit_down {u1 u0 y1 y0 q r B : Int} (h : q * y1 + r = u1) (hgt : B * r + u0 < q * y0) : u1 * B + u0 < (q - 1 + 1) * (y1 * B + y0) ∧ (q - 1) * y1 + (r + y1) = u1 := by
  have e : u1 * B + u0 - q * (y1 * B + y0) = B * r + u0 - q * y0 := by
    subst h; rw [Int.add_mul, Int.mul_add, Int.mul_comm r B, Int.mul_assoc q y1 B]; omega
  refine ⟨?_, by rw [Int.sub_mul]; omega⟩
  rw [show q - 1 + 1 = q by omega]; omega
end Go.Proofs.Ytjjcjoedgmfalaa.Fx

/- What the small functions of the fixed-point layer return: size, signed, abs, Sqrt, and the document's twins. For every argument of the kinds. -/
namespace Go.Proofs.Ytjjcjoedgmfalaa.Fx
open Go.RowKit

/-- Nothing of what was there has turned. -/
def Ext (w w' : World) : Prop := Below w.heap.size w w'
theorem Ext.refl (w : World) : Ext w w := Below.refl _ _
theorem Ext.trans {a b c : World} (h : Ext a b) (k : Ext b c) : Ext a c := Below.trans h (Below.mono k (Below.size h))
theorem Ext.drew {a w : World} (h : Ext a w) : Ext a w.drew := Below.drew h
theorem Ext.drewN {a w : World} (h : Ext a w) : ∀ n, Ext a (w.drewN n)
  | 0 => by rw [World.drewN_zero]; exact h
  | n + 1 => ⟨h.os, h.tape, h.output, h.size, h.block⟩
theorem Ext.alloc {a w : World} (h : Ext a w) (o : Obj) : Ext a (w.alloc o) := Below.alloc h (Below.size h) o
theorem Ext.setCell {a w : World} (h : Ext a w) {p : Addr} (hp : a.heap.size ≤ p.block) (u : Value) : Ext a (w.setCell p u) := Below.setCell h hp u
theorem Ext.grow {a w : World} (h : Ext a w) (os : Array Obj) : Ext a (Sort.grow w os) :=
  Ext.trans h ⟨rfl, rfl, rfl, by simp [Sort.grow], fun k hk => Sort.heap_grow_old w os hk⟩
theorem Ext.cell {w w' : World} (h : Ext w w') {p : Addr} {v : Value} (hv : w.cell? p = some v) : w'.cell? p = some v := by
  have hb : p.block < w.heap.size := by
    rcases Nat.lt_or_ge p.block w.heap.size with h1 | h1
    · exact h1
    · exfalso; unfold World.cell? at hv; rw [Array.getElem?_eq_none h1] at hv; cases hv
  rw [Below.cell h hb]; exact hv
theorem Ext.tab {P : Program} {w w' : World} {n : String} {k : IntKind} {zs : List Int} (h : Ext w w') (ht : Lib.TabIs P w n k zs) : Lib.TabIs P w' n k zs := by
  unfold Lib.TabIs World.var? at *
  cases hg : P.globalNamed n with
  | none => simp [hg] at ht
  | some g =>
    simp only [hg, Option.bind_some] at ht ⊢
    have hlt : g < w.heap.size := by
      rcases Nat.lt_or_ge g w.heap.size with h' | h'
      · exact h'
      · rw [Array.getElem?_eq_none h'] at ht; simp at ht
    rw [Below.block h g hlt]
    exact ht

theorem ret_int {k : IntKind} {a b : Int} (h : a = b) : Ending.returned (.int k a) = .returned (.int k b) := by rw [h]

theorem ret_pair {k k' : IntKind} {a b c d : Int} (h : a = b) (h' : c = d) : Ending.returned (.tuple #[.int k a, .int k' c]) = .returned (.tuple #[.int k b, .int k' d]) := by rw [h, h']




end Go.Proofs.Ytjjcjoedgmfalaa.Fx
