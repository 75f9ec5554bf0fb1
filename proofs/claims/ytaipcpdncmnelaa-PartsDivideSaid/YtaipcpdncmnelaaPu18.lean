/- Packed texts: PrtSim, PrtMrg, PrtOthR -/
import Derived.Test.YtaipcpdncmnelaaPu17
import Derived.Test.YtaipcpdncmnelaaPu12
import Derived.Test.YtaipcpdncmnelaaPu04
import Derived.Test.YtaipcpdncmnelaaPu02
set_option linter.unusedVariables false
set_option linter.unusedSimpArgs false
/- Edges on a cycle, plain: what two related edges are without a vertex; bridges and cut vertices by related edges. -/
namespace Go.Proofs.Ytaipcpdncmnelaa.Pt
open Tp

variable {N : Nat} {A : Arcs}
theorem Sim.out {i k : Nat} (h : Sim A i k) : i = k ∨ ∃ j, j ≠ i ∧ Rel A i j := by
  induction h with
  | refl => exact .inl rfl
  | @rel i k h =>
    by_cases e : k = i
    · exact .inl e.symm
    · exact .inr ⟨k, e, h⟩
  | trans _ _ h1 h2 =>
    rcases h1 with e | h1
    · rw [e]; exact h2
    · exact .inr h1
/-- x is an end of edge i that is not v. -/
def EndX (A : Arcs) (v i x : Nat) : Prop := i ∈ incT A x ∧ x ≠ v
theorem EndX.oth {v i : Nat} (h : i ∈ incT A v) : EndX A v i (oth A i v) := ⟨(oth_inc h).1, (oth_inc h).2.2⟩
theorem EndX.any {u i : Nat} (h : i ∈ incT A u) (v : Nat) : ∃ x, EndX A v i x := by
  by_cases e : u = v
  · exact ⟨_, .oth (by rw [← e]; exact h)⟩
  · exact ⟨u, h, e⟩
theorem EndX.one {v i x y : Nat} (h : EndX A v i x) (k : EndX A v i y) : J A (-1) v x y := by
  rcases inc_ends h.1 k.1 with e | e
  · rw [e]; exact Path.refl _
  · have h2 := h.2
    have k2 := k.2
    rw [e] at k2 ⊢
    exact J.edge h.1 (by omega) (by omega)
theorem Rel.all {i k : Nat} (h : Rel A i k) (v : Nat) {x y : Nat} (hx : EndX A v i x) (hy : EndX A v k y) : J A (-1) v x y := by
  obtain ⟨u, h1, h2, h3⟩ := h
  by_cases e : u = v
  · subst e; exact (hx.one (.oth h1)).trans (h3.trans ((EndX.oth h2).one hy))
  · exact (hx.one ⟨h1, e⟩).trans (EndX.one ⟨h2, e⟩ hy)
theorem Sim.all {i k : Nat} (h : Sim A i k) : (i = k ∨ ∃ u, k ∈ incT A u) ∧ ∀ v x y, EndX A v i x → EndX A v k y → J A (-1) v x y := by
  induction h with
  | refl => exact ⟨.inl rfl, fun v x y h1 h2 => h1.one h2⟩
  | rel h => exact ⟨.inr ⟨_, h.choose_spec.2.1⟩, fun v x y h1 h2 => h.all v h1 h2⟩
  | trans _ _ h1 h2 =>
    rcases h1.1 with e | ⟨u, hu⟩
    · rw [e]; exact h2
    · refine ⟨?_, fun v x y a b => ?_⟩
      · rcases h2.1 with e | e
        · rw [← e]; exact .inr ⟨u, hu⟩
        · exact .inr e
      · obtain ⟨z, hz⟩ := EndX.any hu v
        exact (h1.2 v x z a hz).trans (h2.2 v z y hz b)
theorem Sim.at_ {i k v : Nat} (h : Sim A i k) (hi : i ∈ incT A v) (hk : k ∈ incT A v) : Rel A i k := ⟨v, hi, hk, h.all.2 v _ _ (.oth hi) (.oth hk)⟩
theorem inc_of {a b i : Nat} (i1 : i < A.length) (h : b ≠ a) (i5 : arcN A i = (a, b) ∨ arcN A i = (b, a)) : i ∈ incT A a ∧ oth A i a = b := by
  unfold oth
  rw [mem_incT]
  rcases i5 with i5 | i5 <;> rw [i5] <;> dsimp only <;> refine ⟨⟨i1, ?_, ?_⟩, ?_⟩ <;> omega
/-- A path that leaves a: its last arc out of a, and the rest without a. -/
theorem J.exit {e : Int} {a b : Nat} (h : J A e (-1) a b) : b = a ∨ ∃ i, i ∈ incT A a ∧ (i : Int) ≠ e ∧ b ≠ a ∧ J A (-1) a (oth A i a) b := by
  unfold J at h
  induction h with
  | refl => exact .inl rfl
  | @step b c h1 e1 ih =>
    by_cases hc : c = a
    · exact .inl hc
    right
    obtain ⟨i, i1, i2, _, _, i5⟩ := mem_und.1 e1
    by_cases hb : b = a
    · subst hb
      obtain ⟨hi, ho⟩ := inc_of i1 hc i5
      exact ⟨i, hi, i2, hc, by rw [ho]; exact Path.refl _⟩
    · obtain ⟨k, k1, k2, _, k3⟩ := ih.resolve_left hb
      exact ⟨k, k1, k2, hc, k3.trans (Path.arc (mem_und.2 ⟨i, i1, by omega, by omega, by omega, i5⟩))⟩
theorem J.without {e v a b : Nat} (he : e ∈ incT A v) (h : J A (-1) v a b) : J A e (-1) a b := by
  unfold J at *
  induction h with
  | refl => exact .refl _
  | step h1 e1 ih =>
    refine .step ih ?_
    obtain ⟨i, i1, i2, i3, i4, i5⟩ := mem_und.1 e1
    refine mem_und.2 ⟨i, i1, fun x => ?_, by omega, by omega, i5⟩
    have x : i = e := by omega
    subst x
    have := (mem_incT.1 he).2.2
    rcases i5 with i5 | i5 <;> rw [i5] at this <;> dsimp only at this <;> omega
theorem bridge_iff {e a : Nat} (he : e ∈ incT A a) : (∀ k, Rel A e k → k = e) ↔ ¬ J A e (-1) a (oth A e a) := by
  constructor
  · intro h hj
    rcases hj.exit with h1 | ⟨i, i1, i2, i3, i4⟩
    · exact (oth_inc he).2.2 h1
    · have := h i ⟨a, he, i1, i4.symm⟩
      omega
  · intro h k ⟨v, h1, h2, h3⟩
    by_cases hk : k = e
    · exact hk
    exfalso
    have j1 : J A e (-1) (oth A e v) (oth A k v) := h3.without h1
    have j2 : J A e (-1) (oth A k v) v := by
      refine Path.arc (mem_und.2 ⟨k, (mem_incT.1 h2).1, by omega, by omega, by omega, ?_⟩)
      have := mem_incT.1 h2
      unfold oth
      generalize arcN A k = p at *
      obtain ⟨a, b⟩ := p
      dsimp only at *
      rcases this.2.2 with h3 | h3
      · right; rw [h3, Nat.add_sub_cancel_left]
      · left; rw [h3, Nat.add_sub_cancel]
    have j3 := j1.trans j2
    rcases inc_ends h1 he with e1 | e1
    · rw [e1] at h; exact h j3.symm
    · rw [e1, (oth_inc h1).2.1] at h; exact h j3
theorem J.thru {v a b : Nat} (ha : a ≠ v) (h : J A (-1) (-1) a b) : J A (-1) v a b ∨ J A (-1) (-1) a v := by
  unfold J at *
  induction h with
  | refl => exact .inl (.refl _)
  | @step b c h1 e1 ih =>
    rcases ih with ih | ih
    · by_cases hc : c = v
      · rw [← hc]; exact .inr (.step h1 e1)
      · obtain ⟨i, i1, i2, i3, i4, i5⟩ := mem_und.1 e1
        have hb : b ≠ v := fun e => by
          have := J_ne (x := (v : Int)) ih (by omega)
          omega
        exact .inl (.step ih (mem_und.2 ⟨i, i1, i2, by omega, by omega, i5⟩))
    · exact .inr ih
theorem cut_iff {v : Nat} : (∃ a b, a ≠ v ∧ b ≠ v ∧ J A (-1) (-1) a b ∧ ¬ J A (-1) v a b) ↔ ∃ i k, i ∈ incT A v ∧ k ∈ incT A v ∧ ¬ Rel A i k := by
  constructor
  · rintro ⟨a, b, ha, hb, h1, h2⟩
    have ja := (h1.thru ha).resolve_left h2
    have jb := (h1.symm.thru hb).resolve_left (fun h => h2 h.symm)
    rcases ja.symm.exit with e | ⟨i, i1, -, -, i4⟩
    · exact absurd e ha
    rcases jb.symm.exit with e | ⟨k, k1, -, -, k4⟩
    · exact absurd e hb
    exact ⟨i, k, i1, k1, fun h => h2 (i4.symm.trans ((h.all v (.oth i1) (.oth k1)).trans k4))⟩
  · rintro ⟨i, k, h1, h2, h3⟩
    have j1 := J.edge (x := -1) h1 (by omega) (by omega)
    have j2 := J.edge (x := -1) h2 (by omega) (by omega)
    exact ⟨oth A i v, oth A k v, (oth_inc h1).2.2, (oth_inc h2).2.2, j1.symm.trans j2, fun h => h3 ⟨v, h1, h2, h⟩⟩
end Go.Proofs.Ytaipcpdncmnelaa.Pt

/- The document's blocks, plain: labels of edges that are merged, and their classes. -/
namespace Go.Proofs.Ytaipcpdncmnelaa.Pt
open Tp

variable {N : Nat} {A : Arcs}
/-- The end of an arc that is not v; -1 unless v is exactly one of its ends. -/
def othR (p : Nat × Nat) (v : Nat) : Int := if p.1 = v ∧ p.2 ≠ v then (p.2 : Int) else if p.2 = v ∧ p.1 ≠ v then (p.1 : Int) else -1
def mrgX (mx mn : Int) (x : Int) : Int := if x = mx then mn else x
def mrg (l : List Int) (i k : Nat) : List Int := l.map (mrgX (max (l.getD i 0) (l.getD k 0)) (min (l.getD i 0) (l.getD k 0)))
def mrgC (A : Arcs) (W : List Int) (v i k : Nat) (l : List Int) : Prop :=
  0 ≤ othR (arcN A i) v ∧ 0 ≤ othR (arcN A k) v ∧ W.getD (othR (arcN A i) v).toNat 0 = W.getD (othR (arcN A k) v).toNat 0 ∧ l.getD i 0 ≠ l.getD k 0
instance (A : Arcs) (W : List Int) (v i k : Nat) (l : List Int) : Decidable (mrgC A W v i k l) := by unfold mrgC; infer_instance
def mrgS (A : Arcs) (W : List Int) (v i : Nat) (l : List Int) (k : Nat) : List Int := if mrgC A W v i k l then mrg l i k else l
def mrgI (A : Arcs) (W : List Int) (v : Nat) (l : List Int) (i : Nat) : List Int := (List.range i).foldl (mrgS A W v i) l
def mrgV (N : Nat) (A : Arcs) (l : List Int) (v : Nat) : List Int := (List.range A.length).foldl (mrgI A (labT N A (-1) v) v) l
def mrgL (N : Nat) (A : Arcs) (k : Nat) : List Int := (List.range k).foldl (mrgV N A) ((List.range A.length).map (fun i : Nat => (i : Int)))
/-- The document's Blocks. -/
def blocksR (N : Nat) (A : Arcs) : List (List Nat) := classesT (mrgL N A N)
theorem othR_inc {i v : Nat} (h : i ∈ incT A v) : othR (arcN A i) v = (oth A i v : Int) := by
  have := mem_incT.1 h
  unfold othR oth
  rcases this.2.2 with h1 | h1
  · rw [if_pos ⟨h1, by omega⟩]; omega
  · rw [if_neg (by omega), if_pos ⟨h1, by omega⟩]; omega
theorem othR_pos {i v : Nat} (hi : i < A.length) (h : 0 ≤ othR (arcN A i) v) : i ∈ incT A v := by
  unfold othR at h
  rw [mem_incT]
  split at h
  · rename_i h1; exact ⟨hi, by omega, .inl h1.1⟩
  · split at h
    · rename_i h1; exact ⟨hi, by omega, .inr h1.1⟩
    · omega
theorem getD_map' {f : Int → Int} {l : List Int} {j : Nat} (h : j < l.length) : (l.map f).getD j 0 = f (l.getD j 0) := by
  rw [List.getD_eq_getElem?_getD, List.getD_eq_getElem?_getD, List.getElem?_map, List.getElem?_eq_getElem h]; rfl
/-- A loop over numbers keeps what each step keeps, and reaches what each step reaches. -/
theorem fold_hit {β : Type} (f : β → Nat → β) (I : β → Prop) (Q : Nat → β → Prop) (n : Nat) (hI : ∀ s k, k < n → I s → I (f s k)) (hQ : ∀ s k, k < n → I s → Q k (f s k)) (hp : ∀ s k j, k < n → I s → Q j s → Q j (f s k)) (s : β) (h : I s) :
    ∀ m, m ≤ n → I ((List.range m).foldl f s) ∧ ∀ k, k < m → Q k ((List.range m).foldl f s)
  | 0, _ => ⟨h, fun k hk => absurd hk (Nat.not_lt_zero k)⟩
  | m + 1, hm => by
    have ih := fold_hit f I Q n hI hQ hp s h m (by omega)
    rw [List.range_succ, List.foldl_append]
    refine ⟨hI _ _ (by omega) ih.1, fun k hk => ?_⟩
    by_cases e : k = m
    · subst e; exact hQ _ _ (by omega) ih.1
    · exact hp _ _ _ (by omega) ih.1 (ih.2 k (by omega))
theorem fold_keep {β : Type} (f : β → Nat → β) (I : β → Prop) (n : Nat) (hI : ∀ s k, k < n → I s → I (f s k)) (s : β) (h : I s) : I ((List.range n).foldl f s) :=
  (fold_hit f I (fun _ _ => True) n hI (fun _ _ _ _ => trivial) (fun _ _ _ _ _ _ => trivial) s h n (Nat.le_refl n)).1
/-- Edges with one label are on a cycle. -/
def MSnd (A : Arcs) (l : List Int) : Prop := l.length = A.length ∧ ∀ a b, a < A.length → b < A.length → l.getD a 0 = l.getD b 0 → Sim A a b
theorem mrgS_len (W : List Int) (v i : Nat) (l : List Int) (k : Nat) : (mrgS A W v i l k).length = l.length := by
  unfold mrgS; split
  · unfold mrg; simp
  · rfl
/-- Equal labels stay equal. -/
theorem mrgS_eq {W : List Int} {v i : Nat} {l : List Int} {k a b : Nat} (ha : a < l.length) (hb : b < l.length) (h : l.getD a 0 = l.getD b 0) : (mrgS A W v i l k).getD a 0 = (mrgS A W v i l k).getD b 0 := by
  unfold mrgS; split
  · unfold mrg; rw [getD_map' ha, getD_map' hb, h]
  · exact h
theorem mrgS_hit {W : List Int} {v i : Nat} {l : List Int} {k : Nat} (hi : i < l.length) (hk : k < l.length) (h1 : 0 ≤ othR (arcN A i) v) (h2 : 0 ≤ othR (arcN A k) v) (h3 : W.getD (othR (arcN A i) v).toNat 0 = W.getD (othR (arcN A k) v).toNat 0) :
    (mrgS A W v i l k).getD i 0 = (mrgS A W v i l k).getD k 0 := by
  unfold mrgS
  by_cases h : l.getD i 0 = l.getD k 0
  · rw [if_neg (fun c => c.2.2.2 h)]; exact h
  · rw [if_pos ⟨h1, h2, h3, h⟩]
    unfold mrg
    rw [getD_map' hi, getD_map' hk]
    unfold mrgX
    generalize l.getD i 0 = x at *
    generalize l.getD k 0 = y at *
    rcases Int.lt_or_lt_of_ne h with h | h
    · rw [Int.max_eq_right (Int.le_of_lt h), Int.min_eq_left (Int.le_of_lt h), if_neg (by omega), if_pos rfl]
    · rw [Int.max_eq_left (Int.le_of_lt h), Int.min_eq_right (Int.le_of_lt h), if_pos rfl, if_neg (by omega)]
theorem mrgS_snd (ok : Ok N A) {v i k : Nat} {l : List Int} (hl : MSnd A l) (hi : i < A.length) (hk : k < A.length) : MSnd A (mrgS A (labT N A (-1) v) v i l k) := by
  refine ⟨by rw [mrgS_len]; exact hl.1, fun a b ha hb h => ?_⟩
  unfold mrgS at h
  split at h
  · rename_i hc
    obtain ⟨c1, c2, c3, c4⟩ := hc
    have i1 := othR_pos hi c1
    have k1 := othR_pos hk c2
    rw [othR_inc i1, othR_inc k1] at c3
    have hs : Sim A i k := by
      refine .rel ⟨v, i1, k1, ?_⟩
      have n1 := (oth_inc i1).2.2
      have n2 := (oth_inc k1).2.2
      exact (lab_iff ok (inc_lt ok (oth_inc i1).1) (inc_lt ok (oth_inc k1).1) (by omega) (by omega)).1 (by simpa using c3)
    unfold mrg at h
    rw [getD_map' (by rw [hl.1]; exact ha), getD_map' (by rw [hl.1]; exact hb)] at h
    have key : ∀ x y, x < A.length → y < A.length → l.getD x 0 = max (l.getD i 0) (l.getD k 0) → l.getD y 0 = min (l.getD i 0) (l.getD k 0) → Sim A x y := fun x y hx hy e1 e2 => by
      rcases Int.lt_or_lt_of_ne c4 with h | h
      · rw [Int.max_eq_right (Int.le_of_lt h)] at e1
        rw [Int.min_eq_left (Int.le_of_lt h)] at e2
        exact (hl.2 x k hx hk e1).trans (hs.symm.trans (hl.2 y i hy hi e2).symm)
      · rw [Int.max_eq_left (Int.le_of_lt h)] at e1
        rw [Int.min_eq_right (Int.le_of_lt h)] at e2
        exact (hl.2 x i hx hi e1).trans (hs.trans (hl.2 y k hy hk e2).symm)
    unfold mrgX at h
    by_cases h1 : l.getD a 0 = max (l.getD i 0) (l.getD k 0)
    · by_cases h2 : l.getD b 0 = max (l.getD i 0) (l.getD k 0)
      · exact hl.2 a b ha hb (by rw [h1, h2])
      · rw [if_pos h1, if_neg h2] at h
        exact key a b ha hb h1 h.symm
    · by_cases h2 : l.getD b 0 = max (l.getD i 0) (l.getD k 0)
      · rw [if_neg h1, if_pos h2] at h
        exact (key b a hb ha h2 h).symm
      · rw [if_neg h1, if_neg h2] at h
        exact hl.2 a b ha hb h
  · exact hl.2 a b ha hb h
/-- Labels a and b are equal. -/
def LEq (a b : Nat) (l : List Int) : Prop := l.getD a 0 = l.getD b 0
theorem mrg_law (ok : Ok N A) : ∀ m, m ≤ N → MSnd A (mrgL N A m) ∧ ∀ v, v < m → ∀ i k, i < A.length → k < i → i ∈ incT A v → k ∈ incT A v → J A (-1) v (oth A i v) (oth A k v) → LEq i k (mrgL N A m) := by
  intro m hm
  have stepS : ∀ (v i k a b : Nat) (l : List Int), i < A.length → k < A.length → a < A.length → b < A.length → MSnd A l → LEq a b l → LEq a b (mrgS A (labT N A (-1) v) v i l k) := fun v i k a b l _ _ ha hb hl h => mrgS_eq (by rw [hl.1]; exact ha) (by rw [hl.1]; exact hb) h
  have I1 : ∀ (v i : Nat) (l : List Int), i < A.length → MSnd A l → MSnd A (mrgI A (labT N A (-1) v) v l i) := fun v i l hi hl => fold_keep _ (MSnd A) i (fun s k hk hs => mrgS_snd ok hs hi (by omega)) l hl
  have E1 : ∀ (v i : Nat) (l : List Int) (a b : Nat), i < A.length → a < A.length → b < A.length → MSnd A l → LEq a b l → LEq a b (mrgI A (labT N A (-1) v) v l i) := fun v i l a b hi ha hb hl h =>
    (fold_keep _ (fun s => MSnd A s ∧ LEq a b s) i (fun s k hk hs => ⟨mrgS_snd ok hs.1 hi (by omega), stepS v i k a b s hi (by omega) ha hb hs.1 hs.2⟩) l ⟨hl, h⟩).2
  have I2 : ∀ (v : Nat) (l : List Int), MSnd A l → MSnd A (mrgV N A l v) := fun v l hl => fold_keep _ (MSnd A) A.length (fun s k hk hs => I1 v k s hk hs) l hl
  have E2 : ∀ (v : Nat) (l : List Int) (a b : Nat), a < A.length → b < A.length → MSnd A l → LEq a b l → LEq a b (mrgV N A l v) := fun v l a b ha hb hl h =>
    (fold_keep _ (fun s => MSnd A s ∧ LEq a b s) A.length (fun s k hk hs => ⟨I1 v k s hk hs.1, E1 v k s a b hk ha hb hs.1 hs.2⟩) l ⟨hl, h⟩).2
  have H1 : ∀ (v i : Nat) (l : List Int), i < A.length → MSnd A l → ∀ k, k < i → i ∈ incT A v → k ∈ incT A v → J A (-1) v (oth A i v) (oth A k v) → LEq i k (mrgI A (labT N A (-1) v) v l i) := fun v i l hi hl => by
    refine (fold_hit _ (MSnd A) (fun k s => i ∈ incT A v → k ∈ incT A v → J A (-1) v (oth A i v) (oth A k v) → LEq i k s) i (fun s k hk hs => mrgS_snd ok hs hi (by omega)) (fun s k hk hs a b c => ?_) (fun s k j hk hs h a b c => stepS v i k i j s hi (by omega) hi (mem_incT.1 b).1 hs (h a b c)) l hl i (Nat.le_refl i)).2
    have n1 := (oth_inc a).2.2
    have n2 := (oth_inc b).2.2
    refine mrgS_hit (by rw [hs.1]; exact hi) (by rw [hs.1]; omega) (by rw [othR_inc a]; omega) (by rw [othR_inc b]; omega) ?_
    rw [othR_inc a, othR_inc b]
    exact (by simpa using (lab_iff ok (inc_lt ok (oth_inc a).1) (inc_lt ok (oth_inc b).1) (by omega) (by omega)).2 c)
  have H2 : ∀ (v : Nat) (l : List Int), MSnd A l → ∀ i, i < A.length → ∀ k, k < i → i ∈ incT A v → k ∈ incT A v → J A (-1) v (oth A i v) (oth A k v) → LEq i k (mrgV N A l v) := fun v l hl =>
    (fold_hit _ (MSnd A) (fun i s => ∀ k, k < i → i ∈ incT A v → k ∈ incT A v → J A (-1) v (oth A i v) (oth A k v) → LEq i k s) A.length (fun s i hi hs => I1 v i s hi hs) (fun s i hi hs => H1 v i s hi hs) (fun s k j hk hs h i hi a b c => E1 v k s j i hk (mem_incT.1 a).1 (mem_incT.1 b).1 hs (h i hi a b c)) l hl A.length (Nat.le_refl _)).2
  have h0 : MSnd A ((List.range A.length).map (fun i : Nat => (i : Int))) := by
    refine ⟨by simp, fun a b ha hb h => ?_⟩
    have g : ∀ j, j < A.length → ((List.range A.length).map (fun i : Nat => (i : Int))).getD j 0 = (j : Int) := fun j hj => by
      rw [List.getD_eq_getElem?_getD, List.getElem?_map, List.getElem?_range hj]; rfl
    rw [g a ha, g b hb] at h
    have h : a = b := by omega
    subst h; exact .refl _
  have F := fold_hit (mrgV N A) (MSnd A) (fun v s => ∀ i, i < A.length → ∀ k, k < i → i ∈ incT A v → k ∈ incT A v → J A (-1) v (oth A i v) (oth A k v) → LEq i k s) N (fun s v _ hs => I2 v s hs) (fun s v _ hs => H2 v s hs) (fun s k j _ hs h i hi x hx a b c => E2 k s i x hi (by omega) hs (h i hi x hx a b c)) _ h0 m hm
  exact ⟨F.1, fun v hv i k hi hk => F.2 v hv i hi k hk⟩
/-- Two edges have one label exactly if they are in one class. -/
theorem mrg_iff (ok : Ok N A) {i k : Nat} (hi : i < A.length) (hk : k < A.length) : (mrgL N A N).getD i 0 = (mrgL N A N).getD k 0 ↔ Sim A i k := by
  obtain ⟨h1, h2⟩ := mrg_law ok N (Nat.le_refl N)
  refine ⟨h1.2 i k hi hk, fun h => ?_⟩
  have rel : ∀ i k, Rel A i k → (mrgL N A N).getD i 0 = (mrgL N A N).getD k 0 := fun i k ⟨v, a, b, c⟩ => by
    have hv := inc_lt ok a
    rcases Nat.lt_trichotomy i k with h | h | h
    · exact (h2 v hv k i (mem_incT.1 b).1 h b a c.symm).symm
    · rw [h]
    · exact h2 v hv i k (mem_incT.1 a).1 h a b c
  clear hi hk
  induction h with
  | refl => rfl
  | rel h => exact rel _ _ h
  | trans _ _ a b => exact a.trans b
theorem mrg_len (N : Nat) (A : Arcs) (m : Nat) : (mrgL N A m).length = A.length := by
  have k1 : ∀ (W : List Int) (v i : Nat) (l : List Int), (mrgI A W v l i).length = l.length := fun W v i l =>
    fold_keep (mrgS A W v i) (fun s : List Int => s.length = l.length) i (fun s k _ h => (mrgS_len W v i s k).trans h) l rfl
  have k2 : ∀ (l : List Int) (v : Nat), (mrgV N A l v).length = l.length := fun l v =>
    fold_keep (mrgI A (labT N A (-1) v) v) (fun s : List Int => s.length = l.length) A.length (fun s k _ h => (k1 _ v k s).trans h) l rfl
  exact fold_keep (mrgV N A) (fun s : List Int => s.length = A.length) m (fun s k _ h => (k2 s k).trans h) _ (by simp)
end Go.Proofs.Ytaipcpdncmnelaa.Pt

/- The document's 'other': the end of an edge that is not a vertex. -/
namespace Go.Proofs.Ytaipcpdncmnelaa.Pt
open Go.RowKit Go.Sort Go.Lib Fx Tp

set_option maxHeartbeats 4000000 in
set_option maxRecDepth 100000 in
theorem otherR_any (x y v : Nat) (w : World) :
    Calls Try.prog 38 #[.agg #[.int .i64 (x : Int), .int .i64 (y : Int)], .int .i64 (v : Int)] w fun e w' => e = .returned (.int .i64 (othR (x, y) v)) ∧ Ext w w' := by
  by_cases h1 : x = v
  · by_cases h2 : y = v
    · have hr : othR (x, y) v = -1 := by unfold othR; rw [if_neg (fun h => h.2 h2), if_neg (fun h => h.2 h1)]
      rw [hr]
      obtain ⟨f1, f2⟩ := eq_facts (x := (x : Int)) (k := (v : Int)) (by omega)
      obtain ⟨g1, g2⟩ := eq_facts (x := (y : Int)) (k := (v : Int)) (by omega)
      clear h1 h2 hr
      go_enter Try.func38, Try.ntmps38
      go_wp2
      go_ret
      exact ⟨rfl, (Ext.refl _).alloc _⟩
    · have hr : othR (x, y) v = (y : Int) := by unfold othR; rw [if_pos ⟨h1, h2⟩]
      rw [hr]
      obtain ⟨f1, f2⟩ := eq_facts (x := (x : Int)) (k := (v : Int)) (by omega)
      obtain ⟨g1, g2⟩ := neq_facts (x := (y : Int)) (k := (v : Int)) (by omega)
      clear h1 h2 hr
      go_enter Try.func38, Try.ntmps38
      go_wp2
      go_ret
      exact ⟨rfl, (Ext.refl _).alloc _⟩
  · by_cases h2 : y = v
    · have hr : othR (x, y) v = (x : Int) := by unfold othR; rw [if_neg (fun h => h1 h.1), if_pos ⟨h2, h1⟩]
      rw [hr]
      obtain ⟨f1, f2⟩ := neq_facts (x := (x : Int)) (k := (v : Int)) (by omega)
      obtain ⟨g1, g2⟩ := eq_facts (x := (y : Int)) (k := (v : Int)) (by omega)
      clear h1 h2 hr
      go_enter Try.func38, Try.ntmps38
      go_wp2
      go_ret
      exact ⟨rfl, (Ext.refl _).alloc _⟩
    · have hr : othR (x, y) v = -1 := by unfold othR; rw [if_neg (fun h => h1 h.1), if_neg (fun h => h2 h.1)]
      rw [hr]
      obtain ⟨f1, f2⟩ := neq_facts (x := (x : Int)) (k := (v : Int)) (by omega)
      obtain ⟨g1, g2⟩ := neq_facts (x := (y : Int)) (k := (v : Int)) (by omega)
      clear h1 h2 hr
      go_enter Try.func38, Try.ntmps38
      go_wp2
      go_ret
      exact ⟨rfl, (Ext.refl _).alloc _⟩
end Go.Proofs.Ytaipcpdncmnelaa.Pt
