/- Packed texts: PrtFew, PrtLabL, PrtCompL, PrtLawA -/
import Derived.Test.YtaipcpdncmnelaaPu16
import Derived.Test.YtaipcpdncmnelaaPu03
import Derived.Test.YtaipcpdncmnelaaPu15
set_option linter.unusedVariables false
set_option linter.unusedSimpArgs false
/- few. -/
namespace Go.Proofs.Ytaipcpdncmnelaa.Pt
open Go.RowKit Go.Sort Go.Lib Fx Tp

def fewB (n : Int) (L : ArcZ) : Bool := (decide (n ≤ 16) && decide (L.length ≤ 40)) || (!validL n L && decide (L.length ≤ 300))
set_option maxHeartbeats 4000000 in
theorem few_any (n : Int) (a : Option Addr) (L : ArcZ) (cap : Nat) (w : World) (hn0 : -9223372036854775808 ≤ n) (hn1 : n ≤ 9223372036854775807) (h : ArcIn w a L) (hk : ArcOk L) (hL : L.length ≤ 9223372036854775807) :
    Calls Try.prog 8 #[.agg #[.int .i64 n, .slice a L.length cap]] w fun e w' => e = .returned (.bool (fewB n L)) ∧ Ext w w' := by
  have hval := fun w1 (x : Ext w w1) => validR_any n a L cap w1 hn0 hn1 (h.ext x) hk hL
  unfold fewB
  obtain ⟨M, hM⟩ : ∃ M, M = L.length := ⟨_, rfl⟩
  rw [← hM] at hL hval ⊢
  obtain ⟨vb, hvb⟩ : ∃ vb, vb = validL n L := ⟨_, rfl⟩
  rw [← hvb] at hval ⊢
  have HV := Lib.hid hval
  clear h hM hval hk hvb
  by_cases h1 : n ≤ 16 <;> by_cases h2 : M ≤ 40 <;> by_cases h3 : M ≤ 300 <;> cases vb
  all_goals first
    | (exfalso; omega)
    | (have d1 : decide (n ≤ 16) = true := decide_eq_true h1
       have d2 : decide (M ≤ 40) = true := decide_eq_true h2
       have e2 : decide ((M : Int) ≤ 40) = true := decide_eq_true (by omega)
       rw [d1, d2]
       go_enter Try.func8, Try.ntmps8
       go_wp2
       go_ret
       exact ⟨rfl, (Ext.refl _).alloc _⟩)
    | (go_enter Try.func8, Try.ntmps8
       go_wp2_with (go_at_call 24; refine (HV.out _ ((Ext.refl _).alloc _)).mono ?_; rintro e w1 ⟨rfl, x1⟩; have b1 := box_two x1; have b10 := b1.1; have b11 := b1.2)
       go_ret
       exact ⟨by first | rfl | (simp [h1, h2, h3]; done) | (simp [h1, h2, h3]; omega), ((Ext.refl _).alloc _).trans x1⟩)
end Go.Proofs.Ytaipcpdncmnelaa.Pt

/- The labels' law: two vertices have one label exactly if they are joined. Plain; the rounds' marks are those of TopText. -/
namespace Go.Proofs.Ytaipcpdncmnelaa.Pt
open Tp

def keepI (e x : Int) (i : Nat) (p : Nat × Nat) : Prop := (i : Int) ≠ e ∧ (p.1 : Int) ≠ x ∧ (p.2 : Int) ≠ x
instance (e x : Int) (i : Nat) (p : Nat × Nat) : Decidable (keepI e x i p) := by unfold keepI; infer_instance
def undI (e x : Int) : Nat → Arcs → Arcs
  | _, [] => []
  | i, p :: A => (if keepI e x i p then [p, (p.2, p.1)] else []) ++ undI e x (i + 1) A
theorem mem_undI {e x : Int} {a b : Nat} : ∀ {A : Arcs} {i : Nat}, (a, b) ∈ undI e x i A ↔ ∃ k p, A[k]? = some p ∧ keepI e x (i + k) p ∧ (p = (a, b) ∨ p = (b, a))
  | [], i => by simp [undI]
  | q :: A, i => by
    unfold undI
    rw [List.mem_append, mem_undI (A := A) (i := i + 1)]
    constructor
    · rintro (h | ⟨k, p, h1, h2, h3⟩)
      · split at h
        · rename_i hk
          rcases List.mem_cons.1 h with h | h
          · exact ⟨0, q, rfl, hk, .inl h.symm⟩
          · have h := List.mem_singleton.1 h
            have := (Prod.mk.injEq ..).mp h
            exact ⟨0, q, rfl, hk, .inr (by obtain ⟨q1, q2⟩ := q; simp only at this; rw [this.1, this.2])⟩
        · cases h
      · exact ⟨k + 1, p, by simpa using h1, by rw [show i + (k + 1) = i + 1 + k by omega]; exact h2, h3⟩
    · rintro ⟨k, p, h1, h2, h3⟩
      cases k with
      | zero =>
        left
        have h1 : q = p := by simpa using h1
        subst h1
        rw [if_pos (by simpa using h2)]
        rcases h3 with h3 | h3
        · rw [h3]; exact List.mem_cons_self ..
        · rw [h3]; simp
      | succ k => exact .inr ⟨k, p, by simpa using h1, by rw [show i + 1 + k = i + (k + 1) by omega]; exact h2, h3⟩
theorem mem_und_iff {A : Arcs} {e x : Int} {a b : Nat} : (a, b) ∈ undI e x 0 A ↔ (a, b) ∈ und A e x := by
  rw [mem_undI, mem_und]
  have at_ : ∀ k p, A[k]? = some p → k < A.length ∧ arcN A k = p := fun k p h => by
    obtain ⟨h1, h2⟩ := List.getElem?_eq_some_iff.1 h
    exact ⟨h1, by unfold arcN; rw [List.getD_eq_getElem?_getD, h]; rfl⟩
  constructor
  · rintro ⟨k, p, h1, ⟨h2, h3, h4⟩, h5⟩
    obtain ⟨hk, hp⟩ := at_ k p h1
    rw [Nat.zero_add] at h2
    rcases h5 with rfl | rfl
    · exact ⟨k, hk, h2, h3, h4, .inl hp⟩
    · exact ⟨k, hk, h2, h4, h3, .inr hp⟩
  · rintro ⟨k, hk, h2, h3, h4, h5⟩
    refine ⟨k, arcN A k, by unfold arcN; rw [List.getD_eq_getElem?_getD, List.getElem?_eq_getElem hk]; rfl, ⟨by rw [Nat.zero_add]; exact h2, ?_, ?_⟩, h5⟩
    · rcases h5 with h5 | h5 <;> rw [h5] <;> assumption
    · rcases h5 with h5 | h5 <;> rw [h5] <;> assumption
theorem path_congr {A B : Arcs} (h : ∀ p, p ∈ A ↔ p ∈ B) {a b : Nat} : Path A a b ↔ Path B a b := by
  constructor
  · intro k
    induction k with
    | refl => exact .refl _
    | step _ e ih => exact .step ih ((h _).1 e)
  · intro k
    induction k with
    | refl => exact .refl _
    | step _ e ih => exact .step ih ((h _).2 e)
theorem J_iff {A : Arcs} {e x : Int} {a b : Nat} : Path (undI e x 0 A) a b ↔ J A e x a b := path_congr (fun p => mem_und_iff)
/-! ### sound labels -/
def Snd (N : Nat) (A : Arcs) (e x : Int) (l : List Int) : Prop :=
  l.length = N ∧ ∀ v, v < N → ((v : Int) = x → l.getD v 0 = -1) ∧ ((v : Int) ≠ x → ∃ c : Nat, l.getD v 0 = (c : Int) ∧ c < N ∧ J A e x v c)
theorem J.live {A : Arcs} {e x : Int} {i : Nat} {p : Nat × Nat} (h : A[i]? = some p) (k : keepI e x i p) : J A e x p.1 p.2 := by
  refine Path.arc (mem_und_iff.1 (mem_undI.2 ⟨i, p, h, by rw [Nat.zero_add]; exact k, .inl rfl⟩))
theorem Snd.step {N : Nat} {A : Arcs} {e x : Int} (ok : Ok N A) {s : List Int × Bool} {i : Nat} {p : Nat × Nat} (h : Snd N A e x s.1) (hp : A[i]? = some p) : Snd N A e x (labS e x i p s).1 := by
  have hpN := ok p (List.mem_of_getElem? hp)
  unfold labS
  by_cases hc : (i : Int) ≠ e ∧ (p.1 : Int) ≠ x ∧ (p.2 : Int) ≠ x ∧ s.1.getD p.1 0 ≠ s.1.getD p.2 0
  · rw [if_pos hc]
    obtain ⟨c1, c2, c3, c4⟩ := hc
    obtain ⟨a, ha, haN, hja⟩ := (h.2 p.1 hpN.1).2 c2
    obtain ⟨b, hb, hbN, hjb⟩ := (h.2 p.2 hpN.2).2 c3
    have live := J.live hp ⟨c1, c2, c3⟩
    have key : ∃ c : Nat, min (s.1.getD p.1 0) (s.1.getD p.2 0) = (c : Int) ∧ c < N ∧ J A e x p.1 c ∧ J A e x p.2 c := by
      rw [ha, hb]
      by_cases hab : a ≤ b
      · exact ⟨a, by omega, haN, hja, live.symm.trans hja⟩
      · exact ⟨b, by omega, hbN, live.trans hjb, hjb⟩
    obtain ⟨c, hc, hcN, k1, k2⟩ := key
    dsimp only
    rw [hc]
    refine ⟨by simp [h.1], fun v hv => ?_⟩
    rw [getD_set, List.length_set, getD_set, h.1]
    by_cases e1 : p.2 = v
    · rw [if_pos ⟨e1, hpN.2⟩]
      exact ⟨fun e => absurd (by rw [e1]; exact e) c3, fun _ => ⟨c, rfl, hcN, by rw [← e1]; exact k2⟩⟩
    · rw [if_neg (fun z => e1 z.1)]
      by_cases e2 : p.1 = v
      · rw [if_pos ⟨e2, hpN.1⟩]
        exact ⟨fun e => absurd (by rw [e2]; exact e) c2, fun _ => ⟨c, rfl, hcN, by rw [← e2]; exact k1⟩⟩
      · rw [if_neg (fun z => e2 z.1)]
        exact h.2 v hv
  · rw [if_neg hc]; exact h
theorem labS_len' (e x : Int) (i : Nat) (p : Nat × Nat) (s : List Int × Bool) : (labS e x i p s).1.length = s.1.length := by
  unfold labS; split
  · simp
  · rfl
theorem relax_len (s : List Bool) (p : Nat × Nat) : (relax s p).length = s.length := (relax_le s p).len.symm
theorem relax_at (s : List Bool) (p : Nat × Nat) (j : Nat) : (relax s p).getD j false = (decide (p.2 = j ∧ j < s.length ∧ s.getD p.1 false = true) || s.getD j false) := by
  unfold relax
  by_cases h : s.getD p.1 false = true
  · rw [if_pos h, getD_set]
    by_cases hj : p.2 = j ∧ p.2 < s.length
    · rw [if_pos hj, decide_eq_true ⟨hj.1, by omega, h⟩]; rfl
    · rw [if_neg hj, decide_eq_false (fun z => hj ⟨z.1, by omega⟩)]; rfl
  · rw [if_neg h, decide_eq_false (fun z => h z.2.2)]; rfl
def mk (m : Nat) (l : List Int) : List Bool := l.map (fun y => decide (y = (m : Int)))
theorem mk_len (m : Nat) (l : List Int) : (mk m l).length = l.length := by simp [mk]
theorem mk_at (m : Nat) (l : List Int) (j : Nat) : (mk m l).getD j false = decide (j < l.length ∧ l.getD j 0 = (m : Int)) := by
  unfold mk
  rw [List.getD_eq_getElem?_getD, List.getElem?_map, List.getD_eq_getElem?_getD]
  by_cases h : j < l.length
  · rw [List.getElem?_eq_getElem h]
    simp [h]
  · rw [List.getElem?_eq_none (by omega)]
    simp [h]
theorem bool_ext {s t : List Bool} (hl : s.length = t.length) (h : ∀ j, s.getD j false = t.getD j false) : s = t := by
  refine List.ext_getElem hl fun j h1 h2 => ?_
  have := h j
  rw [List.getD_eq_getElem?_getD, List.getD_eq_getElem?_getD, List.getElem?_eq_getElem h1, List.getElem?_eq_getElem h2] at this
  exact this
theorem mk_step {N : Nat} {A : Arcs} {e x : Int} (ok : Ok N A) {m : Nat} (hm : ∀ w, J A e x m w → m ≤ w) {s : List Int × Bool} {i : Nat} {p : Nat × Nat} (h : Snd N A e x s.1) (hp : A[i]? = some p) :
    mk m (labS e x i p s).1 = if keepI e x i p then relax (relax (mk m s.1) p) (p.2, p.1) else mk m s.1 := by
  have hpN := ok p (List.mem_of_getElem? hp)
  by_cases hk : keepI e x i p
  · rw [if_pos hk]
    obtain ⟨c1, c2, c3⟩ := hk
    obtain ⟨a, ha, haN, hja⟩ := (h.2 p.1 hpN.1).2 c2
    obtain ⟨b, hb, hbN, hjb⟩ := (h.2 p.2 hpN.2).2 c3
    have live := J.live hp ⟨c1, c2, c3⟩
    have m1 : (mk m s.1).getD p.1 false = decide (a = m) := by rw [mk_at, ha, h.1]; exact decide_eq_decide.2 ⟨fun z => by have := z.2; omega, fun z => ⟨hpN.1, by omega⟩⟩
    have m2 : (mk m s.1).getD p.2 false = decide (b = m) := by rw [mk_at, hb, h.1]; exact decide_eq_decide.2 ⟨fun z => by have := z.2; omega, fun z => ⟨hpN.2, by omega⟩⟩
    have hl := mk_len m s.1
    have key : ∀ j, (relax (relax (mk m s.1) p) (p.2, p.1)).getD j false = (decide ((p.1 = j ∨ p.2 = j) ∧ (a = m ∨ b = m)) || (mk m s.1).getD j false) := fun j => by
      have r2 : (relax (mk m s.1) p).getD p.2 false = (decide (a = m) || decide (b = m)) := by
        rw [relax_at, hl, h.1, m1, m2]
        by_cases ea : a = m
        · rw [decide_eq_true ea, decide_eq_true ⟨rfl, hpN.2, rfl⟩]
          try rfl
        · rw [decide_eq_false ea, decide_eq_false (fun z => by cases z.2.2)]
      rw [relax_at, relax_len, hl, h.1]
      dsimp only
      rw [r2, relax_at, hl, h.1, m1]
      by_cases hab : a = m ∨ b = m
      · have e1 : (decide (a = m) || decide (b = m)) = true := by rcases hab with e | e <;> simp [e]
        rw [e1]
        by_cases j1 : p.1 = j
        · rw [decide_eq_true (⟨j1, by omega, rfl⟩ : p.1 = j ∧ j < N ∧ true = true), decide_eq_true (⟨.inl j1, hab⟩ : (p.1 = j ∨ p.2 = j) ∧ (a = m ∨ b = m))]; rfl
        · rw [decide_eq_false (fun z : p.1 = j ∧ j < N ∧ true = true => j1 z.1), Bool.false_or]
          by_cases j2 : p.2 = j
          · rw [decide_eq_true (⟨.inr j2, hab⟩ : (p.1 = j ∨ p.2 = j) ∧ (a = m ∨ b = m)), Bool.true_or]
            by_cases ea : a = m
            · rw [decide_eq_true ea, decide_eq_true ⟨j2, by omega, rfl⟩]; rfl
            · rw [← j2, m2, decide_eq_true (hab.resolve_left ea), Bool.or_true]
          · rw [decide_eq_false (fun z => j2 z.1), decide_eq_false (fun z => by rcases z.1 with z | z; exact j1 z; exact j2 z)]
      · have e1 : (decide (a = m) || decide (b = m)) = false := by rw [decide_eq_false (fun e => hab (.inl e)), decide_eq_false (fun e => hab (.inr e))]; rfl
        have ea : decide (a = m) = false := decide_eq_false (fun e => hab (.inl e))
        rw [e1, ea, decide_eq_false (fun z : p.1 = j ∧ j < N ∧ false = true => by cases z.2.2), decide_eq_false (fun z : p.2 = j ∧ j < N ∧ false = true => by cases z.2.2), decide_eq_false (fun z => hab z.2)]
        first | rfl | done
    refine bool_ext ?_ fun j => ?_
    · rw [mk_len, labS_len', relax_len, relax_len, mk_len]
    · rw [key, mk_at, labS_len', h.1, mk_at, h.1]
      have mle : a = m ∨ b = m → min (s.1.getD p.1 0) (s.1.getD p.2 0) = (m : Int) := fun hab => by
        rw [ha, hb]
        rcases hab with rfl | rfl
        · have := hm b ((hja.symm.trans live).trans hjb)
          omega
        · have := hm a ((hjb.symm.trans live.symm).trans hja)
          omega
      have mne : ¬ (a = m ∨ b = m) → min (s.1.getD p.1 0) (s.1.getD p.2 0) ≠ (m : Int) := fun hab => by
        rw [ha, hb]
        omega
      unfold labS
      by_cases hd : s.1.getD p.1 0 ≠ s.1.getD p.2 0
      · rw [if_pos ⟨c1, c2, c3, hd⟩]
        dsimp only
        rw [getD_set, List.length_set, getD_set, h.1]
        by_cases j2 : p.2 = j
        · rw [if_pos ⟨j2, hpN.2⟩]
          by_cases hab : a = m ∨ b = m
          · rw [decide_eq_true ⟨by omega, mle hab⟩, decide_eq_true (⟨.inr j2, hab⟩ : (p.1 = j ∨ p.2 = j) ∧ (a = m ∨ b = m))]; rfl
          · have e2 : ¬ s.1.getD j 0 = (m : Int) := by rw [← j2, hb]; omega
            rw [decide_eq_false (fun z => mne hab z.2), decide_eq_false (fun z => hab z.2), decide_eq_false (fun z => e2 z.2)]; rfl
        · rw [if_neg (fun z => j2 z.1)]
          by_cases j1 : p.1 = j
          · rw [if_pos ⟨j1, hpN.1⟩]
            by_cases hab : a = m ∨ b = m
            · rw [decide_eq_true ⟨by omega, mle hab⟩, decide_eq_true (⟨.inl j1, hab⟩ : (p.1 = j ∨ p.2 = j) ∧ (a = m ∨ b = m))]; rfl
            · have e2 : ¬ s.1.getD j 0 = (m : Int) := by rw [← j1, ha]; omega
              rw [decide_eq_false (fun z => mne hab z.2), decide_eq_false (fun z => hab z.2), decide_eq_false (fun z => e2 z.2)]; rfl
          · rw [if_neg (fun z => j1 z.1)]
            rw [decide_eq_false (fun z : (p.1 = j ∨ p.2 = j) ∧ (a = m ∨ b = m) => by rcases z.1 with z | z; exact j1 z; exact j2 z)]; rfl
      · rw [if_neg (fun z => hd z.2.2.2)]
        have hd : s.1.getD p.1 0 = s.1.getD p.2 0 := by simpa using hd
        have hab : a = b := by rw [ha, hb] at hd; omega
        by_cases hj : (p.1 = j ∨ p.2 = j) ∧ (a = m ∨ b = m)
        · rw [decide_eq_true hj, Bool.true_or]
          obtain ⟨hj, hm'⟩ := hj
          have hjv : s.1.getD j 0 = (m : Int) := by
            rcases hj with hj | hj
            · rw [← hj, ha]; omega
            · rw [← hj, hb]; omega
          have hjN : j < N := by rcases hj with hj | hj <;> omega
          simp only [decide_eq_true_eq]
          exact ⟨hjN, hjv⟩
        · rw [decide_eq_false hj, Bool.false_or]
  · rw [if_neg hk]
    unfold labS
    rw [if_neg (fun z => hk ⟨z.1, z.2.1, z.2.2.1⟩)]
/-! ### rounds -/
theorem mk_round {N : Nat} {A0 : Arcs} {e x : Int} (ok : Ok N A0) {m : Nat} (hm : ∀ w, J A0 e x m w → m ≤ w) : ∀ (A : Arcs) (i : Nat) (s : List Int × Bool), (∀ k, A[k]? = A0[i + k]?) → Snd N A0 e x s.1 →
    mk m (labR e x i A s).1 = roundR (undI e x i A) (mk m s.1) ∧ Snd N A0 e x (labR e x i A s).1
  | [], i, s, _, h => ⟨rfl, h⟩
  | p :: A, i, s, hA, h => by
    have hp : A0[i]? = some p := by have := hA 0; rw [Nat.add_zero] at this; rw [← this]; rfl
    have h2 := h.step ok hp
    have ih := mk_round ok hm A (i + 1) (labS e x i p s) (fun k => by have := hA (k + 1); rw [show i + 1 + k = i + (k + 1) by omega, ← this]; rfl) h2
    refine ⟨?_, ih.2⟩
    show mk m (labR e x (i + 1) A (labS e x i p s)).1 = roundR ((if keepI e x i p then [p, (p.2, p.1)] else []) ++ undI e x (i + 1) A) (mk m s.1)
    rw [ih.1, mk_step ok hm h hp]
    unfold roundR
    rw [List.foldl_append]
    by_cases hk : keepI e x i p
    · rw [if_pos hk, if_pos hk]; rfl
    · rw [if_neg hk, if_neg hk]; rfl
theorem labR_flag (e x : Int) : ∀ (A : Arcs) (i : Nat) (s : List Int × Bool), (labR e x i A s).2 = false → labR e x i A s = s
  | [], _, _, _ => rfl
  | p :: A, i, s, h => by
    unfold labR at h ⊢
    have ih := labR_flag e x A (i + 1) _ h
    rw [ih] at h ⊢
    unfold labS at h ⊢
    split
    · rename_i hc; rw [if_pos hc] at h; cases h
    · rfl
theorem itR_in (U : Arcs) : ∀ (n : Nat) (s : List Bool), itR U (n + 1) s = itR U n (roundR U s)
  | 0, _ => rfl
  | n + 1, s => by rw [itR, itR_in U n s]; rfl
theorem itR_same {U : Arcs} {s : List Bool} (h : roundR U s = s) : ∀ n, itR U n s = s
  | 0 => rfl
  | n + 1 => by rw [itR, itR_same h n, h]
theorem mk_N {N : Nat} {A : Arcs} {e x : Int} (ok : Ok N A) {m : Nat} (hm : ∀ w, J A e x m w → m ≤ w) : ∀ (n : Nat) (l : List Int), Snd N A e x l → mk m (labN A e x n l) = itR (undI e x 0 A) n (mk m l) ∧ Snd N A e x (labN A e x n l)
  | 0, l, h => ⟨rfl, h⟩
  | n + 1, l, h => by
    have hr := mk_round ok hm A 0 (l, false) (fun k => by rw [Nat.zero_add]) h
    unfold labN
    dsimp only
    by_cases hf : (labR e x 0 A (l, false)).2 = true
    · rw [if_pos hf]
      have ih := mk_N ok hm n _ hr.2
      exact ⟨by rw [ih.1, hr.1, itR_in], ih.2⟩
    · rw [if_neg hf]
      have hs := labR_flag e x A 0 (l, false) (by simpa using hf)
      refine ⟨?_, hr.2⟩
      rw [hs] at hr ⊢
      exact (itR_same hr.1.symm (n + 1)).symm
theorem lab0_snd (N : Nat) (A : Arcs) (e x : Int) : Snd N A e x (lab0 N x) := by
  refine ⟨by simp [lab0], fun v hv => ?_⟩
  have e1 : (lab0 N x).getD v 0 = if (v : Int) = x then -1 else (v : Int) := by
    unfold lab0
    rw [List.getD_eq_getElem?_getD, List.getElem?_map, List.getElem?_range hv]; rfl
  rw [e1]
  exact ⟨fun h => by rw [if_pos h], fun h => ⟨v, by rw [if_neg h], hv, .refl _⟩⟩
theorem lab0_mk {N : Nat} {x : Int} {m : Nat} (hm : m < N) (hx : (m : Int) ≠ x) : mk m (lab0 N x) = markN N m := by
  refine bool_ext (by rw [mk_len, markN_len]; simp [lab0]) fun j => ?_
  rw [mk_at, markN_at]
  have hl : (lab0 N x).length = N := by simp [lab0]
  rw [hl]
  refine decide_eq_decide.2 ⟨fun z => ?_, fun z => ?_⟩
  · obtain ⟨z1, z2⟩ := z
    unfold lab0 at z2
    rw [List.getD_eq_getElem?_getD, List.getElem?_map, List.getElem?_range z1] at z2
    simp only [Option.map_some, Option.getD_some] at z2
    split at z2
    · omega
    · exact ⟨by omega, hm⟩
  · obtain ⟨rfl, z2⟩ := z
    refine ⟨z2, ?_⟩
    unfold lab0
    rw [List.getD_eq_getElem?_getD, List.getElem?_map, List.getElem?_range z2]
    simp only [Option.map_some, Option.getD_some]
    rw [if_neg hx]
theorem exists_least (P : Nat → Prop) : ∀ n, P n → ∃ m, P m ∧ ∀ k, P k → m ≤ k := by
  intro n
  induction n using Nat.strongRecOn with
  | ind n ih =>
    intro hn
    by_cases h : ∃ k, k < n ∧ P k
    · obtain ⟨k, h1, h2⟩ := h
      exact ih k h1 h2
    · exact ⟨n, hn, fun k hk => Nat.not_lt.1 (fun hlt => h ⟨k, hlt, hk⟩)⟩
theorem undI_ok {N : Nat} {A : Arcs} (ok : Ok N A) (e x : Int) : Ok N (undI e x 0 A) := fun p hp => by
  obtain ⟨a, b⟩ := p
  obtain ⟨k, q, h1, _, h3⟩ := mem_undI.1 hp
  have := ok q (List.mem_of_getElem? h1)
  rcases h3 with rfl | rfl
  · exact this
  · exact ⟨this.2, this.1⟩
theorem J_lt {N : Nat} {A : Arcs} (ok : Ok N A) {e x : Int} {a b : Nat} (h : J A e x a b) (ha : a < N) : b < N := Path.lt (undI_ok ok e x) (J_iff.2 h) ha
theorem J_ne {A : Arcs} {e x : Int} {a b : Nat} (h : J A e x a b) (ha : (a : Int) ≠ x) : (b : Int) ≠ x := by
  unfold J at h
  induction h with
  | refl => exact ha
  | step _ e1 _ => obtain ⟨_, _, _, _, h4, _⟩ := mem_und.1 e1; exact h4
/-- The least of a component is the label of all of it. -/
theorem lab_least {N : Nat} {A : Arcs} (ok : Ok N A) {e x : Int} {m : Nat} (hN : m < N) (hx : (m : Int) ≠ x) (hm : ∀ w, J A e x m w → m ≤ w) {v : Nat} (hv : J A e x m v) : (labT N A e x).getD v 0 = (m : Int) := by
  have h := (mk_N ok hm N (lab0 N x) (lab0_snd N A e x)).1
  rw [lab0_mk hN hx] at h
  have h2 := (reachB_iff (undI_ok ok e x) hN v).2 (J_iff.2 hv)
  unfold reachB at h2
  rw [← h, mk_at, decide_eq_true_eq] at h2
  exact h2.2
/-- LABELS' LAW. -/
theorem lab_iff {N : Nat} {A : Arcs} (ok : Ok N A) {e x : Int} {u v : Nat} (hu : u < N) (hv : v < N) (hux : (u : Int) ≠ x) (hvx : (v : Int) ≠ x) : (labT N A e x).getD u 0 = (labT N A e x).getD v 0 ↔ J A e x u v := by
  have least : ∀ a, a < N → (a : Int) ≠ x → ∃ m, m < N ∧ (m : Int) ≠ x ∧ J A e x m a ∧ ∀ w, J A e x m w → m ≤ w := fun a ha hax => by
    obtain ⟨m, h1, h2⟩ := exists_least (fun k => J A e x a k) a (.refl _)
    exact ⟨m, J_lt ok h1 ha, J_ne h1 hax, h1.symm, fun w hw => h2 w (h1.trans hw)⟩
  obtain ⟨m, m1, m2, m3, m4⟩ := least u hu hux
  obtain ⟨n, n1, n2, n3, n4⟩ := least v hv hvx
  have e1 := lab_least ok m1 m2 m4 m3
  have e2 := lab_least ok n1 n2 n4 n3
  constructor
  · intro h
    rw [e1, e2] at h
    have : m = n := by omega
    subst this
    exact m3.symm.trans n3
  · intro h
    rw [e1, lab_least ok m1 m2 m4 (m3.trans h)]
theorem lab_out {N : Nat} {A : Arcs} (ok : Ok N A) {e x : Int} {v : Nat} (hv : v < N) (hx : (v : Int) = x) : (labT N A e x).getD v 0 = -1 := by
  have h := (mk_N (m := N) ok (fun w hw => by
    -- N is no vertex: it is joined with itself alone
    have : w = N := by
      unfold J at hw
      cases hw with
      | refl => rfl
      | step h1 h2 =>
        exfalso
        have key : ∀ {a b : Nat}, Path (und A e x) a b → N ≤ a → b = a := fun {a b} hp ha => by
          induction hp with
          | refl => rfl
          | step _ e1 ih =>
            exfalso
            have := undI_ok ok e x _ (mem_und_iff.2 e1)
            rw [ih] at this
            have := this.1
            simp only at this; omega
        have e3 := key h1 (Nat.le_refl _)
        have := undI_ok ok e x _ (mem_und_iff.2 h2)
        simp only at this; omega
    omega) N (lab0 N x) (lab0_snd N A e x)).2
  exact (h.2 v hv).1 hx
theorem lab_in {N : Nat} {A : Arcs} (ok : Ok N A) {e x : Int} {v : Nat} (hv : v < N) (hx : (v : Int) ≠ x) : 0 ≤ (labT N A e x).getD v 0 := by
  obtain ⟨m, h1, h2⟩ := exists_least (fun k => J A e x v k) v (.refl _)
  rw [lab_least ok (J_lt ok h1 hv) (J_ne h1 hx) (fun w hw => h2 w (h1.trans hw)) h1.symm]
  omega
end Go.Proofs.Ytaipcpdncmnelaa.Pt

/- The components' law, plain: the program's search and the document's classes of labels are the same list. -/
namespace Go.Proofs.Ytaipcpdncmnelaa.Pt
open Tp

variable {N : Nat} {A : Arcs}
/-- Joined at all. -/
def JJ (A : Arcs) (a b : Nat) : Prop := J A (-1) (-1) a b
theorem JJ.edge {e v : Nat} (h : e ∈ incT A v) : JJ A v (oth A e v) := J.edge (x := -1) h (by omega) (by omega)
/-- A set that the edges do not leave holds all that is joined. -/
theorem JJ.closed {S : Nat → Prop} (hc : ∀ v, S v → ∀ e ∈ incT A v, S (oth A e v)) {a b : Nat} (h : JJ A a b) (ha : S a) : S b := by
  refine Path.closed (S := S) (fun p hp hs => ?_) h ha
  obtain ⟨x, y⟩ := p
  obtain ⟨i, i1, -, -, -, i5⟩ := mem_und.1 hp
  by_cases hxy : x = y
  · rw [← hxy]; exact hs
  · have hi : i ∈ incT A x := mem_incT.2 ⟨i1, by rcases i5 with i5 | i5 <;> rw [i5] <;> simp <;> omega, by rcases i5 with i5 | i5 <;> rw [i5] <;> simp⟩
    have ho : oth A i x = y := by unfold oth; rcases i5 with i5 | i5 <;> rw [i5] <;> simp <;> omega
    have := hc x hs i hi
    rw [ho] at this; exact this
/-- The marks of earlier components (m0) and of this one. -/
structure BfJ (N : Nat) (A : Arcs) (m0 : List Bool) (v : Nat) (s : List Bool × List Nat) : Prop where
  inv : BfI N s
  jn : ∀ x ∈ s.2, JJ A v x
  mk1 : ∀ x, s.1.getD x false = true ↔ m0.getD x false = true ∨ x ∈ s.2
theorem BfJ.see {m0 : List Bool} {v : Nat} {s : List Bool × List Nat} (ok : Ok N A) (h : BfJ N A m0 v s) {x e : Nat} (hx : x ∈ s.2) (he : e ∈ incT A x) : BfJ N A m0 v (seeC A x s e) ∧ (∀ y ∈ s.2, y ∈ (seeC A x s e).2) ∧ (seeC A x s e).1.getD (oth A e x) false = true := by
  have hlt := oth_lt ok he
  have hi := h.inv.see (A := A) (x := x) (e := e) hlt
  unfold seeC at *
  by_cases hm : s.1.getD (oth A e x) false = true
  · rw [if_pos hm] at *
    exact ⟨h, fun y hy => hy, hm⟩
  · rw [if_neg hm] at *
    refine ⟨⟨hi, fun y hy => ?_, fun y => ?_⟩, fun y hy => List.mem_append_left _ hy, by rw [getD_set, if_pos ⟨rfl, by rw [h.inv.len]; exact hlt⟩]⟩
    · rcases List.mem_append.1 hy with hy | hy
      · exact h.jn y hy
      · rw [List.mem_singleton.1 hy]; exact J.trans (h.jn x hx) (JJ.edge he)
    · rw [getD_set, h.inv.len]
      by_cases ey : oth A e x = y
      · rw [if_pos ⟨ey, hlt⟩]
        exact ⟨fun _ => .inr (by simp [ey]), fun _ => rfl⟩
      · rw [if_neg (fun z => ey z.1), h.mk1]
        simp only [List.mem_append, List.mem_singleton]
        exact ⟨fun z => z.elim .inl (fun z => .inr (.inl z)), fun z => z.elim .inl (fun z => z.elim .inr (fun z => absurd z.symm ey))⟩
theorem BfJ.seeAll {m0 : List Bool} {v x : Nat} (ok : Ok N A) : ∀ (L : List Nat) {s : List Bool × List Nat}, BfJ N A m0 v s → x ∈ s.2 → (∀ e ∈ L, e ∈ incT A x) →
    BfJ N A m0 v (L.foldl (seeC A x) s) ∧ (∀ y ∈ s.2, y ∈ (L.foldl (seeC A x) s).2) ∧ (∀ y, s.1.getD y false = true → (L.foldl (seeC A x) s).1.getD y false = true) ∧ ∀ e ∈ L, (L.foldl (seeC A x) s).1.getD (oth A e x) false = true
  | [], s, h, _, _ => ⟨h, fun y hy => hy, fun y hy => hy, by simp⟩
  | e :: L, s, h, hx, hL => by
    obtain ⟨h1, h2, h3⟩ := h.see ok hx (hL e (List.mem_cons_self ..))
    obtain ⟨k1, k2, k3, k4⟩ := BfJ.seeAll ok L h1 (h2 x hx) (fun y hy => hL y (List.mem_cons_of_mem _ hy))
    refine ⟨k1, fun y hy => k2 y (h2 y hy), fun y hy => k3 y ?_, fun y hy => ?_⟩
    · rw [h1.mk1]; rw [h.mk1] at hy
      exact hy.elim .inl (fun z => .inr (h2 y z))
    · rcases List.mem_cons.1 hy with rfl | hy
      · exact k3 _ h3
      · exact k4 y hy
/-- The whole search: all in the list below i are done. -/
theorem bfs_law {m0 : List Bool} {v : Nat} (ok : Ok N A) : ∀ (f i : Nat) (s : List Bool × List Nat), BfJ N A m0 v s → i ≤ s.2.length → N ≤ f + i → (∀ j, j < i → ∀ x, s.2[j]? = some x → ∀ e ∈ incT A x, s.1.getD (oth A e x) false = true) →
    BfJ N A m0 v (bfsT A f i s) ∧ (∀ y ∈ s.2, y ∈ (bfsT A f i s).2) ∧ ∀ x ∈ (bfsT A f i s).2, ∀ e ∈ incT A x, (bfsT A f i s).1.getD (oth A e x) false = true
  | 0, i, s, h, hi, hf, hd => by
    refine ⟨h, fun y hy => hy, fun x hx e he => ?_⟩
    obtain ⟨j, hj, ej⟩ := List.getElem_of_mem hx
    have hj : j < s.2.length := hj
    have := h.inv.le
    exact hd j (by omega) x (by rw [List.getElem?_eq_getElem hj]; exact congrArg some ej) e he
  | f + 1, i, s, h, hi, hf, hd => by
    unfold bfsT
    by_cases hlt : i < s.2.length
    · rw [if_pos hlt, List.getD_eq_getElem?_getD, List.getElem?_eq_getElem hlt, Option.getD_some]
      have hx : s.2[i] ∈ s.2 := List.getElem_mem hlt
      obtain ⟨k1, k2, k3, k4⟩ := BfJ.seeAll ok (incT A s.2[i]) h hx (fun e he => he)
      obtain ⟨t, ht⟩ := seeC_preL A s.2[i] (incT A s.2[i]) s
      have he : expT A s s.2[i] = (incT A s.2[i]).foldl (seeC A s.2[i]) s := rfl
      rw [← he] at k1 k2 k3 k4 ht
      obtain ⟨r1, r2, r3⟩ := bfs_law ok f (i + 1) (expT A s s.2[i]) k1 (by rw [ht, List.length_append]; omega) (by omega) (fun j hj x hx e he2 => by
        by_cases hji : j = i
        · subst hji
          rw [ht, List.getElem?_append_left hlt, List.getElem?_eq_getElem hlt] at hx
          rw [← Option.some.inj hx] at he2 ⊢
          exact k4 e he2
        · rw [ht, List.getElem?_append_left (by omega)] at hx
          exact k3 _ (hd j (by omega) x hx e he2))
      exact ⟨r1, fun y hy => r2 y (k2 y hy), r3⟩
    · rw [if_neg hlt]
      refine ⟨h, fun y hy => hy, fun x hx e he => ?_⟩
      obtain ⟨j, hj, ej⟩ := List.getElem_of_mem hx
      exact hd j (by omega) x (by rw [List.getElem?_eq_getElem hj, ej]) e he
/-- v is the first of its component. -/
def fstV (A : Arcs) (v : Nat) : Prop := ∀ u, u < v → ¬ JJ A u v
theorem comp_law (ok : Ok N A) : ∀ k, k ≤ N → (compK N A k).1.length = N ∧ (∀ x, (compK N A k).1.getD x false = true ↔ ∃ u, u < k ∧ JJ A u x ∧ x < N) ∧ (compK N A k).2 = clsK (labT N A (-1) (-1)) k
  | 0, _ => ⟨by simp [compK], fun x => ⟨fun h => by
      unfold compK at h
      simp only [List.range_zero, List.foldl_nil] at h
      rw [List.getD_eq_getElem?_getD, List.getElem?_replicate] at h
      split at h <;> simp at h, fun ⟨u, hu, _⟩ => absurd hu (Nat.not_lt_zero u)⟩, rfl⟩
  | k + 1, hk => by
    obtain ⟨h1, h2, h3⟩ := comp_law ok k (by omega)
    have hll := labT_len N A (-1) (-1)
    have lab : ∀ {u v : Nat}, u < N → v < N → ((labT N A (-1) (-1)).getD u 0 = (labT N A (-1) (-1)).getD v 0 ↔ JJ A u v) := fun {u v} hu hv => lab_iff ok hu hv (by omega) (by omega)
    have cF : clsF (labT N A (-1) (-1)) k k = true ↔ ∀ u, u < k → ¬ JJ A u k := by
      unfold clsF
      rw [List.all_eq_true]
      constructor
      · intro h u hu hj
        have := h u (List.mem_range.2 hu)
        rw [(lab (by omega) (by omega)).2 hj] at this
        simp at this
      · intro h u hu
        have hu := List.mem_range.1 hu
        rw [bne_iff_ne]
        exact fun e => h u hu ((lab (by omega) (by omega)).1 e)
    rw [compK_succ, clsK_succ]
    unfold compStep
    by_cases hm : (compK N A k).1.getD k false = true
    · rw [if_pos hm]
      obtain ⟨u, hu, hj, _⟩ := (h2 k).1 hm
      rw [if_neg (fun z => cF.1 z u hu hj), List.append_nil]
      refine ⟨h1, fun x => ?_, h3⟩
      rw [h2]
      constructor
      · rintro ⟨u, a, b⟩; exact ⟨u, by omega, b⟩
      · rintro ⟨u', a, b, c⟩
        by_cases e : u' = k
        · subst e; exact ⟨u, hu, J.trans hj b, c⟩
        · exact ⟨u', by omega, b, c⟩
    · rw [if_neg hm]
      have hfst : ∀ u, u < k → ¬ JJ A u k := fun u hu hj => hm ((h2 k).2 ⟨u, hu, hj, by omega⟩)
      rw [if_pos (cF.2 hfst)]
      have hb0 : BfJ N A (compK N A k).1 k ((compK N A k).1.set k true, [k]) := by
        refine ⟨⟨by simp [h1], by simp, fun x hx => ?_⟩, fun x hx => ?_, fun x => ?_⟩
        · rw [List.mem_singleton.1 hx, getD_set, if_pos ⟨rfl, by omega⟩]; exact ⟨by omega, rfl⟩
        · rw [List.mem_singleton.1 hx]; exact .refl _
        · rw [getD_set]
          by_cases e : k = x
          · rw [if_pos ⟨e, by omega⟩]; exact ⟨fun _ => .inr (by simp [e]), fun _ => rfl⟩
          · rw [if_neg (fun z => e z.1)]
            exact ⟨.inl, fun z => z.elim id (fun z => absurd (List.mem_singleton.1 z).symm e)⟩
      obtain ⟨r1, r2, r3⟩ := bfs_law ok N 0 _ hb0 (Nat.zero_le _) (by omega) (fun j hj => absurd hj (Nat.not_lt_zero j))
      generalize bfsT A N 0 ((compK N A k).1.set k true, [k]) = S at r1 r2 r3
      have hk0 := r2 k (List.mem_singleton_self _)
      have mem : ∀ x, x ∈ S.2 ↔ JJ A k x := fun x => by
        refine ⟨r1.jn x, fun hj => ?_⟩
        refine JJ.closed (S := fun y => y ∈ S.2) (fun y hy e he => ?_) hj hk0
        have := r3 y hy e he
        rw [r1.mk1] at this
        rcases this with h4 | h4
        · exfalso
          obtain ⟨u, hu, hju, _⟩ := (h2 _).1 h4
          exact hfst u hu (J.trans hju (J.symm (J.trans (r1.jn y hy) (JJ.edge he))))
        · exact h4
      refine ⟨r1.inv.len, fun x => ?_, ?_⟩
      · dsimp only
        rw [r1.mk1, h2, mem]
        constructor
        · rintro (⟨u, a, b⟩ | h4)
          · exact ⟨u, by omega, b⟩
          · exact ⟨k, by omega, h4, J_lt ok h4 (by omega)⟩
        · rintro ⟨u, a, b, c⟩
          by_cases e : u = k
          · subst e; exact .inr b
          · exact .inl ⟨u, by omega, b, c⟩
      · dsimp only
        rw [h3]
        congr 2
        refine asc_ext (nodup_le_asc (sortN_asc _) ((sortN_perm _).nodup_iff.2 r1.inv.nd)) (List.Pairwise.filter _ List.pairwise_lt_range) (fun x => ?_)
        rw [(sortN_perm _).mem_iff, mem]
        unfold clsR
        rw [hll, List.mem_filter, List.mem_range]
        simp only [Bool.and_eq_true, decide_eq_true_eq, beq_iff_eq]
        constructor
        · intro hj
          have hx := J_lt ok hj (show k < N by omega)
          refine ⟨hx, ?_, ?_⟩
          · by_cases hlt : x < k
            · exact absurd hj.symm (hfst x hlt)
            · omega
          · exact (lab hx (by omega)).2 hj.symm
        · rintro ⟨a, b, c⟩
          exact ((lab a (by omega)).1 c).symm
/-- THE COMPONENTS' LAW. -/
theorem comp_eq (ok : Ok N A) : compP N A = compR N A := by
  unfold compP compR classesT
  rw [labT_len]
  exact (comp_law ok N (Nat.le_refl _)).2.2
end Go.Proofs.Ytaipcpdncmnelaa.Pt

/- The law of Components and Connected, walked. -/
namespace Go.Proofs.Ytaipcpdncmnelaa.Pt
open Go.RowKit Go.Sort Go.Lib Fx Tp

theorem rows_nil (w : World) (a : Option Addr) : Tp.RowsIn w a [] := fun j hj => absurd hj (by simp)
theorem lists_eq {a b : Option Addr} {ca cb K : Nat} {R : List (List Int)} (hK : K = R.length) (hl : R.length ≤ 256) (hr : ∀ r ∈ R, r.length ≤ 256) {w : World} (ha : Tp.RowsIn w a R) (hb : Tp.RowsIn w b R) :
    Calls Try.prog 10 #[.slice a K ca, .slice b K cb] w fun e w' => e = .returned (.bool true) ∧ Ext w w' := by
  subst hK
  refine (sameAll_any a b R R ca cb w ha hb (by omega) (by omega) (fun r h => by have := hr r h; omega) (fun r h => by have := hr r h; omega)).mono ?_
  rintro e w' ⟨rfl, x⟩
  exact ⟨by rw [decide_eq_true rfl], x⟩
theorem compR_len {N : Nat} {A : Arcs} : (compR N A).length ≤ N := by
  have := clsK_len (labT N A (-1) (-1)) (labT N A (-1) (-1)).length
  unfold compR classesT
  rw [labT_len] at this ⊢
  exact this
theorem compR_row {N : Nat} {A : Arcs} {r : List Nat} (h : r ∈ compR N A) : r.length ≤ N := by
  unfold compR classesT clsK at h
  obtain ⟨i, _, rfl⟩ := List.mem_map.1 h
  have := clsR_len (labT N A (-1) (-1)) i (labT N A (-1) (-1)).length
  rw [labT_len] at this ⊢
  exact this
/-- What the four functions hand back. -/
theorem comps_all {n : Int} {a : Option Addr} {L : ArcZ} {cap : Nat} {w : World} (hn0 : -9223372036854775808 ≤ n) (hn1 : n ≤ 9223372036854775807) (h : ArcIn w a L) (hk : ArcOk L) (hL : L.length ≤ 9223372036854775807) :
    ∃ (R : List (List Int)) (B : Bool), R.length ≤ 256 ∧ (∀ r ∈ R, r.length ≤ 256) ∧
      (∀ w1, Ext w w1 → Calls Try.prog 11 #[.agg #[.int .i64 n, .slice a L.length cap]] w1 fun e w' => ∃ b c, e = .returned (.slice b R.length c) ∧ Tp.RowsIn w' b R ∧ Ext w1 w') ∧
      (∀ w1, Ext w w1 → Calls Try.prog 12 #[.agg #[.int .i64 n, .slice a L.length cap]] w1 fun e w' => ∃ b c, e = .returned (.slice b R.length c) ∧ Tp.RowsIn w' b R ∧ Ext w1 w') ∧
      (∀ w1, Ext w w1 → Calls Try.prog 13 #[.agg #[.int .i64 n, .slice a L.length cap]] w1 fun e w' => e = .returned (.bool B) ∧ Ext w1 w') ∧
      (∀ w1, Ext w w1 → Calls Try.prog 14 #[.agg #[.int .i64 n, .slice a L.length cap]] w1 fun e w' => e = .returned (.bool B) ∧ Ext w1 w') := by
  by_cases hv : validL n L = true
  · obtain ⟨N, A, rfl, hN, hz, hA, ok⟩ := valid_nat hv
    have hz : L = zarc A := hz
    subst hz
    have he := comp_eq ok
    refine ⟨(compR N A).map zl, ((compR N A).length : Int) == 1, by rw [List.length_map]; have := compR_len (N := N) (A := A); omega, fun r hr => ?_, fun w1 x => ?_, fun w1 x => ?_, fun w1 x => ?_, fun w1 x => ?_⟩
    · obtain ⟨q, hq, rfl⟩ := List.mem_map.1 hr
      rw [zl_len]; have := compR_row hq; omega
    · rw [zarc_len, List.length_map]
      refine (comp_any N a A cap w1 hN (h.ext x) hA ok).mono ?_
      rintro e w' ⟨⟨fv, rfl, hr⟩, y⟩
      obtain ⟨b, c, rfl, hr2⟩ := hr.rows
      rw [he] at hr2
      exact ⟨b, c, by rw [he], hr2, y⟩
    · rw [zarc_len, List.length_map]
      refine (compR_any N a A cap w1 hN (h.ext x) hA ok).mono ?_
      rintro e w' ⟨⟨fv, rfl, hr⟩, y⟩
      obtain ⟨b, c, rfl, hr2⟩ := hr.rows
      exact ⟨b, c, rfl, hr2, y⟩
    · rw [zarc_len, ← he]
      exact conn_any N a A cap w1 hN (h.ext x) hA ok
    · rw [zarc_len]
      exact connR_any N a A cap w1 hN (h.ext x) hA ok
  · have hv : validL n L = false := by simpa using hv
    refine ⟨[], false, Nat.zero_le _, (fun r h => by cases h), fun w1 x => (comp_bad n a L cap w1 hn0 hn1 (h.ext x) hk hL hv).mono ?_, fun w1 x => (compR_bad n a L cap w1 hn0 hn1 (h.ext x) hk hL hv).mono ?_, fun w1 x => conn_bad n a L cap w1 hn0 hn1 (h.ext x) hk hL hv, fun w1 x => connR_bad n a L cap w1 hn0 hn1 (h.ext x) hk hL hv⟩ <;>
      (rintro e w' ⟨rfl, y⟩; exact ⟨_, _, rfl, rows_nil _ _, y⟩)
set_option maxHeartbeats 8000000 in
theorem comps_walk (VIS : Vis) (g : Value) (w : World) (hg : DigArg w g) :
    Calls Try.prog 3 #[g] w fun e w' => e = .returned (.bool true) ∧ Ext w w' := by
  obtain ⟨n, a, L, cap, rfl, hn0, hn1, h, hk, hL⟩ := hg
  obtain ⟨R, B, hR, hRr, h1, h2, h3, h4⟩ := comps_all (cap := cap) hn0 hn1 h hk hL
  have hf := fun w1 (x : Ext w w1) => few_any n a L cap w1 hn0 hn1 (h.ext x) hk hL
  obtain ⟨fb, hfb⟩ : ∃ fb, fb = fewB n L := ⟨_, rfl⟩
  rw [← hfb] at hf
  obtain ⟨M, hM⟩ : ∃ M, M = L.length := ⟨_, rfl⟩
  obtain ⟨K, hK⟩ : ∃ K, K = R.length := ⟨_, rfl⟩
  rw [← hM] at h1 h2 h3 h4 hf
  rw [← hK] at h1 h2
  rw [← hM]
  have HF := Lib.hid hf; have H1 := Lib.hid h1; have H2 := Lib.hid h2; have H3 := Lib.hid h3; have H4 := Lib.hid h4; have HR := Lib.hid hR; have HRR := Lib.hid hRr; have HK := Lib.hid hK; have V := Lib.hid VIS
  clear h hk hL hM h1 h2 h3 h4 hR hRr hK hf hfb VIS
  cases fb
  · go_enter Try.func3, Try.ntmps3
    go_wp2_with (first
      | (go_at_call 8; refine (HF.out _ ((Ext.refl _).alloc _)).mono ?_; rintro e w0 ⟨rfl, x0⟩; have X0 := Lib.hid x0; clear x0)
      | (go_at_call 9; refine (awake_any V.out _).mono ?_; rintro e w4 ⟨rfl, x4⟩))
    go_ret
    exact ⟨rfl, (((Ext.refl _).alloc _).trans X0.out).trans x4⟩
  · go_enter Try.func3, Try.ntmps3
    go_wp2_with (go_at_call 8; refine (HF.out _ ((Ext.refl _).alloc _)).mono ?_; rintro e w0 ⟨rfl, x0⟩)
    have X0 := Ext.trans (a := w) ((Ext.refl _).alloc _) x0
    obtain ⟨k10, k11⟩ := box_two x0
    cases B
    all_goals (
      go_region_held3 (fun w' => w'.cell? ⟨w.heap.size, 0, none⟩ = some (.int .i64 n) ∧ w'.cell? ⟨w.heap.size, 1, none⟩ = some (.slice a M cap))
        (refine ⟨Ext.cell (w := w0) ?_ k10, Ext.cell (w := w0) ?_ k11⟩ <;> (repeat (first | assumption | exact Ext.refl _ | refine Ext.alloc ?_ _ | refine Ext.drew ?_)))
        (first
          | (go_at_call 11; refine (H1.out _ (by (repeat (first | assumption | exact Ext.refl _ | refine Ext.alloc ?_ _ | refine Ext.drew ?_)))).mono ?_; rintro e w1 ⟨q1, k1, rfl, i1, x1⟩; have X1 := Ext.trans (a := w0) (by (repeat (first | assumption | exact Ext.refl _ | refine Ext.alloc ?_ _ | refine Ext.drew ?_))) x1; have Y1 := Ext.trans (a := w) (by (repeat (first | assumption | exact Ext.refl _ | refine Ext.alloc ?_ _ | refine Ext.drew ?_))) x1)
          | (go_at_call 12; refine (H2.out _ (by (repeat (first | assumption | exact Ext.refl _ | refine Ext.alloc ?_ _ | refine Ext.drew ?_)))).mono ?_; rintro e w2 ⟨q2, k2, rfl, i2, x2⟩; have X2 := Ext.trans (a := w0) (by (repeat (first | assumption | exact Ext.refl _ | refine Ext.alloc ?_ _ | refine Ext.drew ?_))) x2; have Y2 := Ext.trans (a := w) (by (repeat (first | assumption | exact Ext.refl _ | refine Ext.alloc ?_ _ | refine Ext.drew ?_))) x2)
          | (go_at_call 10; refine (lists_eq HK.out HR.out HRR.out (by first | exact i1 | exact i1.ext x2) (by first | exact i2 | exact i2.ext x1)).mono ?_; rintro e w3 ⟨rfl, x3⟩; have X3 := Ext.trans (a := w0) (by (repeat (first | assumption | exact Ext.refl _ | refine Ext.alloc ?_ _ | refine Ext.drew ?_))) x3; have Y3 := Ext.trans (a := w) (by (repeat (first | assumption | exact Ext.refl _ | refine Ext.alloc ?_ _ | refine Ext.drew ?_))) x3)
          | (go_at_call 13; refine (H3.out _ (by (repeat (first | assumption | exact Ext.refl _ | refine Ext.alloc ?_ _ | refine Ext.drew ?_)))).mono ?_; rintro e w5 ⟨rfl, x5⟩; have X5 := Ext.trans (a := w0) (by (repeat (first | assumption | exact Ext.refl _ | refine Ext.alloc ?_ _ | refine Ext.drew ?_))) x5; have Y5 := Ext.trans (a := w) (by (repeat (first | assumption | exact Ext.refl _ | refine Ext.alloc ?_ _ | refine Ext.drew ?_))) x5)
          | (go_at_call 14; refine (H4.out _ (by (repeat (first | assumption | exact Ext.refl _ | refine Ext.alloc ?_ _ | refine Ext.drew ?_)))).mono ?_; rintro e w6 ⟨rfl, x6⟩; have X6 := Ext.trans (a := w0) (by (repeat (first | assumption | exact Ext.refl _ | refine Ext.alloc ?_ _ | refine Ext.drew ?_))) x6; have Y6 := Ext.trans (a := w) (by (repeat (first | assumption | exact Ext.refl _ | refine Ext.alloc ?_ _ | refine Ext.drew ?_))) x6)
          | (go_at_call 9; refine (awake_any V.out _).mono ?_; rintro e w4 ⟨rfl, x4⟩; have X4 := Ext.trans (a := w0) (by (repeat (first | assumption | exact Ext.refl _ | refine Ext.alloc ?_ _ | refine Ext.drew ?_))) x4; have Y4 := Ext.trans (a := w) (by (repeat (first | assumption | exact Ext.refl _ | refine Ext.alloc ?_ _ | refine Ext.drew ?_))) x4))
      all_goals (
        go_wp2_with fail
        go_ret
        exact ⟨rfl, Y4⟩))
end Go.Proofs.Ytaipcpdncmnelaa.Pt
