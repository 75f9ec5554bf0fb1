/- Packed texts: TopCyc, TopPart, TopLawF, FixPost -/
import Derived.Test.YtjjcjoedgmfalaaPt01
import Derived.Test.YtjjcjoedgmfalaaPt05
import Derived.Test.YtjjcjoedgmfalaaPt09
import Derived.BigQuiet
import Derived.ProofKit
set_option linter.unusedVariables false
set_option linter.unusedSimpArgs false
/- A full order exists exactly without loops and with as many components as vertices. -/
namespace Go.Proofs.Ytjjcjoedgmfalaa.Tp

theorem idx_split {d a l : List Nat} {b : Nat} (e : d = a ++ b :: l) (hn : d.Nodup) : d.idxOf b = a.length ∧ ∀ u ∈ a, d.idxOf u < d.idxOf b := by
  subst e
  have hb : b ∉ a := fun h => (List.nodup_append.1 hn).2.2 b h b (List.mem_cons_self ..) rfl
  have h1 : (a ++ b :: l).idxOf b = a.length := by
    rw [List.idxOf_append, if_neg hb]; simp
  refine ⟨h1, fun u hu => ?_⟩
  rw [h1, List.idxOf_append, if_pos hu]
  exact List.idxOf_lt_length_iff.2 hu
theorem arc_idx {N : Nat} {A : Arcs} (hf : ∀ x, x < N → x ∈ ordT N A) (ok : Ok N A) {u v : Nat} (h : (u, v) ∈ A) : (ordT N A).idxOf u < (ordT N A).idxOf v := by
  obtain ⟨a, l, e⟩ := List.append_of_mem (hf v (ok _ h).2)
  have hi := (ordT_inv N A).1
  exact (idx_split e hi.nodup).2 u (hi.pre a v l e u h)
theorem path_idx {N : Nat} {A : Arcs} (hf : ∀ x, x < N → x ∈ ordT N A) (ok : Ok N A) {u v : Nat} (h : Path A u v) : u = v ∨ (ordT N A).idxOf u < (ordT N A).idxOf v := by
  induction h with
  | refl => exact .inl rfl
  | step _ ha ih =>
    have := arc_idx hf ok ha
    rcases ih with rfl | ih
    · exact .inr this
    · exact .inr (Nat.lt_trans ih this)
theorem strong_full {N : Nat} {A : Arcs} (h : ∀ v, v < N → compT N A v = [v]) : (strongT N A).length = N := by
  have : strongT N A = (List.range N).map (fun v => [v]) := by
    have key : ∀ l : List Nat, (∀ v ∈ l, v < N) → l.filterMap (fun v => if (compT N A v).getD 0 0 = v then some (compT N A v) else none) = l.map (fun v => [v]) := by
      intro l
      induction l with
      | nil => intro _; rfl
      | cons x l ih =>
        intro hl
        rw [List.filterMap_cons, h x (hl x (List.mem_cons_self ..)), ih (fun v hv => hl v (List.mem_cons_of_mem _ hv)), if_pos (show [x].getD 0 0 = x from rfl)]
        rfl
    exact key _ (fun v hv => List.mem_range.1 hv)
  rw [this]; simp
theorem filterMap_full {α β : Type} (f : α → Option β) : ∀ l : List α, (l.filterMap f).length = l.length → ∀ x ∈ l, (f x).isSome = true
  | [], _, x, hx => by cases hx
  | a :: l, h, x, hx => by
    rw [List.filterMap_cons] at h
    cases ha : f a with
    | none =>
      rw [ha] at h
      have := List.length_filterMap_le f l
      simp only [List.length_cons] at h
      omega
    | some b =>
      rw [ha] at h
      simp only [List.length_cons] at h
      rcases List.mem_cons.1 hx with rfl | hx
      · rw [ha]; rfl
      · exact filterMap_full f l (by omega) x hx
theorem full_head {N : Nat} {A : Arcs} (h : (strongT N A).length = N) {v : Nat} (hv : v < N) : (compT N A v).getD 0 0 = v := by
  have := filterMap_full _ (List.range N) (by rw [List.length_range]; exact h) v (List.mem_range.2 hv)
  by_cases e : (compT N A v).getD 0 0 = v
  · exact e
  · rw [if_neg e] at this; cases this
theorem comp_eq {N : Nat} {A : Arcs} (ok : Ok N A) {u v : Nat} (hu : u < N) (hv : v < N) (h1 : Path A u v) (h2 : Path A v u) : compT N A u = compT N A v :=
  asc_ext (compT_asc N A u) (compT_asc N A v) fun y => by
    rw [mem_compT ok hu, mem_compT ok hv]
    exact ⟨fun ⟨a, b, c⟩ => ⟨a, h2.trans b, c.trans h1⟩, fun ⟨a, b, c⟩ => ⟨a, h1.trans b, c.trans h2⟩⟩
theorem no_cyc {N : Nat} {A : Arcs} (ok : Ok N A) (hl : ∀ p ∈ A, p.1 ≠ p.2) (hs : (strongT N A).length = N) {u v : Nat} (ha : (u, v) ∈ A) : ¬ Path A v u := fun hp => by
  obtain ⟨hu, hv⟩ := ok _ ha
  have e := comp_eq ok hu hv (.step (.refl u) ha) hp
  have h1 := full_head hs hu
  have h2 := full_head hs hv
  rw [e, h2] at h1
  exact hl _ ha h1.symm
/-- How many reach v. -/
def anc (N : Nat) (A : Arcs) (v : Nat) : List Nat := (List.range N).filter (fun y => (reachT N A y).contains v)
theorem mem_anc {N : Nat} {A : Arcs} (ok : Ok N A) {v y : Nat} : y ∈ anc N A v ↔ y < N ∧ Path A y v := by
  unfold anc
  rw [List.mem_filter, List.mem_range]
  exact ⟨fun ⟨a, b⟩ => ⟨a, (mem_reachT ok a).1 (by simpa using b)⟩, fun ⟨a, b⟩ => ⟨a, by simpa using (mem_reachT ok a).2 b⟩⟩
theorem anc_lt {N : Nat} {A : Arcs} (ok : Ok N A) {u v : Nat} (ha : (u, v) ∈ A) (hc : ¬ Path A v u) : (anc N A u).length < (anc N A v).length := by
  have hn : (v :: anc N A u).Nodup := List.nodup_cons.2 ⟨fun h => hc ((mem_anc ok).1 h).2, List.Pairwise.filter _ List.nodup_range⟩
  have := nodup_sub (m := anc N A v) hn (fun x hx => by
    rcases List.mem_cons.1 hx with rfl | hx
    · exact (mem_anc ok).2 ⟨(ok _ ha).2, .refl _⟩
    · obtain ⟨h1, h2⟩ := (mem_anc ok).1 hx
      exact (mem_anc ok).2 ⟨h1, .step h2 ha⟩)
  rw [List.length_cons] at this; omega
theorem stuck {N : Nat} {A : Arcs} (ok : Ok N A) (hl : ∀ p ∈ A, p.1 ≠ p.2) (hs : (strongT N A).length = N) {d : List Nat} (hd : ∀ v, v < N → v ∉ d → ∃ u, (u, v) ∈ A ∧ u ∉ d) : ∀ n v, v < N → v ∉ d → (anc N A v).length ≤ n → False
  | 0, v, hv, _, hn => by
    have : v ∈ anc N A v := (mem_anc ok).2 ⟨hv, .refl _⟩
    have := List.length_pos_of_mem this
    omega
  | n + 1, v, hv, hx, hn => by
    obtain ⟨u, hu, hux⟩ := hd v hv hx
    have := anc_lt ok hu (no_cyc ok hl hs hu)
    exact stuck ok hl hs hd n u (ok _ hu).1 hux (by omega)
theorem fullM {N : Nat} {l : List Nat} (hn : l.Nodup) (hl : ∀ x ∈ l, x < N) (h : l.length = N) : ∀ x, x < N → x ∈ l := fun x hx => by
  refine Classical.byContradiction fun hx2 => ?_
  have h1 := nodup_len (N := N) (List.nodup_cons.2 ⟨hx2, hn⟩) (fun y hy => by
    rcases List.mem_cons.1 hy with rfl | hy
    · exact hx
    · exact hl y hy)
  rw [List.length_cons] at h1; omega
/-- The plain law. -/
theorem full_iff {N : Nat} {A : Arcs} (ok : Ok N A) : (ordT N A).length = N ↔ (∀ p ∈ A, p.1 ≠ p.2) ∧ (strongT N A).length = N := by
  have hi := ordT_inv N A
  constructor
  · intro hf
    have hm := fullM hi.1.nodup hi.1.lt hf
    refine ⟨fun p hp e => ?_, strong_full fun v hv => ?_⟩
    · have := arc_idx hm ok (u := p.1) (v := p.2) hp
      rw [e] at this; omega
    · refine asc_ext (compT_asc N A v) (List.pairwise_singleton _ _) fun y => ?_
      rw [mem_compT ok hv, List.mem_singleton]
      constructor
      · rintro ⟨_, h1, h2⟩
        rcases path_idx hm ok h1 with e | e
        · exact e.symm
        · rcases path_idx hm ok h2 with e2 | e2
          · exact e2
          · omega
      · rintro rfl
        exact ⟨hv, .refl _, .refl _⟩
  · rintro ⟨hl, hs⟩
    refine Classical.byContradiction fun hf => ?_
    have hle := hi.1.small
    obtain ⟨v, hv, hx⟩ : ∃ v, v < N ∧ v ∉ ordT N A := by
      refine Classical.byContradiction fun hc => hf ?_
      have := nodup_sub (l := List.range N) (m := ordT N A) List.nodup_range (fun x hx => Classical.byContradiction fun h => hc ⟨x, List.mem_range.1 hx, h⟩)
      rw [List.length_range] at this; omega
    refine stuck ok hl hs (d := ordT N A) (fun v hv hx => ?_) _ v hv hx (Nat.le_refl _)
    refine Classical.byContradiction fun hc => ?_
    have := leastF_none.1 hi.2 v hv
    rw [freeB_iff.2 ⟨hx, fun u hu => Classical.byContradiction fun h => hc ⟨u, hu, h⟩⟩] at this
    cases this
end Go.Proofs.Ytjjcjoedgmfalaa.Tp

/- Every vertex lies in exactly one component, and mutual reach is the same component. -/
namespace Go.Proofs.Ytjjcjoedgmfalaa.Tp

theorem strong_mem {N : Nat} {A : Arcs} (ok : Ok N A) {c : List Nat} (hc : c ∈ strongT N A) : c ≠ [] ∧ ∀ x ∈ c, x < N ∧ c = compT N A x := by
  unfold strongT at hc
  obtain ⟨v, hv, h⟩ := List.mem_filterMap.1 hc
  have hv := List.mem_range.1 hv
  by_cases h1 : (compT N A v).getD 0 0 = v
  · rw [if_pos h1] at h
    cases h
    refine ⟨fun e => ?_, fun x hx => ?_⟩
    · have : v ∈ compT N A v := (mem_compT ok hv).2 ⟨hv, .refl _, .refl _⟩
      rw [e] at this; cases this
    · obtain ⟨hx1, hx2, hx3⟩ := (mem_compT ok hv).1 hx
      exact ⟨hx1, comp_eq ok hv hx1 hx2 hx3⟩
  · rw [if_neg h1] at h; cases h
theorem strong_has {N : Nat} {A : Arcs} (ok : Ok N A) {v : Nat} (hv : v < N) : ∃ i, ∃ h : i < (strongT N A).length, v ∈ (strongT N A)[i] := by
  have hvm : v ∈ compT N A v := (mem_compT ok hv).2 ⟨hv, .refl _, .refl _⟩
  have hne : compT N A v ≠ [] := fun e => by rw [e] at hvm; cases hvm
  have hh := head_mem hne
  obtain ⟨r, hr⟩ : ∃ r, r = (compT N A v).getD 0 0 := ⟨_, rfl⟩
  rw [← hr] at hh
  obtain ⟨h1, h2, h3⟩ := (mem_compT ok hv).1 hh
  have e := comp_eq ok hv h1 h2 h3
  have : compT N A v ∈ strongT N A := by
    unfold strongT
    refine List.mem_filterMap.2 ⟨r, List.mem_range.2 h1, ?_⟩
    rw [← e, ← hr, if_pos rfl]
  obtain ⟨i, hi, hie⟩ := List.getElem_of_mem this
  exact ⟨i, hi, by rw [hie]; exact hvm⟩
theorem strong_one {N : Nat} {A : Arcs} (ok : Ok N A) {i j x : Nat} (hi : i < (strongT N A).length) (hj : j < (strongT N A).length) (h1 : x ∈ (strongT N A)[i]) (h2 : x ∈ (strongT N A)[j]) : i = j := by
  have e1 := ((strong_mem ok (List.getElem_mem hi)).2 x h1).2
  have e2 := ((strong_mem ok (List.getElem_mem hj)).2 x h2).2
  have hk := List.pairwise_iff_getElem.1 (strongT_keys N A)
  rcases Nat.lt_trichotomy i j with h | h | h
  · have := hk i j hi hj h; rw [e1, e2] at this; omega
  · exact h
  · have := hk j i hj hi h; rw [e1, e2] at this; omega
structure OfI (S : List (List Nat)) (N k m : Nat) (P : List Int) : Prop where
  len : P.length = N
  old : ∀ i (h : i < S.length), i < k → ∀ v ∈ S[i], P.getD v 0 = (i : Int) + 1
  cur : ∀ (h : k < S.length), ∀ v ∈ S[k].take m, P.getD v 0 = (k : Int) + 1
  zero : ∀ v, v < N → (∀ i (h : i < S.length), i < k → v ∉ S[i]) → (∀ (h : k < S.length), v ∉ S[k].take m) → P.getD v 0 = 0
theorem OfI.start (S : List (List Nat)) (N : Nat) : OfI S N 0 0 (List.replicate N 0) :=
  ⟨by simp, fun i _ h => absurd h (Nat.not_lt_zero i), fun _ v hv => by simp at hv, fun v _ _ _ => getD_rep N v⟩
section
variable {N : Nat} {A : Arcs} {k m : Nat} {P : List Int}
theorem OfI.at0 (h : OfI (strongT N A) N k m P) (ok : Ok N A) (hk : k < (strongT N A).length) (hm : m < (strongT N A)[k].length) : P.getD (strongT N A)[k][m] 0 = 0 := by
  have hmem := List.getElem_mem hm
  have hs := strong_mem ok (List.getElem_mem hk)
  refine h.zero _ (hs.2 _ hmem).1 (fun i hi hik hx => ?_) (fun _ => ?_)
  · have := strong_one ok hi hk hx hmem; omega
  · have hn : (strongT N A)[k].Nodup := by
      rw [(hs.2 _ hmem).2]; exact List.Pairwise.filter _ List.nodup_range
    exact (idx_atP hn hm)
where
  idx_atP {o : List Nat} (hn : o.Nodup) {k : Nat} (h : k < o.length) : o[k] ∉ o.take k := fun hm => by
    have e : o = o.take k ++ o[k] :: o.drop (k + 1) := by rw [List.getElem_cons_drop, List.take_append_drop]
    rw [e] at hn
    exact (List.nodup_append.1 hn).2.2 _ hm _ (List.mem_cons_self ..) rfl
theorem OfI.step (h : OfI (strongT N A) N k m P) (ok : Ok N A) (hk : k < (strongT N A).length) (hm : m < (strongT N A)[k].length) : OfI (strongT N A) N k (m + 1) (P.set (strongT N A)[k][m] ((k : Int) + 1)) := by
  have hmem := List.getElem_mem hm
  have hs := strong_mem ok (List.getElem_mem hk)
  have hvN := (hs.2 _ hmem).1
  refine ⟨by rw [List.length_set, h.len], fun i hi hik v hv => ?_, fun _ v hv => ?_, fun v hv h1 h2 => ?_⟩
  · rw [getD_set, if_neg (fun z => by
      have := strong_one ok hi hk hv (z.1 ▸ hmem); omega)]
    exact h.old i hi hik v hv
  · rw [getD_set]
    by_cases e : (strongT N A)[k][m] = v
    · rw [if_pos ⟨e, by rw [h.len]; exact hvN⟩]
    · rw [if_neg (fun z => e z.1)]
      rw [List.take_succ_eq_append_getElem hm] at hv
      rcases List.mem_append.1 hv with hv | hv
      · exact h.cur hk v hv
      · exact absurd (List.mem_singleton.1 hv).symm e
  · have h3 := h2 hk
    rw [List.take_succ_eq_append_getElem hm, List.mem_append, not_or, List.mem_singleton] at h3
    rw [getD_set, if_neg (fun z => h3.2 z.1.symm)]
    exact h.zero v hv h1 (fun _ => h3.1)
theorem OfI.next (h : OfI (strongT N A) N k m P) (hk : k < (strongT N A).length) (hm : (strongT N A)[k].length ≤ m) : OfI (strongT N A) N (k + 1) 0 P := by
  have ht : (strongT N A)[k].take m = (strongT N A)[k] := List.take_of_length_le hm
  refine ⟨h.len, fun i hi hik v hv => ?_, fun _ v hv => by simp at hv, fun v hv h1 _ => h.zero v hv (fun i hi hik => h1 i hi (by omega)) (fun _ => by rw [ht]; exact h1 k hk (by omega))⟩
  rcases Nat.lt_or_ge i k with h1 | h1
  · exact h.old i hi h1 v hv
  · have e : i = k := by omega
    subst e
    exact h.cur hk v (by rw [ht]; exact hv)
/-- The plain law. -/
theorem OfI.parts (h : OfI (strongT N A) N (strongT N A).length 0 P) (ok : Ok N A) {u v : Nat} (hu : u < N) (hv : v < N) : P.getD u 0 ≠ 0 ∧ 0 ≤ P.getD u 0 ∧ (mutu N A u v = true ↔ P.getD u 0 = P.getD v 0) := by
  obtain ⟨i, hi, hui⟩ := strong_has ok hu
  obtain ⟨j, hj, hvj⟩ := strong_has ok hv
  have e1 := h.old i hi hi u hui
  have e2 := h.old j hj hj v hvj
  have hc := ((strong_mem ok (List.getElem_mem hi)).2 u hui).2
  have hmu : mutu N A u v = true ↔ v ∈ compT N A u := by
    unfold compT
    rw [List.mem_filter, List.mem_range]
    exact ⟨fun z => ⟨hv, z⟩, fun z => z.2⟩
  rw [hmu, ← hc, e1, e2]
  refine ⟨by omega, by omega, fun z => ?_, fun z => ?_⟩
  · rw [strong_one ok hi hj z hvj]
  · have : i = j := by omega
    subst this; exact hvj
end
end Go.Proofs.Ytjjcjoedgmfalaa.Tp

/- The law of the components, walked. -/
namespace Go.Proofs.Ytjjcjoedgmfalaa.Tp
open Go.RowKit Go.Sort Go.Lib Fx

theorem rT_le {N : Nat} {A : Arcs} {v : Nat} : (reachT N A v).length ≤ N := by
  unfold reachT; exact Nat.le_trans (List.length_filter_le _ _) (by simp)
theorem sT_le {N : Nat} {A : Arcs} : (strongT N A).length ≤ N := by
  unfold strongT; exact Nat.le_trans (List.length_filterMap_le _ _) (by simp)
theorem cT_le {N : Nat} {A : Arcs} {v : Nat} : (compT N A v).length ≤ N := by
  unfold compT; exact Nat.le_trans (List.length_filter_le _ _) (by simp)
theorem sT_row {N : Nat} {A : Arcs} {k : Nat} (h : k < (strongT N A).length) : (strongT N A)[k].length ≤ N := by
  have hr := List.getElem_mem h
  generalize (strongT N A)[k] = r at hr
  unfold strongT at hr
  obtain ⟨v, _, hv⟩ := List.mem_filterMap.1 hr
  split at hv
  · cases hv; exact cT_le
  · cases hv
set_option maxHeartbeats 2000000 in
set_option maxRecDepth 100000 in
theorem parts_yes (N : Nat) (a : Option Addr) (A : Arcs) (cap : Nat) (w : World) (hN : N ≤ 20) (h : ArcIn w a (zarc A)) (hA : A.length ≤ 256) (ok : Ok N A) :
    Calls Try.prog 6 #[.agg #[.int .i64 N, .slice a A.length cap]] w fun e w' => e = .returned (.bool true) ∧ Ext w w' := by
  have hval := fun w1 (x : Ext w w1) => validR_any N a (zarc A) cap w1 (by omega) (by omega) (h.ext x) (zarc_ok (by omega) ok) (by rw [zarc_len]; omega)
  rw [valid_ok (by omega) hA ok, zarc_len] at hval
  have hstr := fun w1 (x : Ext w w1) => strongB_any N a A cap w1 (by omega) (h.ext x) hA ok
  have hrc := fun v (hv : v < N) w1 (x : Ext w w1) => reach_any N a A cap v w1 (by omega) (h.ext x) hA ok hv
  have hsl := sT_le (N := N) (A := A)
  obtain ⟨sn, hsn⟩ : ∃ sn, sn = (strongT N A).length := ⟨_, rfl⟩
  obtain ⟨M, hM⟩ : ∃ M, M = A.length := ⟨_, rfl⟩
  rw [← hM] at hval hstr hrc ⊢
  rw [← hsn] at hstr hsl
  have HSN := Lib.hid hsn; have HOK := Lib.hid ok; have HV := Lib.hid hval; have HS := Lib.hid hstr; have HRC := Lib.hid hrc
  have hm1 := run_make_row' (P := Try.prog) 26 3 (.int .i64 0) 8 Try.underlying26 info_int rfl .i64 .i64 N (by omega) (by omega)
  have n0 : decide ((20 : Int) < (N : Int)) = false := decide_eq_false (by omega)
  have n1 : decide (20 < N) = false := decide_eq_false (by omega)
  clear hM ok h hval hstr hrc hsn hA
  go_enter Try.func6, Try.ntmps6
  go_wp2_with (first
    | (go_at_call 16; refine (HV.out _ ((Ext.refl _).alloc _)).mono ?_; rintro e w1 ⟨rfl, x1⟩; have b1 := box_at x1; have b10 := b1.1; have b11 := b1.2; have Y1 := ((Ext.refl w).alloc _).trans x1; clear b1; have b12 := ((Ext.refl w1).alloc (.cells (madeCells #[.int .i64 0] N) 3)).cell b10; have b13 := ((Ext.refl w1).alloc (.cells (madeCells #[.int .i64 0] N) 3)).cell b11)
    | (go_at_call 14; refine (HS.out _ (Y1.alloc _)).mono ?_; rintro e w2 ⟨⟨sa, sc, rfl, hrows⟩, x2⟩))
  have hob := (BlkI.made w1 N).ext x2
  have hlt1 : w.heap.size < w1.heap.size := by have := x1.size; simp at this; omega
  have XX : Ext w1 w2 := ((Ext.refl w1).alloc _).trans x2
  have B0 := Lib.hid (XX.cell b10); have B1 := Lib.hid (XX.cell b11)
  have hrows2 : RowsB w2 (w1.heap.size + 1) sa ((strongT N A).map zl) := by
    refine hrows.mono ?_
    rw [World.size_alloc]; exact Nat.le_refl _
  have HROWS := Lib.hid hrows2; have HXX := Lib.hid XX; have HY1 := Lib.hid Y1
  have b20 := B0.out; have b21 := B1.out
  clear b10 b11 b12 b13 x1 x2 hrows hrows2 XX Y1 hm1 n0 n1
  go_wp2
  clear b20 b21
  go_loopw [5] (fun i' wr => ∃ (k : Nat) (P : List Int), k ≤ sn ∧ i' = .int .i64 k ∧ Hid (OfI (strongT N A) N k 0 P) ∧ Hid (BlkI wr w1.heap.size P) ∧ Hid (Keep (· = w1.heap.size) w2 wr)) (fun i' _ => sn - (RowKit.intOf i').toNat)
  case atStart => exact ⟨0, List.replicate N 0, Nat.zero_le _, rfl, Lib.hid (OfI.start _ N), Lib.hid hob, Lib.hid (Keep.refl _ _)⟩
  case round =>
    obtain ⟨k, P, hk, rfl, hP, hb, hK⟩ := hrel
    have b10 := hK.out.cell B0.out (by show ¬ w.heap.size = w1.heap.size; omega)
    have b11 := hK.out.cell B1.out (by show ¬ w.heap.size = w1.heap.size; omega)
    by_cases hks : k < sn
    · have hkS : k < (strongT N A).length := by rw [← HSN.out]; exact hks
      obtain ⟨g, o, ra, rc, rfl, hge, c0, ii, hra⟩ := HROWS.out k (by simpa using hkS)
      have eR : ((strongT N A).map zl)[k]'(by simpa using hkS) = zl (strongT N A)[k] := by simp
      rw [eR] at c0 ii
      rw [zl_len] at c0
      have hrl := sT_row hkS
      obtain ⟨cn, hcn⟩ : ∃ cn, cn = (strongT N A)[k].length := ⟨_, rfl⟩
      rw [← hcn] at c0 hrl
      have HC0 := Lib.hid c0; have HII := Lib.hid ii; have HRA := Lib.hid hra; have HCN := Lib.hid hcn
      have c0r := hK.out.cell c0 (by show ¬ g = w1.heap.size; omega)
      clear c0 ii hra eR hcn
      go_wp2
      clear b10 b11 c0r
      go_loopw [6] (fun i' wr => ∃ (m : Nat) (P : List Int), m ≤ cn ∧ i' = .int .i64 m ∧ Hid (OfI (strongT N A) N k m P) ∧ Hid (BlkI wr w1.heap.size P) ∧ Hid (Keep (· = w1.heap.size) w2 wr)) (fun i' _ => cn - (RowKit.intOf i').toNat)
      case atStart => exact ⟨0, P, Nat.zero_le _, rfl, hP, hb, hK⟩
      case round =>
        clear hP hb hK
        obtain ⟨m, P2, hm, rfl, hP, hb, hK⟩ := hrel
        have b10 := hK.out.cell B0.out (by show ¬ w.heap.size = w1.heap.size; omega)
        have b11 := hK.out.cell B1.out (by show ¬ w.heap.size = w1.heap.size; omega)
        have c0r := hK.out.cell HC0.out (by show ¬ g = w1.heap.size; omega)
        by_cases hmc : m < cn
        · have hmR : m < (strongT N A)[k].length := by rw [← HCN.out]; exact hmc
          obtain ⟨q, oo, hqa, p0'⟩ := HII.out m (by rw [zl_len]; exact hmR)
          have hq := HRA.out q oo hqa
          subst hqa
          have p0 := hK.out.cell p0' (by show ¬ q = w1.heap.size; omega)
          rw [zl_at _ _ hmR] at p0
          have hz := hP.out.at0 HOK.out hkS hmR
          have hst := hP.out.step HOK.out hkS hmR
          have hvN := ((strong_mem HOK.out (List.getElem_mem hkS)).2 _ (List.getElem_mem hmR)).1
          have hPl := hP.out.len
          obtain ⟨v, hv⟩ : ∃ v, v = (strongT N A)[k][m] := ⟨_, rfl⟩
          rw [← hv] at p0 hz hst hvN
          have e0 := hb.out.cellD (j := v) (by rw [hPl]; exact hvN)
          rw [hz] at e0
          have f9 := hb.out.frozen v
          have HST := Lib.hid hst
          have c0 : decide ((v : Int) < 0) = false := decide_eq_false (by omega)
          have c1 : decide ((N : Int) ≤ (v : Int)) = false := decide_eq_false (by omega)
          have c2 : decide (N ≤ v) = false := decide_eq_false (by omega)
          have f0 := (eq_facts (x := (0 : Int)) (k := 0) rfl).2
          have i0 : (0 : Int) ≤ (v : Int) := by omega
          have i1 : (v : Int) < (N : Int) := by omega
          clear hv hz hst p0'
          go_wp2
          go_roundw
          case rel => exact ⟨m + 1, P2.set v ((k : Int) + 1), by omega, by go_num, HST, Lib.hid (hb.out.set v _), Lib.hid (hK.out.setCell _ _ (.inl rfl))⟩
          case measure => simp [RowKit.intOf]; omega
        · have hnx := Lib.hid (hP.out.next hkS (by rw [← HCN.out]; omega))
          go_wp2
          go_roundw
          case rel => exact ⟨k + 1, P2, by omega, by go_num, hnx, hb, hK⟩
          case measure => simp [RowKit.intOf]; omega
    · have hP2 : Hid (OfI (strongT N A) N (strongT N A).length 0 P) := Lib.hid (by
        have e : k = (strongT N A).length := by rw [← HSN.out]; omega
        rw [← e]; exact hP.out)
      have hXK : Hid (Ext w1 wr) := Lib.hid (hK.out.extW HXX.out (fun i hi e => by have e : i = w1.heap.size := e; omega))
      obtain ⟨wo, hwo⟩ : ∃ wo : World, wo = wr := ⟨_, rfl⟩
      subst hwo
      have B2 := Lib.hid b10; have B3 := Lib.hid b11
      clear hP hK
      go_wp2
      clear b10 b11
      go_loopw [8] (fun i' wr => ∃ u : Nat, u ≤ N ∧ i' = .int .i64 u ∧ Hid (Ext wo wr)) (fun i' _ => N - (RowKit.intOf i').toNat)
      case atStart => exact ⟨0, Nat.zero_le _, rfl, Lib.hid (Ext.refl _)⟩
      case round =>
        obtain ⟨u, hu, rfl, hq⟩ := hrel
        have b10 := hq.out.cell B2.out; have b11 := hq.out.cell B3.out
        by_cases huN : u < N
        · obtain ⟨wp, hwp⟩ : ∃ wp : World, wp = wr := ⟨_, rfl⟩
          subst hwp
          go_wp2
          clear b10 b11
          go_loopw [9] (fun i' wr => ∃ v : Nat, v ≤ N ∧ i' = .int .i64 v ∧ Hid (Ext wp wr)) (fun i' _ => N - (RowKit.intOf i').toNat)
          case atStart => exact ⟨0, Nat.zero_le _, rfl, Lib.hid (Ext.refl _)⟩
          case round =>
            obtain ⟨v, hv, rfl, hr⟩ := hrel
            have b10 := (hq.out.trans hr.out).cell B2.out; have b11 := (hq.out.trans hr.out).cell B3.out
            by_cases hvN : v < N
            · obtain ⟨hp1, hp2, hp3⟩ := hP2.out.parts HOK.out huN hvN
              have hPl := hP2.out.len
              have e0 := (hb.out.ext (hq.out.trans hr.out)).cellD (j := u) (by rw [hPl]; exact huN)
              have e1 := (hb.out.ext (hq.out.trans hr.out)).cellD (j := v) (by rw [hPl]; exact hvN)
              have EX := HY1.out.trans (hXK.out.trans (hq.out.trans hr.out))
              have H1 := Lib.hid (HRC.out u huN wr EX)
              have H2 := Lib.hid (fun w1 (x : Ext wr w1) => HRC.out v hvN w1 (EX.trans x))
              have t1 := fun q c w1 (hi : IntIn w1 q (zl (reachT N A u))) => hasN_any q (reachT N A u) c v w1 hi (by have := rT_le (N := N) (A := A) (v := u); omega)
              have t2 := fun q c w1 (hi : IntIn w1 q (zl (reachT N A v))) => hasN_any q (reachT N A v) c u w1 hi (by have := rT_le (N := N) (A := A) (v := v); omega)
              rw [show mutu N A u v = ((reachT N A u).contains v && (reachT N A v).contains u) from rfl] at hp3
              obtain ⟨m1, hm1⟩ : ∃ m1, m1 = (reachT N A u).contains v := ⟨_, rfl⟩
              obtain ⟨m2, hm2⟩ : ∃ m2, m2 = (reachT N A v).contains u := ⟨_, rfl⟩
              rw [← hm1] at t1 hp3
              rw [← hm2] at t2 hp3
              have T1 := Lib.hid t1; have T2 := Lib.hid t2
              obtain ⟨x, hxx⟩ : ∃ x, x = P.getD u 0 := ⟨_, rfl⟩
              obtain ⟨y, hyy⟩ : ∃ y, y = P.getD v 0 := ⟨_, rfl⟩
              rw [← hxx] at e0 hp1 hp2 hp3
              rw [← hyy] at e1 hp3
              have f0 := (neq_facts hp1).1
              have i0 : (0 : Int) ≤ (u : Int) := by omega
              have i1 : (u : Int) < (N : Int) := by omega
              have i2 : (0 : Int) ≤ (v : Int) := by omega
              have i3 : (v : Int) < (N : Int) := by omega
              clear hm1 hm2 hxx hyy t1 t2 EX hp1 hp2
              cases m1
              · have hxy : x ≠ y := fun e => by have := hp3.2 e; simp at this
                have f1 := (neq_facts hxy).1
                clear hxy hp3
                go_wp2_with (first
                  | (have z9 := z1; go_at_call 18; refine (T1.out _ _ _ z1).mono ?_; rintro e w4 ⟨rfl, x4⟩; have y4 : Ext wr w4 := x3.trans x4; have b40 := y4.cell b10; have b41 := y4.cell b11; have z2 := y4)
                  | (go_at_call 10; refine H1.out.mono ?_; rintro e w3 ⟨⟨q1, k1, rfl, i1r⟩, x3⟩; have z1 := i1r))
                have e07 := y4.cell e0; have e17 := y4.cell e1
                go_quiet (fail)
                go_wp2
                go_roundw
                case rel => exact ⟨v + 1, by omega, by go_num, Lib.hid ((hr.out.trans y4).drewN nq)⟩
                case measure => simp [RowKit.intOf]; omega
              · cases m2
                · have hxy : x ≠ y := fun e => by have := hp3.2 e; simp at this
                  have f1 := (neq_facts hxy).1
                  clear hxy hp3
                  go_wp2_with (first
                    | (have z9 := z3; go_at_call 18; refine (T2.out _ _ _ z3).mono ?_; rintro e w6 ⟨rfl, x6⟩; have y6 : Ext wr w6 := y4.trans (x5.trans x6))
                    | (have z9 := z2; go_at_call 10; refine (H2.out _ z2).mono ?_; rintro e w5 ⟨⟨q2, k2, rfl, i2r⟩, x5⟩; have z3 := i2r)
                    | (have z9 := z1; go_at_call 18; refine (T1.out _ _ _ z1).mono ?_; rintro e w4 ⟨rfl, x4⟩; have y4 : Ext wr w4 := x3.trans x4; have b40 := y4.cell b10; have b41 := y4.cell b11; have z2 := y4)
                    | (go_at_call 10; refine H1.out.mono ?_; rintro e w3 ⟨⟨q1, k1, rfl, i1r⟩, x3⟩; have z1 := i1r))
                  have e07 := y6.cell e0; have e17 := y6.cell e1
                  go_quiet (fail)
                  go_wp2
                  go_roundw
                  case rel => exact ⟨v + 1, by omega, by go_num, Lib.hid ((hr.out.trans y6).drewN nq)⟩
                  case measure => simp [RowKit.intOf]; omega
                · have hxy : x = y := hp3.1 rfl
                  have f1 := (eq_facts hxy).1
                  clear hxy hp3
                  go_wp2_with (first
                    | (have z9 := z3; go_at_call 18; refine (T2.out _ _ _ z3).mono ?_; rintro e w6 ⟨rfl, x6⟩; have y6 : Ext wr w6 := y4.trans (x5.trans x6))
                    | (have z9 := z2; go_at_call 10; refine (H2.out _ z2).mono ?_; rintro e w5 ⟨⟨q2, k2, rfl, i2r⟩, x5⟩; have z3 := i2r)
                    | (have z9 := z1; go_at_call 18; refine (T1.out _ _ _ z1).mono ?_; rintro e w4 ⟨rfl, x4⟩; have y4 : Ext wr w4 := x3.trans x4; have b40 := y4.cell b10; have b41 := y4.cell b11; have z2 := y4)
                    | (go_at_call 10; refine H1.out.mono ?_; rintro e w3 ⟨⟨q1, k1, rfl, i1r⟩, x3⟩; have z1 := i1r))
                  have e07 := y6.cell e0; have e17 := y6.cell e1
                  go_quiet (fail)
                  go_wp2
                  go_roundw
                  case rel => exact ⟨v + 1, by omega, by go_num, Lib.hid ((hr.out.trans y6).drewN nq)⟩
                  case measure => simp [RowKit.intOf]; omega
            · go_wp2
              go_roundw
              case rel => exact ⟨u + 1, by omega, by go_num, Lib.hid (hq.out.trans hr.out)⟩
              case measure => simp [RowKit.intOf]; omega
        · have HY := Lib.hid (HY1.out.trans (hXK.out.trans hq.out))
          go_wp2_with (go_at_call 12; refine (awake_any _).mono ?_; rintro e w7 ⟨rfl, x7⟩)
          go_ret
          exact ⟨rfl, HY.out.trans x7⟩
set_option maxHeartbeats 1000000 in
/-- Not valid, or more than twenty vertices. -/
theorem parts_no (n : Int) (a : Option Addr) (M : Nat) (cap : Nat) (w : World) (b : Bool) (hb : b = true → decide ((20 : Int) < n) = true)
    (HV : Hid (∀ w1, Ext w w1 → Calls Try.prog 16 #[.agg #[.int .i64 n, .slice a M cap]] w1 fun e w' => e = .returned (.bool b) ∧ Ext w1 w')) :
    Calls Try.prog 6 #[.agg #[.int .i64 n, .slice a M cap]] w fun e w' => e = .returned (.bool true) ∧ Ext w w' := by
  cases b
  · clear hb
    go_enter Try.func6, Try.ntmps6
    go_wp2_with (first
      | (go_at_call 16; refine (HV.out _ ((Ext.refl _).alloc _)).mono ?_; rintro e w1 ⟨rfl, x1⟩; have Y1 := ((Ext.refl w).alloc _).trans x1)
      | (go_at_call 12; refine (awake_any _).mono ?_; rintro e w7 ⟨rfl, x7⟩))
    go_ret
    exact ⟨rfl, Y1.trans x7⟩
  · have n0 := hb rfl
    clear hb
    go_enter Try.func6, Try.ntmps6
    go_wp2_with (first
      | (go_at_call 16; refine (HV.out _ ((Ext.refl _).alloc _)).mono ?_; rintro e w1 ⟨rfl, x1⟩; have b1 := box_at x1; have b10 := b1.1; have b11 := b1.2; have Y1 := ((Ext.refl w).alloc _).trans x1; clear b1)
      | (go_at_call 12; refine (awake_any _).mono ?_; rintro e w7 ⟨rfl, x7⟩))
    go_ret
    exact ⟨rfl, Y1.trans x7⟩
theorem parts_walk (g : Value) (w : World) (hg : DigArg w g) :
    Calls Try.prog 6 #[g] w fun e w' => e = .returned (.bool true) ∧ Ext w w' := by
  obtain ⟨n, a, L, cap, rfl, hn0, hn1, h, hk, hL⟩ := hg
  by_cases hv : validL n L = true
  · by_cases h20 : 20 < n
    · refine parts_no n a L.length cap w true (fun _ => decide_eq_true h20) (Lib.hid fun w1 x => ?_)
      have := validR_any n a L cap w1 hn0 hn1 (h.ext x) hk hL
      rw [hv] at this; exact this
    · obtain ⟨N, A, rfl, hN, hz, hA, ok⟩ := valid_nat hv
      have hz : L = zarc A := hz
      subst hz
      rw [zarc_len]
      exact parts_yes N a A cap w (by omega) h hA ok
  · have hv : validL n L = false := by simpa using hv
    exact parts_no n a L.length cap w false (fun e => by cases e) (Lib.hid (validR_bad (cap := cap) hn0 hn1 h hk hL hv))
end Go.Proofs.Ytjjcjoedgmfalaa.Tp

/- From a walk that leaves all old memory as it was to what a row asks behind the call. -/
namespace Go.Proofs.Ytjjcjoedgmfalaa.Fx
open Go.ChangeShapes Go.WideShapes Go.ChangeAt Go.RowKit
section
variable {H : Type} {enc : TypeId × Value → H} {P : Program}
theorem post_ext {f : Func} {s : ChangeSpec} {apart fresh handsOn again : Bool} {W W' : World} {args : Array Value} {v : Value} {ds gs : List (DataW H)} {places pa pv : List MemPlace}
    (hW : DataW.Whole enc P f.params.toList s.vars apart W args.toList ds gs places)
    (results : ∀ (b : Nat) (sp : Nat → Bool) (hd : Bool), DataW.TrodAll enc P W' b sp hd f.resultTypes.toList (v.resultList f.resultTypes.size) (s.fn H (ds ++ gs)).results [])
    (arguments : ∀ sp : Nat → Bool, (∀ x ∈ places, sp x.block = true) → DataW.TrodAll enc P W' 0 sp true f.params.toList args.toList (s.fn H (ds ++ gs)).args pa)
    (variables : ∀ sp : Nat → Bool, (∀ x ∈ places, sp x.block = true) → DataW.TrodVars enc P W' sp s.vars (s.fn H (ds ++ gs)).vars pv)
    (split : places = pa ++ pv) (ext : Ext W W')
    (ok : ∀ (j : Nat) (t : TypeId) (r : Value), f.resultTypes[j]? = some t → (v.resultList f.resultTypes.size)[j]? = some r → Value.okWide P W' .any 0 t r) :
    s.post enc P f apart fresh handsOn again W args v W' := by
  subst split
  have low : ∀ x ∈ pa ++ pv, x.block < W.heap.size := fun x hx => hW.lt x hx
  have mark : ∀ x ∈ pa ++ pv, (fun b => decide (b < W.heap.size)) x.block = true := fun x hx => decide_eq_true (low x hx)
  have whole := hW
  obtain ⟨_, _, _, _, _, cold, once⟩ := hW
  refine ⟨ds, gs, pa ++ pv, [], pa, pv, whole, results _ _ _, arguments _ mark, variables _ mark, World.keptBut_mono (fun x hx => ⟨hx, by simpa using hx⟩) (Below.frame ext (· ∈ pa ++ pv)), fun _ => ⟨ok, _, _, [] ++ pa ++ pv, ⟨[] ++ pa, pv, trodAll_append (arguments _ fun _ _ => rfl) (results _ _ _), variables _ fun _ _ => rfl, rfl, fun b off hb => ?_, fun ha => ?_⟩, fun x hx _ => ?_⟩⟩
  · have at' : MemPlace.cell b off ∈ pa ++ pv := by simpa using hb
    rw [Below.frozen ext (low _ at')]
    exact cold b off at'
  · have := once ha; simpa using this
  · simpa using hx
end
end Go.Proofs.Ytjjcjoedgmfalaa.Fx
