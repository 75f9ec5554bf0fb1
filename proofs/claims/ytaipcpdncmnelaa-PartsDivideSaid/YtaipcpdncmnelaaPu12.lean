/- Packed texts: PrtSFn, PrtBlkL, PrtBlocks, PrtVisA -/
import Derived.Test.YtaipcpdncmnelaaPu06
import Derived.BigQuiet
import Derived.Test.YtaipcpdncmnelaaPu04
import Derived.Test.YtaipcpdncmnelaaPu07
import Derived.Test.YtaipcpdncmnelaaPu11
set_option linter.unusedVariables false
set_option linter.unusedSimpArgs false
/- slices.SortFunc on the blocks. -/
namespace Go.Proofs.Ytaipcpdncmnelaa.Pt
open Go.RowKit Go.Sort Go.Lib Fx Tp

set_option maxHeartbeats 4000000 in
theorem isort_none (p : Option Addr) (c : Nat) (fv : Value) (w : World) : Calls Try.prog 57 #[.slice p 0 c, .int .i64 0, .int .i64 0, fv] w fun e w' => e = .returned (.tuple #[]) ∧ w' = w := by
  go_enter Try.func57, Try.ntmps57
  go_wp2
  go_loopw [8] (fun i' wr => i' = .int .i64 1 ∧ wr = w) (fun _ _ => 0)
  case atStart => exact ⟨rfl, rfl⟩
  case round =>
    obtain ⟨rfl, rfl⟩ := hrel
    go_wp2
    go_end0
    exact ⟨rfl, rfl⟩
set_option maxHeartbeats 4000000 in
theorem pdq_none (p : Option Addr) (c : Nat) (lim : Int) (fv : Value) (w : World) : Calls Try.prog 43 #[.slice p 0 c, .int .i64 0, .int .i64 0, .int .i64 lim, fv] w fun e w' => e = .returned (.tuple #[]) ∧ w' = w := by
  have hi := fun w1 => isort_none p c fv w1
  go_enter Try.func43, Try.ntmps43
  go_wp2
  refine wp_loop_rounds 1 ?_
  rw [rounds_succ]
  go_wp2_with (go_at_call 57; refine (hi _).mono ?_; rintro e w1 ⟨rfl, rfl⟩)
  (try simp only [Exit.inBlock, Exit.then])
  refine bodyPost_ret (results_none rfl _ _ _) rfl ?_
  exact ⟨rfl, rfl⟩
set_option maxHeartbeats 4000000 in
theorem sortF_none (p : Option Addr) (c : Nat) (fv : Value) (w : World) : Calls Try.prog 36 #[.slice p 0 c, fv] w fun e w' => e = .returned (.tuple #[]) ∧ w' = w := by
  have hp := fun lim w1 => pdq_none p c lim fv w1
  have hb := fun w1 => Try.bits_Len 0 w1 (by omega) (by omega)
  go_enter Try.func36, Try.ntmps36
  go_wp2_with (first | (go_at_call 40; refine (hb _).mono ?_; rintro e w1 ⟨rfl, rfl⟩) | (go_at_call 43; refine (hp _ _).mono ?_; rintro e w1 ⟨rfl, rfl⟩))
  go_end0
  exact ⟨rfl, rfl⟩
set_option maxHeartbeats 4000000 in
theorem cmp_any (ga oa gb ob la lb ca cb : Nat) (x y : Int) (w : World) (h1 : w.cell? ⟨ga, oa, none⟩ = some (.int .i64 x)) (h2 : w.cell? ⟨gb, ob, none⟩ = some (.int .i64 y)) (h3 : 0 < la) (h4 : 0 < lb) (hx0 : 0 ≤ x) (hx1 : x ≤ 1000) (hy0 : 0 ≤ y) (hy1 : y ≤ 1000) :
    Calls Try.prog 37 #[.slice (some ⟨ga, oa, none⟩) la ca, .slice (some ⟨gb, ob, none⟩) lb cb] w fun e w' => e = .returned (.int .i64 (x - y)) ∧ ∃ q, w' = w.drewN q := by
  have h1' : w.cell? ⟨ga, oa + 0, none⟩ = some (.int .i64 x) := h1
  have h2' : w.cell? ⟨gb, ob + 0, none⟩ = some (.int .i64 y) := h2
  have b1 : (0 : Int) < (la : Int) := by omega
  have b2 : (0 : Int) < (lb : Int) := by omega
  go_enter Try.func37, Try.ntmps37
  go_wp2_with fail
  go_quiet (fail)
  go_wp2
  go_ret
  exact ⟨rfl, _, rfl⟩
theorem keep_putRowA {α : Type} [Inhabited α] (enc : α → Value) (w : World) (n blk off : Nat) (d : Array α) (os : Array Obj) : Keep (· = blk) w (grow (putRow enc (Sort.ahead w n) blk off d) os) := by
  refine ⟨rfl, rfl, rfl, by simp [grow, putRow, mapBlock, Sort.ahead], fun k hk hn => ?_⟩
  rw [Sort.heap_grow_old _ _ (by simp [putRow, mapBlock, Sort.ahead]; exact hk)]
  unfold putRow mapBlock
  simp only [Sort.ahead, Array.getElem?_modify]
  rw [if_neg (fun e => hn e.symm)]
/-- Rows that lie from block B on. -/
def RowsB (w : World) (B : Nat) (a : Option Addr) (LL : List (List Int)) : Prop :=
  ∀ j (h : j < LL.length), ∃ g o ra rc, a = some ⟨g, o, none⟩ ∧ B ≤ g ∧ w.cell? ⟨g, o + j, none⟩ = some (.slice ra LL[j].length rc) ∧ IntIn w ra LL[j] ∧ ∀ q o, ra = some ⟨q, o, none⟩ → B ≤ q
theorem RowsB.rows {w : World} {B : Nat} {a : Option Addr} {LL : List (List Int)} (h : RowsB w B a LL) : Tp.RowsIn w a LL := fun j hj => by
  obtain ⟨g, o, ra, rc, h1, _, h2, h3, _⟩ := h j hj
  exact ⟨g, o, ra, rc, h1, h2, h3⟩
theorem RowsB.mono {w : World} {B C : Nat} {a : Option Addr} {LL : List (List Int)} (h : RowsB w B a LL) (hc : C ≤ B) : RowsB w C a LL := fun j hj => by
  obtain ⟨g, o, ra, rc, h1, h2, h3, h4, h5⟩ := h j hj
  exact ⟨g, o, ra, rc, h1, Nat.le_trans hc h2, h3, h4, fun q o e => Nat.le_trans hc (h5 q o e)⟩
set_option maxHeartbeats 4000000 in
/-- Behind the sort: the rows lie in the order of their heads. -/
theorem sortF_any {w : World} {B : Nat} {fv : Value} {fs : List Value} {F : List (List Nat)} (h : RowsF w B fv fs F) (hF : ∀ c ∈ F, c ≠ [] ∧ ∀ x ∈ c, x ≤ 1000) (hlen : F.length ≤ 1000) :
    ∃ fa fc, fv = .slice fa F.length fc ∧ Calls Try.prog 36 #[fv, .func (.func 37) #[] #[]] w fun e w' => e = .returned (.tuple #[]) ∧ (∃ l : List (List Nat), l.Perm F ∧ l.Pairwise (fun a b => ¬ b.getD 0 0 < a.getD 0 0) ∧ RowsB w' B fa (l.map zl)) ∧ Keep (fun b => B ≤ b) w w' := by
  obtain ⟨h1, h2⟩ := h
  rcases h1.2 with ⟨rfl, h3⟩ | ⟨g, cap, cur, rfl, hb, hg, h3, h4, h5, h6⟩
  · have hn : F = [] := List.eq_nil_of_length_eq_zero h3
    subst hn
    refine ⟨none, 0, rfl, (sortF_none none 0 _ w).mono ?_⟩
    rintro e w' ⟨rfl, rfl⟩
    exact ⟨rfl, ⟨[], .refl _, .nil, fun j hj => absurd hj (by simp)⟩, Keep.refl _ _⟩
  · refine ⟨_, _, rfl, ?_⟩
    by_cases h0 : F.length = 0
    · have hn : F = [] := List.eq_nil_of_length_eq_zero h0
      subst hn
      refine (sortF_none _ _ _ w).mono ?_
      rintro e w' ⟨rfl, rfl⟩
      exact ⟨rfl, ⟨[], .refl _, .nil, fun j hj => absurd hj (by simp)⟩, Keep.refl _ _⟩
    · have hfl : fs.length = F.length := by have := h1.1; omega
      have hlt : g < w.heap.size := (Array.getElem?_eq_some_iff.1 hg).1
      obtain ⟨n, hn⟩ : ∃ n, n = F.length := ⟨_, rfl⟩
      have hmod : ∀ i, i % n < F.length := fun i => by rw [hn]; exact Nat.mod_lt _ (by omega)
      let enc : Nat → Value := fun i => fs.getD (i % n) (.bool false)
      let hd : Nat → Int := fun i => ((F.getD (i % n) []).getD 0 0 : Nat)
      have hrow : ∀ i, ∃ a c, enc i = .slice a (F.getD (i % n) []).length c ∧ IntIn w a (zl (F.getD (i % n) [])) ∧ ∀ q o, a = some ⟨q, o, none⟩ → q ≠ g ∧ B ≤ q := fun i => by
        obtain ⟨a, c, e1, e2, e3⟩ := h2 (i % n) (hmod i)
        have e4 : F.getD (i % n) [] = F[i % n]'(hmod i) := by rw [List.getD_eq_getElem?_getD, List.getElem?_eq_getElem (hmod i)]; rfl
        refine ⟨a, c, ?_, ?_, ?_⟩
        · show fs.getD (i % n) _ = _
          rw [List.getD_eq_getElem?_getD, e1, e4]; rfl
        · rw [e4]; exact e2
        · intro q o ea
          have := e3 _ ea
          exact ⟨fun e => this.2.2 (by show some g = some q; rw [e]), this.1⟩
      have hmem : ∀ i, F.getD (i % n) [] ∈ F := fun i => by
        rw [List.getD_eq_getElem?_getD, List.getElem?_eq_getElem (hmod i)]; exact List.getElem_mem _
      have hone : OneCell enc := fun i => by obtain ⟨a, c, e, -, -⟩ := hrow i; rw [e]; rfl
      have hO : SWO (ltOf fun i j => hd i - hd j) := by
        unfold ltOf
        exact ⟨fun x => by simp, fun x y z a b => by simp at *; omega, fun x y z a b => by simp at *; omega⟩
      have hds : (Array.range n).size = n := by simp
      have hdi : ∀ j, j < n → (Array.range n)[j]! = j := fun j hj => by simp [hj]
      have hH : Holds enc w g 0 (Array.range n) := fun j hj => by
        rw [hds] at hj
        refine ⟨?_, Lib.frozen_of_heap hg _⟩
        have hj2 : j < fs.length := by omega
        have hc := h1.cells (g := g) rfl j fs[j] (List.getElem?_eq_getElem hj2)
        rw [add_at] at hc
        rw [Nat.zero_add, hc, hdi j hj]
        show _ = some (fs.getD (j % n) _)
        rw [Nat.mod_eq_of_lt hj, List.getD_eq_getElem?_getD, List.getElem?_eq_getElem hj2]; rfl
      have heg : ∀ args w, (callFunc 37 args).run Try.prog w = .ok (.enter 37 args) w := enters_of Try.func37 (by kernel_rfl) rfl
      have hkeepS : ∀ (m : Nat) (dk : Array Nat) (os : Array Obj), Keep (· = g) w (sortWorld enc w g 0 m dk os) := fun m dk os => keep_putRowA enc w m g 0 dk os
      have hcmp : CmpLays1 Try.prog 37 #[] enc (fun i j => hd i - hd j) g 0 (Array.range n).size w := fun m os dk _ x y => by
        obtain ⟨a1, c1, e1, i1, n1⟩ := hrow x
        obtain ⟨a2, c2, e2, i2, n2⟩ := hrow y
        have p1 := hF _ (hmem x)
        have p2 := hF _ (hmem y)
        have q1 : 0 < (F.getD (x % n) []).length := List.length_pos_iff.2 p1.1
        have q2 : 0 < (F.getD (y % n) []).length := List.length_pos_iff.2 p2.1
        obtain ⟨g1, o1, ra1, ce1⟩ := i1 0 (by rw [zl_len]; exact q1)
        obtain ⟨g2, o2, ra2, ce2⟩ := i2 0 (by rw [zl_len]; exact q2)
        subst ra1 ra2
        rw [zl_at _ _ q1] at ce1
        rw [zl_at _ _ q2] at ce2
        have k1 := (hkeepS m dk os).cell ce1 (n1 _ _ rfl).1
        have k2 := (hkeepS m dk os).cell ce2 (n2 _ _ rfl).1
        have b1 := p1.2 _ (List.getElem_mem q1)
        have b2 := p2.2 _ (List.getElem_mem q2)
        have := cmp_any g1 o1 g2 o2 _ _ c1 c2 _ _ _ k1 k2 q1 q2 (by omega) (by omega) (by omega) (by omega)
        show Calls _ _ (#[enc x, enc y] ++ #[]) _ _
        rw [e1, e2]
        refine this.mono ?_
        rintro e w' ⟨rfl, q, rfl⟩
        refine ⟨?_, q, #[], by rw [grow_empty]⟩
        show _ = Ending.returned (.int .i64 ((((F.getD (x % n) []).getD 0 0 : Nat) : Int) - (((F.getD (y % n) []).getD 0 0 : Nat) : Int)))
        rw [List.getD_eq_getElem?_getD (l := F.getD (x % n) []), List.getD_eq_getElem?_getD (l := F.getD (y % n) []), List.getElem?_eq_getElem q1, List.getElem?_eq_getElem q2]; rfl
      have hcall := Try.slices_SortFunc enc hone (fun i j => hd i - hd j) hO 37 #[] g 0 cap (Array.range n) w heg hcmp hH hlt (by rw [hds]; omega)
      rw [hds, hn] at hcall
      refine hcall.mono ?_
      rintro e w' ⟨rfl, d', m, os, hp, hs, rfl⟩
      rw [← hn] at hp hs
      have hsz : d'.size = n := by have := hp.1; rw [hds] at this; exact this
      have hpl : d'.toList.Perm (List.range n) := by
        have := hp.2.2
        rw [show d'.extract 0 n = d' by rw [← hsz]; simp, show (Array.range n).extract 0 n = Array.range n by simp] at this
        simpa using this
      have hKe := hkeepS m d' os
      have hH2 : Holds enc (sortWorld enc w g 0 m d' os) g 0 d' := by
        have a1 := holds_putRow enc (Sort.ahead w m) g 0 (Array.range n) d' hH (by rw [hsz, hds])
        exact holds_grow enc _ os g 0 d' (by simp [putRow, mapBlock, Sort.ahead]; exact hlt) a1
      refine ⟨rfl, ⟨d'.toList.map (fun i => F.getD (i % n) []), ?_, ?_, ?_⟩, hKe.mono (fun k _ e => by rw [e]; exact hb)⟩
      · have a1 := hpl.map (fun i => F.getD (i % n) [])
        refine a1.trans (.of_eq ?_)
        refine List.ext_getElem (by simp [hn]) fun j j1 j2 => ?_
        rw [List.getElem_map, List.getElem_range, Nat.mod_eq_of_lt (by omega), List.getD_eq_getElem?_getD, List.getElem?_eq_getElem j2]; rfl
      · rw [List.pairwise_map, List.pairwise_iff_getElem]
        intro i j hi hj hij
        have := hs i j (Nat.zero_le _) hij (by simpa [hsz] using hj)
        unfold ltOf at this
        have hi' : i < d'.size := by simpa using hi
        have hj' : j < d'.size := by simpa using hj
        rw [decide_eq_false_iff_not, getElem!_pos d' i hi', getElem!_pos d' j hj'] at this
        intro hlt2
        apply this
        show (((F.getD (d'[j] % n) []).getD 0 0 : Nat) : Int) - (((F.getD (d'[i] % n) []).getD 0 0 : Nat) : Int) < 0
        have e1 : d'.toList[i] = d'[i] := rfl
        have e2 : d'.toList[j] = d'[j] := rfl
        rw [e1, e2] at hlt2
        omega
      · intro j hj
        have hj' : j < d'.size := by simpa using hj
        have e0 := (hH2 j hj').1
        rw [getElem!_pos d' j hj'] at e0
        obtain ⟨a, c, e1, e2, e3⟩ := hrow d'[j]
        have e4 : ((d'.toList.map (fun i => F.getD (i % n) [])).map zl)[j] = zl (F.getD (d'[j] % n) []) := by simp
        refine ⟨g, 0, a, c, rfl, hb, ?_, ?_, fun q o e => (e3 q o e).2⟩
        · rw [e4, zl_len, e0, e1]
        · rw [e4]
          intro i hi
          obtain ⟨q, o, ha, hc⟩ := e2 i hi
          exact ⟨q, o, ha, hKe.cell hc (e3 q o ha).1⟩
end Go.Proofs.Ytaipcpdncmnelaa.Pt

/- The blocks of the whole search, plain: each edge in one, and two edges in one exactly if they are on a cycle (Sim). -/
namespace Go.Proofs.Ytaipcpdncmnelaa.Pt
open Tp

variable {N : Nat} {A : Arcs}
theorem flat_single (l : List Nat) : (l.map (fun i => [i])).flatten = l := by
  induction l with
  | nil => rfl
  | cons x l ih => rw [List.map_cons, List.flatten_cons, ih]; rfl
def st0 (N : Nat) (A : Arcs) : St := ⟨List.replicate N 0, List.replicate N 0, 0, [], loopT A⟩
def goT (N : Nat) (A : Arcs) (s : St) (v : Nat) : St := if nm s v = 0 then visT A N v (-1) s else s
def runT (N : Nat) (A : Arcs) (k : Nat) : St := (List.range k).foldl (goT N A) (st0 N A)
/-- The blocks in the order in which they are found. -/
def blkT (N : Nat) (A : Arcs) : List (List Nat) := (runT N A N).blk
structure Top (N : Nat) (A : Arcs) (s : St) : Prop where
  inv : Inv N A s
  stk : s.stk = []
  pe : ∀ e ∈ pushed s, ∀ u, e ∈ incT A u → nm s u ≠ 0
  bl : ∀ x, nm s x ≠ 0 → ∀ e ∈ incT A x, e ∈ pushed s
  asc : ∀ C ∈ s.blk, C.Pairwise (· ≤ ·)
  pre : ∃ more, s.blk = loopT A ++ more
theorem nm0 (N : Nat) (A : Arcs) (u : Nat) : nm (st0 N A) u = 0 := by
  unfold nm st0
  rw [List.getD_eq_getElem?_getD]
  by_cases h : u < N <;> simp [h]
theorem mem_loops {A : Arcs} {e : Nat} : e ∈ (loopT A).flatten ↔ e < A.length ∧ (arcN A e).1 = (arcN A e).2 := by
  unfold loopT loopK
  rw [flat_single, List.mem_filter, List.mem_range, beq_iff_eq]
theorem top0 (N : Nat) (A : Arcs) : Top N A (st0 N A) := by
  have hp : pushed (st0 N A) = (loopT A).flatten := by unfold pushed st0; rfl
  refine ⟨⟨by simp [st0], by simp [st0], fun u => by rw [nm0]; exact Nat.zero_le _, ?_, fun u x h => absurd (nm0 N A u) h, ?_, fun e he => ?_, fun j C hC => .inl ?_, fun C hC => ?_⟩, rfl, fun e he u hu => ?_, fun x hx => absurd (nm0 N A x) hx, fun C hC => ?_, ⟨[], by simp [st0]⟩⟩
  · show (List.replicate N 0).count 0 + 0 = N
    rw [List.count_replicate_self, Nat.add_zero]
  · rw [hp]; unfold loopT loopK; rw [flat_single]
    exact List.Pairwise.filter _ List.nodup_range
  · rw [hp] at he; exact (mem_loops.1 he).1
  · have hC : C ∈ loopT A := List.mem_of_getElem? hC
    unfold loopT loopK at hC
    obtain ⟨i, hi, rfl⟩ := List.mem_map.1 hC
    rw [List.mem_filter, List.mem_range, beq_iff_eq] at hi
    exact ⟨i, rfl, hi.1, hi.2⟩
  · have hC : C ∈ loopT A := hC
    unfold loopT loopK at hC
    obtain ⟨i, hi, rfl⟩ := List.mem_map.1 hC
    simp
  · rw [hp] at he
    exact absurd (mem_loops.1 he).2 (mem_incT.1 hu).2.1
  · have hC : C ∈ loopT A := hC
    unfold loopT loopK at hC
    obtain ⟨i, hi, rfl⟩ := List.mem_map.1 hC
    simp
theorem Top.pre_ {s : St} (h : Top N A s) {v : Nat} (hv : v < N) (h0 : nm s v = 0) : Pre N A [] v (-1) s :=
  ⟨h.inv, hv, h0, fun e he u hu => .inl (h.pe e he u hu), by simp, .nil, fun x hx _ => h.bl x hx, .inl ⟨rfl, rfl⟩, fun p t e => by cases e⟩
/-- Rows that are laid are ascending. -/
theorem tie_asc {v w a : Nat} {s : St} (h : ∀ C ∈ s.blk, C.Pairwise (· ≤ ·)) : ∀ C ∈ (tie v w a s).blk, C.Pairwise (· ≤ ·) := by
  unfold tie
  split
  · intro C hC
    rcases List.mem_append.1 hC with hC | hC
    · exact h C hC
    · rw [List.mem_singleton.1 hC]; exact sortN_asc _
  · exact h
theorem vis_asc : ∀ (f v : Nat) (via : Int) (s : St), (∀ C ∈ s.blk, C.Pairwise (· ≤ ·)) → ∀ C ∈ (visT A f v via s).blk, C.Pairwise (· ≤ ·)
  | 0, _, _, _, h => h
  | f + 1, v, via, s, h => by
    unfold visT
    have key : ∀ (R : List Nat) (cur : St), (∀ C ∈ cur.blk, C.Pairwise (· ≤ ·)) → ∀ C ∈ (R.foldl (stepV (fun w e s => visT A f w (e : Int) s) A v via) cur).blk, C.Pairwise (· ≤ ·) := by
      intro R
      induction R with
      | nil => exact fun _ h => h
      | cons e R ih =>
        intro cur hc
        refine ih _ ?_
        unfold stepV
        split
        · exact hc
        · split
          · exact tie_asc (vis_asc f _ _ _ hc)
          · split
            · exact hc
            · exact hc
    exact key _ _ h
theorem Top.step {s : St} (ok : Ok N A) (h : Top N A s) {v : Nat} (hv : v < N) : Top N A (goT N A s v) ∧ nm (goT N A s v) v ≠ 0 ∧ ∀ u, nm s u ≠ 0 → nm (goT N A s v) u ≠ 0 := by
  unfold goT
  by_cases h0 : nm s v = 0
  · rw [if_pos h0]
    have l := visit_law ok N [] v (-1) s (h.pre_ hv h0) (by have := h.inv.cz; omega)
    refine ⟨⟨l.inv, ?_, l.pe, fun x hx e he => ?_, vis_asc N v (-1) s h.asc, ?_⟩, by rw [l.nv]; omega, fun u hu => by rw [l.gw.old u hu]; exact hu⟩
    · obtain ⟨seg, h1, -, h3⟩ := l.seg
      cases seg with
      | nil => rw [h1, h.stk]; rfl
      | cons e seg =>
        obtain ⟨e0, h4, -⟩ := h3 e (List.mem_cons_self ..)
        omega
    · by_cases hs : nm s x = 0
      · by_cases hxv : x = v
        · subst hxv; exact l.dp e he
        · exact l.cl x hs hx hxv e he
      · exact l.gw.sub e (h.bl x hs e he)
    · obtain ⟨m1, h1⟩ := h.pre
      obtain ⟨m2, h2⟩ := l.gw.blk
      exact ⟨m1 ++ m2, by rw [h2, h1, List.append_assoc]⟩
  · rw [if_neg h0]; exact ⟨h, h0, fun u hu => hu⟩
theorem run_top (ok : Ok N A) : ∀ k, k ≤ N → Top N A (runT N A k) ∧ ∀ u, u < k → nm (runT N A k) u ≠ 0
  | 0, _ => ⟨top0 N A, fun u hu => absurd hu (Nat.not_lt_zero u)⟩
  | k + 1, hk => by
    have ih := run_top ok k (by omega)
    have e : runT N A (k + 1) = goT N A (runT N A k) k := by unfold runT; rw [List.range_succ, List.foldl_append]; rfl
    have st := ih.1.step ok (v := k) (by omega)
    rw [e]
    refine ⟨st.1, fun u hu => ?_⟩
    by_cases h : u = k
    · subst h; exact st.2.1
    · exact st.2.2 u (ih.2 u (by omega))
/-! ### what the rows are -/
structure BlkOk (A : Arcs) (X : List (List Nat)) : Prop where
  nd : X.flatten.Nodup
  all : ∀ e, e < A.length → ∃ C ∈ X, e ∈ C
  lt : ∀ C ∈ X, ∀ e ∈ C, e < A.length
  ne : ∀ C ∈ X, C ≠ []
  asc : ∀ C ∈ X, C.Pairwise (· < ·)
  sim : ∀ C ∈ X, ∀ e ∈ C, ∀ e' ∈ C, Sim A e e'
  clo : ∀ C ∈ X, ∀ e ∈ C, ∀ e', Rel A e e' → e' ∈ C
  one : ∀ (j k : Nat) (C D : List Nat), X[j]? = some C → X[k]? = some D → j ≠ k → ∃ z, ∀ v e e', e ∈ C → e' ∈ D → e ∈ incT A v → e' ∈ incT A v → v = z
theorem flat_idx {X : List (List Nat)} (h : X.flatten.Nodup) {e j k : Nat} {C D : List Nat} (hj : X[j]? = some C) (hk : X[k]? = some D) (h1 : e ∈ C) (h2 : e ∈ D) : j = k := by
  induction X generalizing j k with
  | nil => simp at hj
  | cons B X ih =>
    rw [List.flatten_cons, List.nodup_append] at h
    cases j with
    | zero =>
      cases k with
      | zero => rfl
      | succ k =>
        have e1 : B = C := by simpa using hj
        have e2 : X[k]? = some D := by simpa using hk
        exact absurd rfl (h.2.2 e (by rw [e1]; exact h1) e (List.mem_flatten.2 ⟨D, List.mem_of_getElem? e2, h2⟩))
    | succ j =>
      cases k with
      | zero =>
        have e1 : B = D := by simpa using hk
        have e2 : X[j]? = some C := by simpa using hj
        exact absurd rfl (h.2.2 e (by rw [e1]; exact h2) e (List.mem_flatten.2 ⟨C, List.mem_of_getElem? e2, h1⟩))
      | succ k =>
        have := ih (j := j) (k := k) h.2.1 (by simpa using hj) (by simpa using hk)
        omega
theorem row_sep {s : St} (hn : (s.blk.flatten).Nodup) {j1 j2 : Nat} {C D : List Nat} (h1 : s.blk[j1]? = some C) (h2 : s.blk[j2]? = some D) (hlt : j1 < j2) {v0 l h : Nat} (r : RowOk A s j1 C v0 l h) {e' u : Nat} (he' : e' ∈ D) (hu : e' ∈ incT A u) : ¬ (l ≤ nm s u ∧ nm s u ≤ h) := fun ⟨a, b⟩ => by
  obtain ⟨j', hj, C', hC, hm⟩ := r.cov u a b e' hu
  have := flat_idx hn hC h2 hm he'
  omega
/-- The vertices of a row that was found are left through v0 alone. -/
theorem row_stay {s : St} {j : Nat} {C : List Nat} {v0 l h : Nat} (r : RowOk A s j C v0 l h) {a b : Nat} (hp : J A (-1) v0 a b) (ha : l ≤ nm s a ∧ nm s a ≤ h) : l ≤ nm s b ∧ nm s b ≤ h := by
  refine Path.closed (S := fun x => l ≤ nm s x ∧ nm s x ≤ h) (fun p hp hs => ?_) hp ha
  obtain ⟨x, y⟩ := p
  obtain ⟨i, i1, -, i3, i4, i5⟩ := mem_und.1 hp
  by_cases hxy : x = y
  · rw [← hxy]; exact hs
  · have hi : i ∈ incT A x := mem_incT.2 ⟨i1, by rcases i5 with i5 | i5 <;> rw [i5] <;> simp <;> omega, by rcases i5 with i5 | i5 <;> rw [i5] <;> simp⟩
    have ho : oth A i x = y := by unfold oth; rcases i5 with i5 | i5 <;> rw [i5] <;> simp <;> omega
    rcases r.clo x hs.1 hs.2 i hi with h1 | h1
    · rw [ho] at h1; exact h1
    · rw [ho] at h1; exact absurd (by rw [h1]) i4
theorem blk_ok (ok : Ok N A) : BlkOk A (blkT N A) := by
  obtain ⟨h, hall⟩ := run_top ok N (Nat.le_refl _)
  obtain ⟨s, hs⟩ : ∃ s, s = runT N A N := ⟨_, rfl⟩
  have hb : blkT N A = s.blk := by unfold blkT; rw [hs]
  rw [← hs] at h hall
  rw [hb]
  have hpu : pushed s = s.blk.flatten := by unfold pushed; rw [h.stk]; rfl
  have hn : s.blk.flatten.Nodup := by rw [← hpu]; exact h.inv.nd
  have loopNo : ∀ {C : List Nat} {e v : Nat}, LoopRow A C → e ∈ C → e ∉ incT A v := fun {C e v} ⟨i, h1, _, h3⟩ he hi => by
    rw [h1] at he
    rw [List.mem_singleton.1 he] at hi
    exact (mem_incT.1 hi).2.1 h3
  have rel_same : ∀ j1 j2 C D, s.blk[j1]? = some C → s.blk[j2]? = some D → ∀ i ∈ C, ∀ k ∈ D, Rel A i k → ¬ j1 < j2 := fun j1 j2 C D h1 h2 i hi k hk ⟨v, r1, r2, r3⟩ hlt => by
    rcases h.inv.rows j1 C h1 with hl | ⟨v0, l, hh, r⟩
    · exact loopNo hl hi r1
    · obtain ⟨u, u1, u2, u3⟩ := r.tch i hi
      have nv := row_sep hn h1 h2 hlt r hk r2
      have nb := row_sep hn h1 h2 hlt r hk (oth_inc r2).1
      rcases inc_ends r1 u1 with e | e
      · rw [e] at u2 u3; exact nv ⟨u2, u3⟩
      · rw [e] at u2 u3
        have hv0 : v = v0 := by
          rcases r.clo _ u2 u3 i (oth_inc r1).1 with h5 | h5
          · rw [(oth_inc r1).2.1] at h5; exact absurd h5 nv
          · rw [(oth_inc r1).2.1] at h5; exact h5
        rw [hv0] at r3
        have := row_stay r (b := oth A k v) (by rw [← hv0] at r3 ⊢; exact r3) ⟨u2, u3⟩
        exact nb this
  refine ⟨hn, fun e he => ?_, fun C hC e he => ?_, h.inv.ne, fun C hC => ?_, fun C hC e he e' he' => ?_, fun C hC e he e' hr => ?_, fun j k C D hj hk hne => ?_⟩
  · have key : e ∈ s.blk.flatten := by
      by_cases hl : (arcN A e).1 = (arcN A e).2
      · obtain ⟨m, hm⟩ := h.pre
        rw [hm, List.flatten_append]
        exact List.mem_append_left _ (mem_loops.2 ⟨he, hl⟩)
      · have hi : e ∈ incT A (arcN A e).1 := mem_incT.2 ⟨he, hl, .inl rfl⟩
        rw [← hpu]
        exact h.bl _ (hall _ (inc_lt ok hi)) e hi
    obtain ⟨C, h1, h2⟩ := List.mem_flatten.1 key
    exact ⟨C, h1, h2⟩
  · exact h.inv.pm e (by rw [hpu]; exact List.mem_flatten.2 ⟨C, hC, he⟩)
  · refine nodup_le_asc (h.asc C hC) ?_
    obtain ⟨L, R, e⟩ := List.append_of_mem hC
    rw [e, List.flatten_append, List.flatten_cons] at hn
    exact (List.nodup_append.1 (List.nodup_append.1 hn).2.1).1
  · obtain ⟨j, hj, e1⟩ := List.getElem_of_mem hC
    have hjC : s.blk[j]? = some C := by rw [List.getElem?_eq_getElem hj, e1]
    rcases h.inv.rows j C hjC with ⟨i, h1, _, _⟩ | ⟨v0, l, hh, r⟩
    · rw [h1] at he he'
      rw [List.mem_singleton.1 he, List.mem_singleton.1 he']; exact .refl _
    · exact r.sim e he e' he'
  · have he'2 : e' < A.length := by obtain ⟨v, _, r2, _⟩ := hr; exact (mem_incT.1 r2).1
    have he'3 : e' ∈ s.blk.flatten := by
      obtain ⟨v, _, r2, _⟩ := hr
      rw [← hpu]; exact h.bl v (hall v (inc_lt ok r2)) e' r2
    obtain ⟨D, hD, hm⟩ := List.mem_flatten.1 he'3
    obtain ⟨j, hj, e1⟩ := List.getElem_of_mem hC
    obtain ⟨k, hk, e2⟩ := List.getElem_of_mem hD
    have hjC : s.blk[j]? = some C := by rw [List.getElem?_eq_getElem hj, e1]
    have hkD : s.blk[k]? = some D := by rw [List.getElem?_eq_getElem hk, e2]
    have n1 := rel_same j k C D hjC hkD e he e' hm hr
    have n2 := rel_same k j D C hkD hjC e' hm e he hr.symm
    have : j = k := by omega
    subst this
    rw [hjC] at hkD
    rw [Option.some.inj hkD]; exact hm
  · have key : ∀ j k C D, s.blk[j]? = some C → s.blk[k]? = some D → j < k → ∃ z, ∀ v e e', e ∈ C → e' ∈ D → e ∈ incT A v → e' ∈ incT A v → v = z := fun j k C D hj hk hlt => by
      rcases h.inv.rows j C hj with hl | ⟨v0, l, hh, r⟩
      · exact ⟨0, fun v e e' he _ hi _ => absurd hi (loopNo hl he)⟩
      · refine ⟨v0, fun v e e' he he' hi hi' => ?_⟩
        obtain ⟨u, u1, u2, u3⟩ := r.tch e he
        have nv := row_sep hn hj hk hlt r he' hi'
        rcases inc_ends hi u1 with e1 | e1
        · rw [e1] at u2 u3; exact absurd ⟨u2, u3⟩ nv
        · rw [e1] at u2 u3
          rcases r.clo _ u2 u3 e (oth_inc hi).1 with h5 | h5
          · rw [(oth_inc hi).2.1] at h5; exact absurd h5 nv
          · rw [(oth_inc hi).2.1] at h5; exact h5
    rcases Nat.lt_or_ge j k with hlt | hge
    · exact key j k C D hj hk hlt
    · obtain ⟨z, hz⟩ := key k j D C hk hj (by omega)
      exact ⟨z, fun v e e' h1 h2 h3 h4 => hz v e' e h2 h1 h4 h3⟩
end Go.Proofs.Ytaipcpdncmnelaa.Pt

/- Blocks: the rows of the search in the order of their heads. -/
namespace Go.Proofs.Ytaipcpdncmnelaa.Pt
open Go.RowKit Go.Sort Go.Lib Fx Tp

def hd (C : List Nat) : Nat := C.getD 0 0
def insH (C : List Nat) : List (List Nat) → List (List Nat)
  | [] => [C]
  | D :: l => if hd C ≤ hd D then C :: D :: l else D :: insH C l
def sortH (l : List (List Nat)) : List (List Nat) := l.foldr insH []
/-- The blocks as they are returned. -/
def blocksT (N : Nat) (A : Arcs) : List (List Nat) := sortH (blkT N A)
theorem insH_perm (x : List Nat) : ∀ l, (insH x l).Perm (x :: l)
  | [] => .refl _
  | y :: l => by
    unfold insH; split
    · exact .refl _
    · exact ((insH_perm x l).cons y).trans (.swap _ _ _)
theorem sortH_perm : ∀ l, (sortH l).Perm l
  | [] => .refl _
  | x :: l => (insH_perm x (sortH l)).trans ((sortH_perm l).cons x)
theorem insH_asc (x : List Nat) : ∀ l, l.Pairwise (fun a b => hd a ≤ hd b) → (insH x l).Pairwise (fun a b => hd a ≤ hd b)
  | [], _ => by simp [insH]
  | y :: l, h => by
    have h1 := List.pairwise_cons.1 h
    unfold insH; split
    · rename_i hxy
      exact List.pairwise_cons.2 ⟨fun z hz => by
        rcases List.mem_cons.1 hz with rfl | hz
        · exact hxy
        · exact Nat.le_trans hxy (h1.1 z hz), h⟩
    · rename_i hxy
      refine List.pairwise_cons.2 ⟨fun z hz => ?_, insH_asc x l h1.2⟩
      rcases List.mem_cons.1 ((insH_perm x l).mem_iff.1 hz) with rfl | hz
      · omega
      · exact h1.1 z hz
theorem sortH_asc : ∀ l, (sortH l).Pairwise (fun a b => hd a ≤ hd b)
  | [] => .nil
  | x :: l => insH_asc x _ (sortH_asc l)
theorem headU : ∀ {l m : List (List Nat)}, l.Perm m → l.Pairwise (fun a b => hd a ≤ hd b) → m.Pairwise (fun a b => hd a ≤ hd b) → (∀ a ∈ l, ∀ b ∈ l, hd a = hd b → a = b) → l = m
  | [], m, h, _, _, _ => by rw [List.nil_perm.1 h]
  | x :: l, [], h, _, _, _ => by have := h.length_eq; simp at this
  | x :: l, y :: m, h, h1, h2, hi => by
    have p1 := List.pairwise_cons.1 h1
    have p2 := List.pairwise_cons.1 h2
    have hy : y ∈ x :: l := h.mem_iff.2 (List.mem_cons_self ..)
    have e : x = y := by
      have a1 : hd y ≤ hd x := by
        rcases List.mem_cons.1 (h.mem_iff.1 (List.mem_cons_self ..)) with e | e
        · rw [e]; exact Nat.le_refl _
        · exact p2.1 x e
      have a2 : hd x ≤ hd y := by
        rcases List.mem_cons.1 hy with e | e
        · rw [e]; exact Nat.le_refl _
        · exact p1.1 y e
      exact hi x (List.mem_cons_self ..) y hy (by omega)
    subst e
    rw [headU ((List.perm_cons x).1 h) p1.2 p2.2 (fun a ha b hb => hi a (List.mem_cons_of_mem _ ha) b (List.mem_cons_of_mem _ hb))]
theorem hd_mem {C : List Nat} (h : C ≠ []) : hd C ∈ C := by
  cases C with
  | nil => exact absurd rfl h
  | cons x l => simp [hd]
theorem blk_heads {N : Nat} {A : Arcs} (ok : Ok N A) : ∀ a ∈ blkT N A, ∀ b ∈ blkT N A, hd a = hd b → a = b := fun a ha b hb e => by
  have h := blk_ok ok
  obtain ⟨j, hj, e1⟩ := List.getElem_of_mem ha
  obtain ⟨k, hk, e2⟩ := List.getElem_of_mem hb
  have := flat_idx (j := j) (k := k) h.nd (by rw [List.getElem?_eq_getElem hj, e1]) (by rw [List.getElem?_eq_getElem hk, e2]) (hd_mem (h.ne a ha)) (by rw [e]; exact hd_mem (h.ne b hb))
  subst this
  rw [← e1, ← e2]
/-- begin's state is the search's first one. -/
theorem beg_wlk {w0 w : World} {a : Option Addr} {cap N bs bi ba bn bl B : Nat} {A : Arcs} {fv : Value} {fs : List Value} {cs : Array Value} (h : Beg w0 a A.length cap N bs bi ba bn bl B w fv fs cs (incT A) (loopT A)) :
    Wlk w0 a A.length cap N A bs bi ba bn bl B w (.slice none 0 0) fv fs (st0 N A) := by
  refine ⟨h.S, h.I, ?_, ?_, ⟨by simp [st0, iv, zl], .inl ⟨rfl, rfl⟩⟩, h.R, fun g e => (by cases e), fun v hv => ?_, h.X, h.Z⟩
  · show BlkI w bn (zl (List.replicate N 0))
    have := h.n
    unfold zl; rw [List.map_replicate]; exact this
  · show BlkI w bl (zl (List.replicate N 0))
    have := h.l
    unfold zl; rw [List.map_replicate]; exact this
  · obtain ⟨sv, h5, h6⟩ := h.Hr v hv
    obtain ⟨b, c, rfl, hin, -⟩ := own_ints h6 (by rw [zl_len])
    rw [zl_len] at h5
    refine ⟨b, c, by rw [Lib.cell_of_heap h.H]; exact h5, hin, fun q e => ?_⟩
    have hq : (Value.slice b (incT A v).length c).ownBlock = some q.block := by rw [e]; rfl
    have := h6.lt q.block (by rw [e]; rfl)
    exact ⟨this.1, this.2, fun e2 => (by cases e2), h.C v _ q.block h5 hq⟩
/-- All visits' contracts. -/
def Vis : Prop := ∀ (w0 : World) (a : Option Addr) (cap N bs bi ba bn bl B : Nat) (A : Arcs), SLie w0.heap.size bs bi ba bn bl B → N ≤ 64 → A.length ≤ 256 → Ok N A → ArcIn w0 a (zarc A) → ∀ f, VisC w0 a A.length cap N A bs bi ba bn bl B f
set_option maxHeartbeats 8000000 in
set_option maxRecDepth 100000 in
theorem blocks_of (VIS : Vis) (N : Nat) (a : Option Addr) (A : Arcs) (cap : Nat) (w : World) (hN : N ≤ 64) (h : ArcIn w a (zarc A)) (hA : A.length ≤ 256) (ok : Ok N A) :
    Calls Try.prog 22 #[.agg #[.int .i64 N, .slice a A.length cap]] w fun e w' => (∃ fa fc, e = .returned (.slice fa (blocksT N A).length fc) ∧ RowsB w' w.heap.size fa ((blocksT N A).map zl)) ∧ Ext w w' := by
  have hval := fun w1 (x : Ext w w1) => valid_any N a (zarc A) cap w1 (by omega) (by omega) (h.ext x) (zarc_ok hN ok) (by rw [zarc_len]; omega)
  rw [valid_ok hN hA ok, zarc_len] at hval
  have hbg := fun w1 (x : Ext w w1) => begin_any N a A cap w1 hN (h.ext x) hA ok
  obtain ⟨M, hM⟩ : ∃ M, M = A.length := ⟨_, rfl⟩
  rw [← hM] at hA hval hbg ⊢
  have HV := Lib.hid hval; have HB := Lib.hid hbg; have HM := Lib.hid hM; have HOK := Lib.hid ok; have HARC := Lib.hid h; have HVIS := Lib.hid VIS
  clear h hM hval hbg ok VIS
  go_enter Try.func22, Try.ntmps22
  go_wp2_with (first
    | (go_at_call 28; refine (HB.out _ (((Ext.refl _).alloc _).trans x1)).mono ?_; rintro e w2 ⟨bs, bi, ba, bn, bl, B, fv0, fs0, cs0, rfl, hlie, hbeg⟩; have b2 := box_two (x1.trans hbeg.X); have b20 := b2.1; have b21 := b2.2; have HLIE := Lib.hid hlie; have HBEG := Lib.hid hbeg; clear hlie hbeg)
    | (go_at_call 27; refine (HV.out _ ((Ext.refl _).alloc _)).mono ?_; rintro e w1 ⟨rfl, x1⟩; have b1 := box_two x1; have b10 := b1.1; have b11 := b1.2))
  have hx1 : Hid (Ext w w1) := Lib.hid (((Ext.refl w).alloc _).trans x1)
  have HW0 : Hid (Wlk w1 a M cap N A bs bi ba bn bl B w2 (.slice none 0 0) fv0 fs0 (st0 N A)) := Lib.hid (by
    have := HBEG.out
    rw [HM.out] at this ⊢
    exact beg_wlk this)
  have HVC : Hid (∀ f, VisC w1 a M cap N A bs bi ba bn bl B f) := Lib.hid (by
    rw [HM.out]
    exact HVIS.out w1 a cap N bs bi ba bn bl B A HLIE.out hN (by rw [← HM.out]; exact hA) HOK.out (HARC.out.ext hx1.out))
  clear b1 b2 b10 b11 b20 b21 HV HB
  go_loopw [12] (fun i' wr => ∃ (k : Nat) (sv fv : Value) (fs : List Value), k ≤ N ∧ i' = .int .i64 k ∧ Hid (Wlk w1 a M cap N A bs bi ba bn bl B wr sv fv fs (runT N A k))) (fun i' _ => N - (RowKit.intOf i').toNat)
  case atStart => exact ⟨0, _, _, _, Nat.zero_le _, rfl, HW0⟩
  case round =>
    clear HW0 HBEG
    obtain ⟨k, sv, fv, fs, hk, rfl, hW⟩ := hrel
    obtain ⟨c0, c1, c2, c3, c4, c5, -, -⟩ := hW.out.cells
    by_cases hlt : k < N
    · have TP := (run_top HOK.out k (by omega)).1
      have hrs : runT N A (k + 1) = goT N A (runT N A k) k := by unfold runT; rw [List.range_succ, List.foldl_append]; rfl
      have n1 := hW.out.n.cellD (j := k) (by rw [zl_len, TP.inv.ln]; exact hlt)
      rw [zl_getD] at n1
      rw [show ((runT N A k).num.getD k 0 : Nat) = nm (runT N A k) k from rfl] at n1
      by_cases hz : nm (runT N A k) k = 0
      · rw [hz] at n1
        have HS : Hid (runT N A (k + 1) = visT A N k (-1) (runT N A k)) := Lib.hid (by rw [hrs]; unfold goT; rw [if_pos hz])
        have hcall := HVC.out N wr sv fv fs (runT N A k) [] k (-1) (by have := TP.inv.cz; omega) hW.out (TP.pre_ hlt hz) (by omega) (by omega)
        have HC := Lib.hid hcall
        have f0 := (eq_facts (x := ((0 : Nat) : Int)) (k := 0) rfl).1
        clear hrs hz hcall TP
        go_wp2_with (go_at_call 35; refine HC.out.mono ?_; rintro r w5 ⟨rfl, -, sv5, fv5, fs5, W5⟩)
        go_roundw
        case rel => exact ⟨k + 1, sv5, fv5, fs5, by omega, by go_num, Lib.hid (by rw [HS.out]; exact W5)⟩
        case measure => simp [RowKit.intOf]; omega
      · obtain ⟨p, hp⟩ : ∃ p, p = nm (runT N A k) k := ⟨_, rfl⟩
        have HS : Hid (runT N A (k + 1) = runT N A k) := Lib.hid (by rw [hrs]; unfold goT; rw [if_neg hz])
        rw [← hp] at n1 hz
        have f0 := (neq_facts (x := ((p : Nat) : Int)) (k := 0) (by omega)).1
        clear hrs hp TP
        go_wp2
        go_roundw
        case rel => exact ⟨k + 1, sv, fv, fs, by omega, by go_num, Lib.hid (by rw [HS.out]; exact hW.out)⟩
        case measure => simp [RowKit.intOf]; omega
    · have hkN : k = N := by omega
      subst hkN
      have BO := blk_ok HOK.out
      have TP := (run_top HOK.out k (Nat.le_refl _)).1
      have hR := hW.out.R
      have hbe : (runT k A k).blk = blkT k A := rfl
      rw [hbe] at hR
      have hlen : (blkT k A).length ≤ M := by rw [HM.out]; exact TP.inv.blk_le
      obtain ⟨fa, fc, hfv, hsort⟩ := sortF_any hR (fun C hC => ⟨BO.ne C hC, fun x hx => by have := BO.lt C hC x hx; rw [← HM.out] at this; omega⟩) (by omega)
      subst hfv
      have hlie := HLIE.out
      obtain ⟨ln, hln⟩ : ∃ ln, ln = (blkT k A).length := ⟨_, rfl⟩
      rw [← hln] at hsort c5 hW
      have HLN := Lib.hid hln
      have HSO := Lib.hid hsort
      have hBl := hlie.ls
      clear hlen hbe hR TP BO hsort hln hlie
      go_wp2_with (go_at_call 36; refine HSO.out.mono ?_; rintro e ws ⟨rfl, ⟨l, hl1, hl2, hl3⟩, k10⟩; have s5 := k10.cell c5 (by show ¬ B ≤ bs; omega); have s0 := k10.cell c0 (by show ¬ B ≤ bs; omega))
      go_ret
      have hle : l = blocksT k A := by
        refine headU (hl1.trans (sortH_perm _).symm) (hl2.imp (fun {x y} h => by unfold hd; omega)) (sortH_asc _) (fun x hx y hy e => ?_)
        exact blk_heads HOK.out x (hl1.mem_iff.1 hx) y (hl1.mem_iff.1 hy) e
      have hll : (blocksT k A).length = ln := by rw [HLN.out]; exact (sortH_perm _).length_eq
      have hxw : Ext w wr := hx1.out.trans hW.out.X
      have hB0 : w.heap.size ≤ B := by
        have h1 := hx1.out.size; have h2 := HLIE.out.gs; omega
      refine ⟨⟨fa, fc, by rw [hll]; rfl, by rw [← hle]; exact hl3.mono hB0⟩, Below.trans hxw (k10.below hxw.size (fun q hq e => ?_))⟩
      have e : B ≤ q := e
      have h2 := HLIE.out.gs; have h1 := hx1.out.size
      omega
end Go.Proofs.Ytaipcpdncmnelaa.Pt

/- All visits. -/
namespace Go.Proofs.Ytaipcpdncmnelaa.Pt
open Go.RowKit Go.Sort Go.Lib Fx Tp

theorem vis : Vis := fun w0 a cap N bs bi ba bn bl B A lie hN hA ok harc f => by
  induction f with
  | zero =>
    intro w sv fv fs s g v via hf _ h _ _
    exfalso
    have h1 := h.inv.ln
    have : 0 < s.num.count 0 := List.count_pos_iff.2 (by
      have h2 := h.v0
      have h3 := h.hv
      unfold nm at h2
      rw [List.getD_eq_getElem?_getD, List.getElem?_eq_getElem (by omega)] at h2
      have h2 : s.num[v]'(by omega) = 0 := h2
      rw [← h2]; exact List.getElem_mem _)
    omega
  | succ f ih => exact visit_step w0 a cap N bs bi ba bn bl B A lie hN hA ok harc f ih
end Go.Proofs.Ytaipcpdncmnelaa.Pt
