/- Packed texts: PrtWlk, PrtEdge, PrtVisP, PrtVisF -/
import Derived.Test.YtaipcpdncmnelaaPu05
import Derived.Test.YtaipcpdncmnelaaPu06
import Derived.StillTailTactics
set_option linter.unusedVariables false
set_option linter.unusedSimpArgs false
/- The state of the search in memory, and what each step does to it. -/
namespace Go.Proofs.Ytaipcpdncmnelaa.Pt
open Go.RowKit Go.Sort Go.Lib Fx Tp

theorem zl_set (l : List Nat) (i x : Nat) : (zl l).set i (x : Int) = zl (l.set i x) := by simp [zl, List.map_set]
theorem zl_getD (l : List Nat) (i : Nat) : (zl l).getD i 0 = ((l.getD i 0 : Nat) : Int) := by
  rw [List.getD_eq_getElem?_getD, List.getD_eq_getElem?_getD]
  unfold zl; rw [List.getElem?_map]
  cases l[i]? <;> rfl
structure Wlk (w0 : World) (a : Option Addr) (M cap N : Nat) (A : Arcs) (bs bi ba bn bl B : Nat) (w : World) (sv fv : Value) (fs : List Value) (s : St) : Prop where
  S : w.heap[bs]? = some (.cells #[.pointer (some ⟨bi, 0, none⟩), .slice (some ⟨bn, 0, none⟩) N N, .slice (some ⟨bl, 0, none⟩) N N, .int .i64 s.cnt, sv, fv] 45 (0, 0))
  I : w.heap[bi]? = some (.cells #[.slice a M cap, .slice (some ⟨ba, 0, none⟩) N N] 57 (0, 0))
  n : BlkI w bn (zl s.num)
  l : BlkI w bl (zl s.low)
  T : w.ownsRow B 3 1 sv s.stk.length (iv (zl s.stk))
  R : RowsF w B fv fs s.blk
  ne : ∀ g, sv.ownBlock = some g → ¬ Uses fv fs g
  A : ∀ v, v < N → ∃ b c, w.cell? ⟨ba, v, none⟩ = some (.slice b (incT A v).length c) ∧ IntIn w b (zl (incT A v)) ∧ ∀ q, b = some q → B ≤ q.block ∧ q.block < w.heap.size ∧ sv.ownBlock ≠ some q.block ∧ ¬ Uses fv fs q.block
  X : Ext w0 w
  Z : B ≤ w.heap.size
variable {w0 w w2 : World} {a : Option Addr} {M cap N bs bi ba bn bl B : Nat} {A : Arcs} {sv fv : Value} {fs : List Value} {s : St}
theorem Wlk.ext (h : Wlk w0 a M cap N A bs bi ba bn bl B w sv fv fs s) (x : Ext w w2) : Wlk w0 a M cap N A bs bi ba bn bl B w2 sv fv fs s :=
  ⟨heap_ext h.S x, heap_ext h.I x, h.n.ext x, h.l.ext x, own_ext' h.T x, h.R.ext x, h.ne, fun v hv => by
    obtain ⟨b, c, h1, h2, h3⟩ := h.A v hv
    exact ⟨b, c, x.cell h1, h2.ext x, fun q e => ⟨(h3 q e).1, Nat.lt_of_lt_of_le (h3 q e).2.1 x.size, (h3 q e).2.2⟩⟩, h.X.trans x, Nat.le_trans h.Z x.size⟩
theorem Wlk.cells (h : Wlk w0 a M cap N A bs bi ba bn bl B w sv fv fs s) : w.cell? ⟨bs, 0, none⟩ = some (.pointer (some ⟨bi, 0, none⟩)) ∧ w.cell? ⟨bs, 1, none⟩ = some (.slice (some ⟨bn, 0, none⟩) N N) ∧ w.cell? ⟨bs, 2, none⟩ = some (.slice (some ⟨bl, 0, none⟩) N N) ∧ w.cell? ⟨bs, 3, none⟩ = some (.int .i64 s.cnt) ∧ w.cell? ⟨bs, 4, none⟩ = some sv ∧ w.cell? ⟨bs, 5, none⟩ = some fv ∧ w.cell? ⟨bi, 0, none⟩ = some (.slice a M cap) ∧ w.cell? ⟨bi, 1, none⟩ = some (.slice (some ⟨ba, 0, none⟩) N N) := by
  refine ⟨?_, ?_, ?_, ?_, ?_, ?_, ?_, ?_⟩ <;> first | (rw [Lib.cell_of_heap h.S]; rfl) | (rw [Lib.cell_of_heap h.I]; rfl)
theorem Wlk.fz (h : Wlk w0 a M cap N A bs bi ba bn bl B w sv fv fs s) (j : Nat) : w.frozen? ⟨bs, j, none⟩ = false := Lib.frozen_of_heap h.S j
/-- A store into a block below B leaves the rows. -/
theorem Wlk.keepA (h : Wlk w0 a M cap N A bs bi ba bn bl B w sv fv fs s) {S : Nat → Prop} (k : Keep S w w2) (ha : ¬ S ba) (hs : ∀ b, S b → b < B ∨ sv.ownBlock = some b ∨ Uses fv fs b ∨ w.heap.size ≤ b) {sv' fv' : Value} {fs' : List Value} (h' : ∀ q : Nat, q < w.heap.size → sv.ownBlock ≠ some q → ¬ Uses fv fs q → sv'.ownBlock ≠ some q ∧ ¬ Uses fv' fs' q) :
    ∀ v, v < N → ∃ b c, w2.cell? ⟨ba, v, none⟩ = some (.slice b (incT A v).length c) ∧ IntIn w2 b (zl (incT A v)) ∧ ∀ q, b = some q → B ≤ q.block ∧ q.block < w2.heap.size ∧ sv'.ownBlock ≠ some q.block ∧ ¬ Uses fv' fs' q.block := fun v hv => by
  obtain ⟨b, c, h1, h2, h3⟩ := h.A v hv
  refine ⟨b, c, k.cell h1 ha, fun j hj => ?_, fun q e => ?_⟩
  · obtain ⟨g, o, he, hc⟩ := h2 j hj
    obtain ⟨e1, e2, e3, e4⟩ := h3 _ he
    refine ⟨g, o, he, k.cell hc (fun e => ?_)⟩
    rcases hs g e with e | e | e | e
    · have e1 : B ≤ g := e1
      omega
    · exact e3 e
    · exact e4 e
    · have e2 : g < w.heap.size := e2
      omega
  · obtain ⟨e1, e2, e3, e4⟩ := h3 q e
    exact ⟨e1, Nat.lt_of_lt_of_le e2 k.size, h' q.block e2 e3 e4⟩
theorem keep_set (w : World) (b j : Nat) (u : Value) : Keep (· = b) w (w.setCell ⟨b, j, none⟩ u) := (Keep.refl _ w).setCell _ _ (.inl rfl)
theorem size_set (w : World) (p : Addr) (u : Value) : (w.setCell p u).heap.size = w.heap.size := by simp [World.setCell]
theorem Wlk.setB (h : Wlk w0 a M cap N A bs bi ba bn bl B w sv fv fs s) {b j : Nat} {u : Value} (hb : b < B) (hg : w0.heap.size ≤ b) (hba : ba ≠ b) {s2 : St} (e1 : s2.stk = s.stk) (e2 : s2.blk = s.blk)
    (hS : (w.setCell ⟨b, j, none⟩ u).heap[bs]? = some (.cells #[.pointer (some ⟨bi, 0, none⟩), .slice (some ⟨bn, 0, none⟩) N N, .slice (some ⟨bl, 0, none⟩) N N, .int .i64 s2.cnt, sv, fv] 45 (0, 0)))
    (hI : (w.setCell ⟨b, j, none⟩ u).heap[bi]? = some (.cells #[.slice a M cap, .slice (some ⟨ba, 0, none⟩) N N] 57 (0, 0)))
    (hn : BlkI (w.setCell ⟨b, j, none⟩ u) bn (zl s2.num)) (hl : BlkI (w.setCell ⟨b, j, none⟩ u) bl (zl s2.low)) : Wlk w0 a M cap N A bs bi ba bn bl B (w.setCell ⟨b, j, none⟩ u) sv fv fs s2 := by
  refine ⟨hS, hI, hn, hl, ?_, ?_, h.ne, h.keepA (keep_set w b j u) hba (fun q e => .inl (by rw [e]; exact hb)) (fun q _ e3 e4 => ⟨e3, e4⟩), h.X.setCell hg _, by rw [size_set]; exact h.Z⟩
  · rw [e1]; exact own_keep h.T (keep_set w b j u) (fun q hq e => by have := (h.T.lt q hq).1; omega)
  · rw [e2]; exact h.R.keep (keep_set w b j u) (fun q hq e => by have := (h.R.uses hq).1; omega)
theorem Wlk.setN (h : Wlk w0 a M cap N A bs bi ba bn bl B w sv fv fs s) (lie : SLie w0.heap.size bs bi ba bn bl B) (v x : Nat) : Wlk w0 a M cap N A bs bi ba bn bl B (w.setCell ⟨bn, v, none⟩ (.int .i64 x)) sv fv fs { s with num := s.num.set v x } := by
  refine h.setB lie.ln lie.gn lie.an rfl rfl (heap_other h.S _ _ lie.sn) (heap_other h.I _ _ lie.in_) ?_ (heap_other h.l _ _ (fun e => lie.nl e.symm))
  show BlkI _ bn (zl (s.num.set v x))
  rw [← zl_set]; exact h.n.set v x
theorem Wlk.setL (h : Wlk w0 a M cap N A bs bi ba bn bl B w sv fv fs s) (lie : SLie w0.heap.size bs bi ba bn bl B) (v x : Nat) : Wlk w0 a M cap N A bs bi ba bn bl B (w.setCell ⟨bl, v, none⟩ (.int .i64 x)) sv fv fs { s with low := s.low.set v x } := by
  refine h.setB lie.ll lie.gl lie.al rfl rfl (heap_other h.S _ _ lie.sl) (heap_other h.I _ _ lie.il) (heap_other h.n _ _ lie.nl) ?_
  show BlkI _ bl (zl (s.low.set v x))
  rw [← zl_set]; exact h.l.set v x
theorem Wlk.setC (h : Wlk w0 a M cap N A bs bi ba bn bl B w sv fv fs s) (lie : SLie w0.heap.size bs bi ba bn bl B) (x : Nat) : Wlk w0 a M cap N A bs bi ba bn bl B (w.setCell ⟨bs, 3, none⟩ (.int .i64 x)) sv fv fs { s with cnt := x } := by
  refine h.setB lie.ls lie.gs (fun e => lie.sa e.symm) rfl rfl ?_ (heap_other h.I _ _ (fun e => lie.si e.symm)) (heap_other h.n _ _ (fun e => lie.sn e.symm)) (heap_other h.l _ _ (fun e => lie.sl e.symm))
  rw [heap_set h.S 3 (.int .i64 x)]; rfl
/-- A world in which the stack's row alone has turned, and a store of the new stack. -/
theorem Wlk.stkW {g n c : Nat} {k : List Nat} (h : Wlk w0 a M cap N A bs bi ba bn bl B w sv fv fs s) (lie : SLie w0.heap.size bs bi ba bn bl B) (hn : n = k.length)
    (ho : w2.ownsRow B 3 1 (.slice (some ⟨g, 0, none⟩) n c) n (iv (zl k))) (hg : w.grownBy w2 sv.ownBlock) (hat : sv.ownBlock = some g ∨ w.heap.size ≤ g) :
    Wlk w0 a M cap N A bs bi ba bn bl B (w2.setCell ⟨bs, 4, none⟩ (.slice (some ⟨g, 0, none⟩) n c)) (.slice (some ⟨g, 0, none⟩) n c) fv fs { s with stk := k } := by
  have hlo : ∀ b, sv.ownBlock = some b → B ≤ b := fun b hb => (h.T.lt b hb).1
  have kk : Keep (fun b => sv.ownBlock = some b) w w2 := (Keep.refl _ w).grown hg (fun k hk _ => hk)
  have far : ∀ {b : Nat} {o : Obj}, w.heap[b]? = some o → b < B → w2.heap[b]? = some o := fun {b o} hb hlt => heap_grown hb hg (fun e => by have := hlo b e.symm; omega)
  have ks := keep_set w2 bs 4 (.slice (some ⟨g, 0, none⟩) n c)
  have kb : Keep (fun b => sv.ownBlock = some b ∨ b = bs) w (w2.setCell ⟨bs, 4, none⟩ (.slice (some ⟨g, 0, none⟩) n c)) := (kk.mono (fun _ _ e => .inl e)).setCell _ _ (.inl (.inr rfl))
  have hgU : ¬ Uses fv fs g := fun hu => by
    rcases hat with e | e
    · exact h.ne g e hu
    · have := (h.R.uses hu).2; omega
  refine ⟨?_, heap_other (far h.I lie.li) _ _ (fun e => lie.si e.symm), heap_other (far h.n lie.ln) _ _ (fun e => lie.sn e.symm), heap_other (far h.l lie.ll) _ _ (fun e => lie.sl e.symm), ?_, ?_, fun q hq => ?_, h.keepA kb (fun e => ?_) (fun b e => ?_) (fun q hq e3 e4 => ⟨fun e => ?_, e4⟩), ?_, ?_⟩
  · rw [heap_set (far h.S lie.ls) 4 (.slice (some ⟨g, 0, none⟩) n c)]; rfl
  · rw [← hn]; exact own_keep ho ks (fun q hq e => by have := (ho.lt q hq).1; have := lie.ls; omega)
  · exact h.R.keep kb (fun q hq e => by
      rcases e with e | e
      · exact h.ne q e hq
      · have := (h.R.uses hq).1; have := lie.ls; omega)
  · have hq : g = q := by simpa [Value.ownBlock] using hq
    rw [← hq]; exact hgU
  · rcases e with e | e
    · have := hlo _ e; have := lie.la; omega
    · exact lie.sa e.symm
  · rcases e with e | e
    · exact .inr (.inl e)
    · left; rw [e]; exact lie.ls
  · have e : g = q := by simpa [Value.ownBlock] using e
    rcases hat with e2 | e2
    · exact e3 (by rw [e2, e])
    · omega
  · exact (Below.grown h.X hg h.X.size (fun b hb => by have := hlo b hb; have := lie.gs; have := lie.ls; omega)).setCell lie.gs _
  · rw [size_set]; exact Nat.le_trans h.Z hg.size
/-- A block is laid by. -/
theorem Wlk.blkW {g n c b pc : Nat} {k : List Nat} (h : Wlk w0 a M cap N A bs bi ba bn bl B w sv fv fs s) (lie : SLie w0.heap.size bs bi ba bn bl B)
    (hp : IntIn w (some ⟨b, 0, none⟩) (zl k)) (hpb : B ≤ b ∧ b < w.heap.size ∧ fv.ownBlock ≠ some b) (hsb : sv.ownBlock ≠ some b) (hab : ∀ v, v < N → ∀ bb cc, w.cell? ⟨ba, v, none⟩ = some (.slice (some bb) (incT A v).length cc) → bb.block ≠ b)
    (f1' : w2.ownsRow B 31 1 (.slice (some ⟨g, 0, none⟩) n c) n (fs ++ [.slice (some ⟨b, 0, none⟩) k.length pc])) (hn : n = s.blk.length + 1) (hg : w.grownBy w2 fv.ownBlock) (hat : fv.ownBlock = some g ∨ w.heap.size ≤ g) :
    Wlk w0 a M cap N A bs bi ba bn bl B (w2.setCell ⟨bs, 5, none⟩ (.slice (some ⟨g, 0, none⟩) n c)) sv (.slice (some ⟨g, 0, none⟩) n c) (fs ++ [.slice (some ⟨b, 0, none⟩) k.length pc]) { s with blk := s.blk ++ [k] } := by
  have hlo : ∀ b, fv.ownBlock = some b → B ≤ b := fun b hb => (h.R.own.lt b hb).1
  have kk : Keep (fun b => fv.ownBlock = some b) w w2 := (Keep.refl _ w).grown hg (fun k hk _ => hk)
  have far : ∀ {b : Nat} {o : Obj}, w.heap[b]? = some o → b < B → w2.heap[b]? = some o := fun {b o} hb hlt => heap_grown hb hg (fun e => by have := hlo b e.symm; omega)
  have ks := keep_set w2 bs 5 (.slice (some ⟨g, 0, none⟩) n c)
  have kb : Keep (fun b => fv.ownBlock = some b ∨ b = bs) w (w2.setCell ⟨bs, 5, none⟩ (.slice (some ⟨g, 0, none⟩) n c)) := (kk.mono (fun _ _ e => .inl e)).setCell _ _ (.inl (.inr rfl))
  have P := RowsF.push h.R hp (fun q e => by cases e; exact hpb) f1' hn hg hat
  have uses : ∀ q, Uses (.slice (some ⟨g, 0, none⟩) n c) (fs ++ [.slice (some ⟨b, 0, none⟩) k.length pc]) q → q = g ∨ q = b ∨ Uses fv fs q := fun q hu => by
    rcases hu with hu | ⟨s2, hs2, hu⟩
    · have hu : g = q := by simpa [Value.ownBlock] using hu
      exact .inl hu.symm
    · rcases List.mem_append.1 hs2 with hs2 | hs2
      · exact .inr (.inr (.inr ⟨s2, hs2, hu⟩))
      · rw [List.mem_singleton.1 hs2] at hu
        have hu : b = q := by simpa [Value.ownBlock] using hu
        exact .inr (.inl hu.symm)
  refine ⟨?_, heap_other (far h.I lie.li) _ _ (fun e => lie.si e.symm), heap_other (far h.n lie.ln) _ _ (fun e => lie.sn e.symm), heap_other (far h.l lie.ll) _ _ (fun e => lie.sl e.symm), ?_, ?_, fun q hq hu => ?_, fun v hv => ?_, ?_, ?_⟩
  · rw [heap_set (far h.S lie.ls) 5 (.slice (some ⟨g, 0, none⟩) n c)]; rfl
  · exact own_keep h.T kb (fun q hq e => by
      rcases e with e | e
      · exact h.ne q hq (.inl e)
      · have := (h.T.lt q hq).1; have := lie.ls; omega)
  · exact P.keep ks (fun q hq e => by have := (P.uses hq).1; have := lie.ls; omega)
  · rcases uses q hu with e | e | e
    · rcases hat with e2 | e2
      · exact h.ne q hq (.inl (by rw [e2, e]))
      · have := (h.T.lt q hq).2; omega
    · rw [e] at hq; exact hsb hq
    · exact h.ne q hq e
  · obtain ⟨bb, cc, h1, h2, h3⟩ := h.A v hv
    have hnu : ∀ q, bb = some q → ¬ Uses (.slice (some ⟨g, 0, none⟩) n c) (fs ++ [.slice (some ⟨b, 0, none⟩) k.length pc]) q.block := fun q e hu => by
      obtain ⟨e1, e2, e3, e4⟩ := h3 q e
      rcases uses _ hu with e5 | e5 | e5
      · rcases hat with e6 | e6
        · exact e4 (.inl (by rw [e6, e5]))
        · omega
      · subst e; exact hab v hv q cc h1 e5
      · exact e4 e5
    refine ⟨bb, cc, kb.cell h1 (fun e => ?_), fun j hj => ?_, fun q e => ?_⟩
    · rcases e with e | e
      · have e : fv.ownBlock = some ba := e
        have := hlo _ e; have := lie.la; omega
      · exact lie.sa e.symm
    · obtain ⟨q, o, he, hc⟩ := h2 j hj
      obtain ⟨e1, e2, e3, e4⟩ := h3 _ he
      refine ⟨q, o, he, kb.cell hc (fun e => ?_)⟩
      rcases e with e | e
      · exact e4 (.inl e)
      · have e : q = bs := e
        have e1 : B ≤ q := e1
        have := lie.ls; omega
    · obtain ⟨e1, e2, e3, e4⟩ := h3 q e
      exact ⟨e1, by rw [size_set]; exact Nat.lt_of_lt_of_le e2 hg.size, e3, hnu q e⟩
  · exact (Below.grown h.X hg h.X.size (fun b hb => by have := hlo b hb; have := lie.gs; have := lie.ls; omega)).setCell lie.gs _
  · rw [size_set]; exact Nat.le_trans h.Z hg.size
end Go.Proofs.Ytaipcpdncmnelaa.Pt

/- edges, other and loop; sizes of the search's lists. -/
namespace Go.Proofs.Ytaipcpdncmnelaa.Pt
open Go.RowKit Go.Sort Go.Lib Fx Tp

theorem sl_cap {w : World} {B n m c : Nat} {a : Option Addr} {e : TypeId} {xs : List Value} (h : w.ownsRow B e 1 (.slice a m c) n xs) : m ≤ c ∧ c ≤ maxLen := by
  rcases h.2 with ⟨h1, _⟩ | ⟨g', cap, cur, h1, _, _, h3, h4, _⟩
  · cases h1; exact ⟨Nat.le_refl _, Nat.zero_le _⟩
  · injection h1 with _ e2 e3
    subst e2; subst e3; exact ⟨h3, h4⟩
theorem own_trunc {w : World} {B n m c k : Nat} {a : Addr} {e : TypeId} {xs : List Value} (h : w.ownsRow B e 1 (.slice (some a) m c) n xs) (hk : k ≤ n) : w.ownsRow B e 1 (.slice (some a) k c) k (xs.take k) := by
  have hl := h.1
  refine ⟨by rw [List.length_take]; omega, ?_⟩
  rcases h.2 with ⟨h1, _⟩ | ⟨g, cap, cur, h1, h2, h3, h4, h5, h6, h7⟩
  · cases h1
  · injection h1 with e1 e2 e3
    injection e1 with e1
    subst e1; subst e3
    refine .inr ⟨g, c, cur, rfl, h2, h3, by omega, h5, h6, ?_⟩
    rw [← h7, List.take_take, Nat.mul_one, Nat.mul_one, Nat.min_eq_left hk]
theorem grown_refl (w : World) (row : Option Nat) : w.grownBy w row := ⟨rfl, rfl, rfl, Nat.le_refl _, fun _ _ _ => rfl⟩
theorem cast_min (a b : Nat) : ((min a b : Nat) : Int) = min (a : Int) (b : Int) := by omega
theorem new_cellsd (w : World) (l : List Value) (T : TypeId) (n : Nat) (hn : w.heap.size = n) : ∀ j u, l[j]? = some u → (w.alloc (.cells l.toArray T)).drew.cell? ((⟨n, 0, none⟩ : Addr).add j) = some u := by
  intro j u hu
  have h : (w.alloc (.cells l.toArray T)).drew.heap[w.heap.size]? = some (.cells l.toArray T) := heap_alloc_new w _
  rw [add_at, ← hn, Lib.cell_of_heap h]
  simpa using hu
/-! ### sizes -/
theorem nodup_le {n : Nat} {l : List Nat} (hn : l.Nodup) (h : ∀ x ∈ l, x < n) : l.length ≤ n := nodup_len hn h
theorem Inv.pushed_le {N : Nat} {A : Arcs} {s : St} (h : Inv N A s) : (pushed s).length ≤ A.length := nodup_le h.nd h.pm
theorem Inv.stk_le {N : Nat} {A : Arcs} {s : St} (h : Inv N A s) : s.stk.length ≤ A.length := by
  have := h.pushed_le
  unfold pushed at this; rw [List.length_append] at this; omega
theorem flat_ge : ∀ (B : List (List Nat)), (∀ C ∈ B, C ≠ []) → B.length ≤ B.flatten.length
  | [], _ => Nat.le_refl _
  | C :: B, h => by
    have := flat_ge B (fun D hD => h D (List.mem_cons_of_mem _ hD))
    have h1 := List.length_pos_iff.2 (h C (List.mem_cons_self ..))
    rw [List.flatten_cons, List.length_append, List.length_cons]; omega
theorem Inv.blk_le {N : Nat} {A : Arcs} {s : St} (h : Inv N A s) : s.blk.length ≤ A.length := by
  have := h.pushed_le
  have := flat_ge s.blk h.ne
  unfold pushed at *; rw [List.length_append] at *; omega
theorem Inv.cnt_le {N : Nat} {A : Arcs} {s : St} (h : Inv N A s) : s.cnt ≤ N := by have := h.cz; omega
/-! ### the functions -/
set_option maxHeartbeats 1000000 in
theorem edges_any (bi ba N v n : Nat) (b : Option Addr) (c : Nat) (w : World) (h1 : w.cell? ⟨bi, 1, none⟩ = some (.slice (some ⟨ba, 0, none⟩) N N)) (h2 : w.cell? ⟨ba, v, none⟩ = some (.slice b n c)) (hv : v < N) :
    Calls Try.prog 29 #[.pointer (some ⟨bi, 0, none⟩), .int .i64 v] w fun e w' => e = .returned (.slice b n c) ∧ w' = w := by
  go_enter Try.func29, Try.ntmps29
  go_wp2
  go_ret
  exact ⟨rfl, rfl⟩
theorem wrap_in {x : Int} (h0 : -1000000 ≤ x) (h1 : x ≤ 1000000) : IntKind.i64.wrap x = x := IntWalk.i64_in _ (by omega)
set_option maxHeartbeats 2000000 in
theorem other_any (bi : Nat) (a : Option Addr) (A : Arcs) (M cap e v : Nat) (u1 : Value) (w : World) (hM : M = A.length) (h : ArcIn w a (zarc A)) (h0 : w.cell? ⟨bi, 0, none⟩ = some (.slice a M cap)) (he : e ∈ incT A v) (hp : (arcN A e).1 ≤ 64 ∧ (arcN A e).2 ≤ 64) :
    Calls Try.prog 30 #[.pointer (some ⟨bi, 0, none⟩), .int .i64 e, .int .i64 v] w fun r w' => r = .returned (.int .i64 (oth A e v)) ∧ Ext w w' := by
  have hm := mem_incT.1 he
  obtain ⟨g, o, rfl, d0, d1⟩ := h e (by rw [zarc_len]; exact hm.1)
  rw [zarc_at A e hm.1] at d0 d1
  have hoth : ((oth A e v : Nat) : Int) = ((arcN A e).1 : Int) + ((arcN A e).2 : Int) - (v : Int) := by unfold oth; omega
  have ha : arcN A e = A[e]'hm.1 := arcN_at hm.1
  rw [← ha] at d0 d1
  obtain ⟨x, hx⟩ : ∃ x, x = (arcN A e).1 := ⟨_, rfl⟩
  obtain ⟨y, hy⟩ : ∃ y, y = (arcN A e).2 := ⟨_, rfl⟩
  rw [← hx, ← hy] at hp hoth hm
  rw [← hx] at d0; rw [← hy] at d1
  have heM : e < M := by rw [hM]; exact hm.1
  have b0 : (0 : Int) ≤ (e : Int) := by omega
  have b1 : (e : Int) < (M : Int) := by omega
  have w1 := wrap_in (x := (x : Int) + (y : Int)) (by omega) (by omega)
  have w2 := wrap_in (x := (x : Int) + (y : Int) - (v : Int)) (by omega) (by omega)
  have HO := Lib.hid hoth
  clear hx hy ha hM h he hoth hm
  go_enter Try.func30, Try.ntmps30
  go_wp2_with fail
  go_quiet (fail)
  go_wp2
  go_ret
  refine ⟨?_, by first | exact (Ext.refl _).drewN _ | exact (Ext.refl _).drew⟩
  rw [HO.out]
  first | rfl | (simp only [w1, w2]; rfl)
set_option maxHeartbeats 1000000 in
theorem loop_any (x y : Nat) (w : World) :
    Calls Try.prog 34 #[.agg #[.int .i64 x, .int .i64 y]] w fun e w' => e = .returned (.bool ((x : Int) == (y : Int))) ∧ Ext w w' := by
  go_enter Try.func34, Try.ntmps34
  go_wp2
  go_ret
  exact ⟨rfl, (Ext.refl _).alloc _⟩
end Go.Proofs.Ytaipcpdncmnelaa.Pt

/- A visit's contract; its law along the loop. -/
namespace Go.Proofs.Ytaipcpdncmnelaa.Pt
open Go.RowKit Go.Sort Go.Lib Fx Tp

theorem foldl_take {α β : Type} (f : β → α → β) (s : β) (L : List α) (k : Nat) (h : k < L.length) : (L.take (k + 1)).foldl f s = f ((L.take k).foldl f s) L[k] := by
  rw [List.take_succ_eq_append_getElem h, List.foldl_append]; rfl
/-- One step of the loop keeps the law. -/
theorem step_law {N : Nat} {A : Arcs} {g : List Nat} {v : Nat} {via : Int} {s cur : St} (ok : Ok N A) (f : Nat) (h : Pre N A g v via s) (hf : s.num.count 0 ≤ f + 1) {D : List Nat} {e : Nat} (l : LoopI N A v via s D cur) (he : e ∈ incT A v) (heD : e ∉ D) :
    LoopI N A v via s (D ++ [e]) (stepV (fun w e s => visT A f w (e : Int) s) A v via cur e) := by
  unfold stepV
  by_cases h1 : (e : Int) = via
  · rw [if_pos h1]; exact step_via h l h1
  rw [if_neg h1]
  by_cases h2 : nm cur (oth A e v) = 0
  · rw [if_pos h2]
    refine step_child h ok l he h1 h2 (visit_law ok f (v :: g) (oth A e v) e (push e cur) (child_pre h ok l he h1 h2) ?_)
    have e1 := l.inv.cz
    have e2 := h.inv.cz
    have e3 := l.inv.le v
    have e4 := l.nv
    show cur.num.count 0 ≤ f
    omega
  rw [if_neg h2]
  by_cases h3 : nm cur (oth A e v) < nm cur v
  · rw [if_pos h3]; exact (step_back h l he heD h1 h2 h3).2
  · rw [if_neg h3]; exact step_down h l he h2 h3
/-- The law along the loop. -/
theorem loop_law {N : Nat} {A : Arcs} {g : List Nat} {v : Nat} {via : Int} {s : St} (ok : Ok N A) (f : Nat) (h : Pre N A g v via s) (hf : s.num.count 0 ≤ f + 1) :
    ∀ k, k ≤ (incT A v).length → LoopI N A v via s ((incT A v).take k) (((incT A v).take k).foldl (stepV (fun w e s => visT A f w (e : Int) s) A v via) (entr v s))
  | 0, _ => h.start
  | k + 1, hk => by
    have ih := loop_law ok f h hf k (by omega)
    rw [foldl_take _ _ _ _ (by omega), List.take_succ_eq_append_getElem (by omega)]
    refine step_law ok f h hf ih (List.getElem_mem _) (fun hm => ?_)
    have hnd := incT_nodup A v
    rw [← List.take_append_drop k (incT A v)] at hnd
    refine (List.nodup_append.1 hnd).2.2 _ hm _ ?_ rfl
    rw [List.drop_eq_getElem_cons (by omega)]; exact List.mem_cons_self ..
/-- The contract of a visit. -/
def VisC (w0 : World) (a : Option Addr) (M cap N : Nat) (A : Arcs) (bs bi ba bn bl B : Nat) (f : Nat) : Prop :=
  ∀ (w : World) (sv fv : Value) (fs : List Value) (s : St) (g : List Nat) (v : Nat) (via : Int), s.num.count 0 ≤ f → Wlk w0 a M cap N A bs bi ba bn bl B w sv fv fs s → Pre N A g v via s → -1 ≤ via → via ≤ 1000 →
    Calls Try.prog 35 #[.pointer (some ⟨bs, 0, none⟩), .int .i64 v, .int .i64 via] w fun e w' => e = .returned (.tuple #[]) ∧ w'.heap[ba]? = w.heap[ba]? ∧ ∃ sv' fv' fs', Wlk w0 a M cap N A bs bi ba bn bl B w' sv' fv' fs' (visT A f v via s)
end Go.Proofs.Ytaipcpdncmnelaa.Pt

/- visit's loop, taken out of the translation. -/
namespace Go.Proofs.Ytaipcpdncmnelaa.Pt
open Go.RowKit Go.Sort Go.Lib Fx Tp

def firstLoop : Code → Option Code
  | .loop c => some c
  | .seq a b => match firstLoop a with
    | some c => some c
    | none => firstLoop b
  | .block _ c => firstLoop c
  | .scope c => firstLoop c
  | .cond _ a b => match firstLoop a with
    | some c => some c
    | none => firstLoop b
  | _ => none
def sFst : Code → Code
  | .seq a _ => a
  | c => c
def sSnd : Code → Code
  | .seq _ b => b
  | c => c
def cThen : Code → Code
  | .cond _ a _ => a
  | c => c
def cElse : Code → Code
  | .cond _ _ b => b
  | c => c
def bIn : Code → Code
  | .block _ c => c
  | c => c
noncomputable def bodyV : Code := ((Try.f35.body.bind firstLoop).getD .skip)
/-- What stands behind the visit and the first store. -/
noncomputable def restB : Code := sSnd (sSnd (sSnd (sSnd (cThen (sSnd (cElse (sSnd (bIn (sSnd (sSnd (bIn (sFst (sSnd (sSnd bodyV))))))))))))))
end Go.Proofs.Ytaipcpdncmnelaa.Pt
