/- Packed texts: TreRun, ParRow -/
import Derived.Test.YtjaeedbjknejdaaGreatDoorPt16
set_option linter.unusedVariables false
set_option linter.unusedSimpArgs false
set_option maxHeartbeats 16000000
set_option maxRecDepth 100000
namespace Go.Proofs.YtjaeedbjknejdaaGreatDoor.Tr
open Go.RowKit Go.Lib Fx Lx
structure But (c : Nat) (w w' : World) : Prop where
  os : w'.os = w.os
  tape : w'.tape = w.tape
  output : w'.output = w.output
  size : w.heap.size <= w'.heap.size
  block : ∀ k, k < w.heap.size -> k ≠ c -> w'.heap[k]? = w.heap[k]?
theorem But.refl (c : Nat) (w : World) : But c w w := ⟨rfl, rfl, rfl, Nat.le_refl _, fun _ _ _ => rfl⟩
theorem But.trans {c : Nat} {a b d : World} (h : But c a b) (k : But c b d) : But c a d :=
  ⟨k.os.trans h.os, k.tape.trans h.tape, k.output.trans h.output, Nat.le_trans h.size k.size, fun i hi hc => (k.block i (Nat.lt_of_lt_of_le hi h.size) hc).trans (h.block i hi hc)⟩
theorem But.of {c : Nat} {a b : World} (h : Ext a b) : But c a b := ⟨h.os, h.tape, h.output, h.size, fun k hk _ => h.block k hk⟩
theorem But.ext {c : Nat} {a b d : World} (h : But c a b) (k : Ext b d) : But c a d := h.trans (But.of k)
theorem But.alloc {c : Nat} {a b : World} (h : But c a b) (o : Obj) : But c a (b.alloc o) := h.ext ((Ext.refl _).alloc o)
theorem But.setCell {c : Nat} {a b : World} (h : But c a b) (p : Addr) (hp : p.block = c) (u : Value) : But c a (b.setCell p u) :=
  ⟨h.os, h.tape, h.output, by have := h.size; simpa [World.setCell] using this, fun k hk hc => (Below.heap_setCell _ _ _ _ (by omega)).trans (h.block k hk hc)⟩
theorem But.cell {c : Nat} {a b : World} (h : But c a b) {p : Addr} {v : Value} (hc : p.block ≠ c) (hv : a.cell? p = some v) : b.cell? p = some v := by
  have hb : p.block < a.heap.size := World.block_lt_of_cell? _ _ hv
  rw [World.cell?_of_block (w := a) (h.block _ hb hc)]; exact hv
theorem But.below {c : Nat} {a b : World} (h : But c a b) {n : Nat} (hn : n <= c) (hs : n <= a.heap.size) : Below n a b :=
  ⟨h.os, h.tape, h.output, h.size, fun k hk => h.block k (by omega) (by omega)⟩
theorem But.fresh {w a b : World} {c : Nat} (x : Ext w a) (h : But c a b) (hc : w.heap.size <= c) : Ext w b :=
  Below.trans x (h.below hc x.size)
theorem setOne {w : World} {B : Nat} {cs : Array Value} {T : TypeId} (h : w.heap[B]? = some (.cells cs T (0, 0))) (i : Nat) (v : Value) :
    (w.setCell ⟨B, i, none⟩ v).heap[B]? = some (.cells (cs.setIfInBounds i v) T (0, 0)) := by
  unfold World.setCell
  simp [Array.getElem?_modify, h]
def runA (step : Int -> Stm × Nat -> Int × Bool) (acc : Int) : List (Stm × Nat) -> Int × Bool
  | [] => (acc, true)
  | p :: r => if (step acc p).2 = true then runA step (step acc p).1 r else ((step acc p).1, false)
theorem runA_app (step : Int -> Stm × Nat -> Int × Bool) : ∀ (acc : Int) (l m : List (Stm × Nat)), runA step acc (l ++ m) = if (runA step acc l).2 = true then runA step (runA step acc l).1 m else runA step acc l
  | acc, [], m => by simp [runA]
  | acc, p :: r, m => by
    rw [List.cons_append, runA, runA]
    by_cases h : (step acc p).2 = true
    · rw [if_pos h, if_pos h, runA_app step _ r m]
    · rw [if_neg h, if_neg h, if_neg (by simp)]
def stepC (acc : Int) (_ : Stm × Nat) : Int × Bool := (wrap64 (acc + 1), true)
def stepV (_ : Int) (p : Stm × Nat) : Int × Bool := (stmE p, decide (stmE p = 0))
theorem runC_len : ∀ (l : List (Stm × Nat)) (acc : Int), 0 <= acc -> acc + l.length < 9223372036854775808 -> runA stepC acc l = (acc + l.length, true)
  | [], acc, _, _ => by simp [runA]
  | p :: r, acc, h, h2 => by
    rw [List.length_cons] at h2 ⊢
    have e : (stepC acc p) = (acc + 1, true) := by unfold stepC wrap64; rw [show (acc + 1 + 9223372036854775808) % 18446744073709551616 - 9223372036854775808 = acc + 1 by omega]
    rw [runA, e, if_pos rfl, runC_len r (acc + 1) (by omega) (by push_cast at h2 ⊢; omega)]
    push_cast
    rw [show acc + 1 + (r.length : Int) = acc + ((r.length : Int) + 1) by omega]
theorem runV_first : ∀ (l : List (Stm × Nat)), (runA stepV 0 l).1 = firstE l
  | [] => rfl
  | p :: r => by
    rw [runA, firstE, stepV]
    by_cases h : stmE p = 0
    · rw [if_pos (decide_eq_true h), if_neg (fun h' => h' h), h]
      exact runV_first r
    · rw [if_neg (by simpa using h), if_pos h]
end Go.Proofs.YtjaeedbjknejdaaGreatDoor.Tr

namespace Go.Proofs.YtjaeedbjknejdaaGreatDoor.Pa
open Go.RowKit Go.Sort Go.Lib Go.Shelf Fx Lx Tr
theorem own_but {c : Nat} {w w' : World} {B : Nat} {e : TypeId} {sz : Nat} {v : Value} {n : Nat} {xs : List Value} (h : w.ownsRow B e sz v n xs) (x : But c w w') (hB : c < B) : w'.ownsRow B e sz v n xs := by
  refine ⟨h.1, ?_⟩
  rcases h.2 with h1 | ⟨g, cap, cur, hv, hb, hg, r⟩
  · exact .inl h1
  exact .inr ⟨g, cap, cur, hv, hb, (x.block g (Array.getElem?_eq_some_iff.1 hg).1 (by omega)).trans hg, r⟩
theorem But.grown {c : Nat} {a w w' : World} {row : Option Nat} (h : But c a w) (hg : w.grownBy w' row) (hr : ∀ k, row = some k -> a.heap.size <= k) : But c a w' :=
  ⟨hg.os.trans h.os, hg.tape.trans h.tape, hg.output.trans h.output, Nat.le_trans h.size hg.size, fun k hk hc => (hg.block k (Nat.lt_of_lt_of_le hk h.size) (fun e => by have := hr k e.symm; omega)).trans (h.block k hk hc)⟩
def TwoP (ok : Nat -> Prop) (w : World) (a : Option Addr) (L : List Two) : Prop :=
  ∀ k (h : k < L.length), ∃ g o, a = some ⟨g, o, none⟩ /\ ok g /\ w.cell? ⟨g, o + k * 2, none⟩ = some (.string L[k].1) /\ w.cell? ⟨g, o + k * 2 + 1, none⟩ = some (.string L[k].2)
def Kept (ok : Nat -> Prop) (w w' : World) : Prop := ∀ g, ok g -> g < w.heap.size -> w'.heap[g]? = w.heap[g]?
theorem Kept.cell {ok : Nat -> Prop} {w w' : World} (h : Kept ok w w') {p : Addr} {v : Value} (hp : ok p.block) (hv : w.cell? p = some v) : w'.cell? p = some v := by
  rw [World.cell?_of_block (w := w) (h _ hp (World.block_lt_of_cell? _ _ hv))]; exact hv
theorem TwoP.keep {ok ok' : Nat -> Prop} {w w' : World} {a : Option Addr} {L : List Two} (h : TwoP ok w a L) (k : Kept ok w w') (ho : ∀ g, ok g -> g < w.heap.size -> ok' g) : TwoP ok' w' a L := fun i hi => by
  obtain ⟨g, o, ha, hg, h0, h1⟩ := h i hi
  exact ⟨g, o, ha, ho g hg (World.block_lt_of_cell? _ ⟨g, _, none⟩ h0), k.cell (p := ⟨g, _, none⟩) hg h0, k.cell (p := ⟨g, _, none⟩) hg h1⟩
theorem TwoP.at {ok : Nat -> Prop} {w : World} {a : Option Addr} {L : List Two} {n : Nat} (h : TwoP ok w a L) (ho : ∀ g, ok g -> g < n) : TwoAt n w a L := fun i hi => by
  obtain ⟨g, o, ha, hg, h0, h1⟩ := h i hi
  exact ⟨g, o, ha, ho g hg, h0, h1⟩
def twosC (L : List Two) : List Value := L.flatMap fun q => [.string q.1, .string q.2]
theorem twosC_snoc (L : List Two) (q : Two) : twosC (L ++ [q]) = twosC L ++ [.string q.1, .string q.2] := by unfold twosC; simp
theorem twosC_at : ∀ (L : List Two) (k : Nat) (h : k < L.length), (twosC L)[k * 2]? = some (.string L[k].1) /\ (twosC L)[k * 2 + 1]? = some (.string L[k].2)
  | [], k, h => absurd h (by simp)
  | q :: L, 0, _ => ⟨rfl, rfl⟩
  | q :: L, k + 1, h => by
    have ih := twosC_at L k (by simpa using h)
    have e : twosC (q :: L) = .string q.1 :: .string q.2 :: twosC L := rfl
    rw [e, show (k + 1) * 2 = k * 2 + 1 + 1 by omega]
    simpa using ih
def TwoV (ok : Nat -> Prop) (L : List Two) (u : Value) (w : World) : Prop := ∃ a cap, u = .slice a L.length cap /\ TwoP ok w a L /\ L.length <= cap /\ cap <= maxLen
theorem add_at (g j : Nat) : (⟨g, 0, none⟩ : Addr).add j = ⟨g, j, none⟩ := by simp [Addr.add]; exact fun h => h.symm
theorem own_two {w : World} {B : Nat} {e : TypeId} {v : Value} {L : List Two} (h : w.ownsRow B e 2 v L.length (twosC L)) : TwoV (B <= ·) L v w := by
  rcases h.2 with ⟨h1, h2⟩ | ⟨g, cap, cur, hv, hb, hg, hn, hc, _⟩
  · exact ⟨none, 0, by rw [h1, h2], fun k hk => absurd hk (by omega), by omega, by omega⟩
  refine ⟨_, cap, hv, fun k hk => ⟨g, 0, rfl, hb, ?_, ?_⟩, hn, hc⟩
  · have := h.cells (g := g) (by rw [hv]; rfl) _ _ (twosC_at L k hk).1
    rw [add_at] at this; rw [Nat.zero_add]; exact this
  have := h.cells (g := g) (by rw [hv]; rfl) _ _ (twosC_at L k hk).2
  rw [add_at] at this; rw [Nat.zero_add]; exact this
mutual
def StmP (ok : Nat -> Prop) (w : World) : Stm -> List Value -> Prop
  | .mk k nm rs al body, xs => ∃ r rc a ac b bc, xs = [.int .i64 k, .string nm, .slice r rs.length rc, .slice a al.length ac, .slice b body.length bc] /\
      TwoP ok w r rs /\ TwoP ok w a al /\ StmsP ok w b body /\ rs.length <= rc /\ al.length <= ac /\ rc <= maxLen /\ ac <= maxLen /\ body.length <= maxLen
def StmsP (ok : Nat -> Prop) (w : World) (b : Option Addr) : List Stm -> Prop
  | [] => True
  | x :: r => ∃ g o xs, b = some ⟨g, o, none⟩ /\ ok g /\ (∀ j u, xs[j]? = some u -> w.cell? ⟨g, o + j, none⟩ = some u) /\ StmP ok w x xs /\ StmsP ok w (some ⟨g, o + 5, none⟩) r
end
theorem stmP_mk (ok : Nat -> Prop) (w : World) (s : Stm) (xs : List Value) : StmP ok w s xs ↔ ∃ r rc a ac b bc, xs = [.int .i64 s.kind, .string s.name, .slice r s.refs.length rc, .slice a s.attrs.length ac, .slice b s.body.length bc] /\
      TwoP ok w r s.refs /\ TwoP ok w a s.attrs /\ StmsP ok w b s.body /\ s.refs.length <= rc /\ s.attrs.length <= ac /\ rc <= maxLen /\ ac <= maxLen /\ s.body.length <= maxLen := by
  cases s; rw [StmP]; rfl
mutual
theorem StmP.keep {ok ok' : Nat -> Prop} {w w' : World} (k : Kept ok w w') (ho : ∀ g, ok g -> g < w.heap.size -> ok' g) : ∀ (s : Stm) (xs : List Value), StmP ok w s xs -> StmP ok' w' s xs
  | .mk kd nm rs al body, xs, h => by
    rw [StmP] at h ⊢
    obtain ⟨r, rc, a, ac, b, bc, hx, hr, ha, hb, hl⟩ := h
    exact ⟨r, rc, a, ac, b, bc, hx, hr.keep k ho, ha.keep k ho, StmsP.keep k ho body b hb, hl⟩
theorem StmsP.keep {ok ok' : Nat -> Prop} {w w' : World} (k : Kept ok w w') (ho : ∀ g, ok g -> g < w.heap.size -> ok' g) : ∀ (L : List Stm) (b : Option Addr), StmsP ok w b L -> StmsP ok' w' b L
  | [], _, _ => by rw [StmsP]; trivial
  | s :: L, b, h => by
    rw [StmsP] at h ⊢
    obtain ⟨g, o, xs, hb, hg, hc, hs, hr⟩ := h
    have h0 : ∃ u, xs[0]? = some u := by
      obtain ⟨r, rc, a, ac, b, bc, hx, _⟩ := (stmP_mk ok w s xs).1 hs
      exact ⟨_, by rw [hx]; rfl⟩
    obtain ⟨u, hu⟩ := h0
    exact ⟨g, o, xs, hb, ho g hg (World.block_lt_of_cell? _ ⟨g, _, none⟩ (hc 0 u hu)), fun j u hj => k.cell (p := ⟨g, _, none⟩) hg (hc j u hj), StmP.keep k ho s xs hs, StmsP.keep k ho L _ hr⟩
end
mutual
theorem StmP.at {ok : Nat -> Prop} {w : World} {n : Nat} (ho : ∀ g, ok g -> g < n) : ∀ (s : Stm) (xs : List Value) (g o : Nat), StmP ok w s xs -> (∀ j u, xs[j]? = some u -> w.cell? ⟨g, o + j, none⟩ = some u) -> StmAt n w g o s
  | .mk kd nm rs al body, xs, g, o, h, hc => by
    rw [StmP] at h
    rw [StmAt]
    obtain ⟨r, rc, a, ac, b, bc, hx, hr, ha, hb, hl⟩ := h
    subst hx
    exact ⟨r, rc, a, ac, b, bc, hc 0 _ rfl, hc 1 _ rfl, hc 2 _ rfl, hc 3 _ rfl, hc 4 _ rfl, hr.at ho, ha.at ho, StmsP.at ho body b hb, hl⟩
theorem StmsP.at {ok : Nat -> Prop} {w : World} {n : Nat} (ho : ∀ g, ok g -> g < n) : ∀ (L : List Stm) (b : Option Addr), StmsP ok w b L -> StmsAt n w b L
  | [], _, _ => by rw [StmsAt]; trivial
  | s :: L, b, h => by
    rw [StmsP] at h
    rw [StmsAt]
    obtain ⟨g, o, xs, hb, hg, hc, hs, hr⟩ := h
    exact ⟨g, o, hb, ho g hg, StmP.at ho s xs g o hs hc, StmsP.at ho L _ hr⟩
end
def StmsC (ok : Nat -> Prop) (w : World) : List Stm -> List Value -> Prop
  | [], X => X = []
  | s :: L, X => ∃ xs Y, X = xs ++ Y /\ xs.length = 5 /\ StmP ok w s xs /\ StmsC ok w L Y
theorem StmsC.snoc {ok : Nat -> Prop} {w : World} {s : Stm} {xs : List Value} (hs : StmP ok w s xs) (hl : xs.length = 5) : ∀ (L : List Stm) (X : List Value), StmsC ok w L X -> StmsC ok w (L ++ [s]) (X ++ xs)
  | [], X, h => by
    have h : X = [] := h
    subst h
    exact ⟨xs, [], by simp, hl, hs, rfl⟩
  | t :: L, X, h => by
    obtain ⟨ys, Y, hX, h5, ht, hr⟩ := h
    exact ⟨ys, Y ++ xs, by rw [hX, List.append_assoc], h5, ht, StmsC.snoc hs hl L Y hr⟩
theorem StmsC.keep {ok ok' : Nat -> Prop} {w w' : World} (k : Kept ok w w') (ho : ∀ g, ok g -> g < w.heap.size -> ok' g) : ∀ (L : List Stm) (X : List Value), StmsC ok w L X -> StmsC ok' w' L X
  | [], _, h => h
  | s :: L, X, h => by
    obtain ⟨xs, Y, hX, hl, hs, hr⟩ := h
    exact ⟨xs, Y, hX, hl, StmP.keep k ho s xs hs, StmsC.keep k ho L Y hr⟩
theorem StmsC.at {ok : Nat -> Prop} {w : World} {g : Nat} (hg : ok g) : ∀ (L : List Stm) (X : List Value) (o : Nat), StmsC ok w L X -> (∀ j u, X[j]? = some u -> w.cell? ⟨g, o + j, none⟩ = some u) -> StmsP ok w (some ⟨g, o, none⟩) L
  | [], _, _, _, _ => by rw [StmsP]; trivial
  | s :: L, X, o, h, hc => by
    obtain ⟨xs, Y, hX, hl, hs, hr⟩ := h
    rw [StmsP]
    refine ⟨g, o, xs, rfl, hg, fun j u hj => hc j u ?_, hs, StmsC.at hg L Y (o + 5) hr fun j u hj => ?_⟩
    · rw [hX, List.getElem?_append_left (List.getElem?_eq_some_iff.1 hj).1]; exact hj
    · have := hc (5 + j) u (by rw [hX, List.getElem?_append_right (by omega), hl, Nat.add_sub_cancel_left]; exact hj)
      rw [Nat.add_assoc]; exact this
def StmsV (ok : Nat -> Prop) (L : List Stm) (u : Value) (w : World) : Prop := ∃ b cap, u = .slice b L.length cap /\ StmsP ok w b L /\ L.length <= cap /\ cap <= maxLen
theorem own_stms {w : World} {B : Nat} {e : TypeId} {v : Value} {L : List Stm} {X : List Value} {ok ok' : Nat -> Prop} (h : w.ownsRow B e 5 v L.length X) (hc : StmsC ok w L X) (ho : ∀ g, ok g -> ok' g) (hB : ∀ g, B <= g -> ok' g) : StmsV ok' L v w := by
  rcases h.2 with ⟨h1, h2⟩ | ⟨g, cap, cur, hv, hb, hg, hn, hcap, _⟩
  · have hL : L = [] := List.eq_nil_of_length_eq_zero h2
    subst hL
    exact ⟨none, 0, by rw [h1]; rfl, by rw [StmsP]; trivial, by simp, by simp⟩
  refine ⟨_, cap, hv, StmsC.at (hB g hb) L X 0 (StmsC.keep (fun _ _ _ => rfl) (fun g h _ => ho g h) L X hc) fun j u hj => ?_, hn, hcap⟩
  have := h.cells (g := g) (by rw [hv]; rfl) j u hj
  rw [add_at] at this; rw [Nat.zero_add]; exact this
def StmV (ok : Nat -> Prop) (s : Stm) (u : Value) (w : World) : Prop := ∃ xs, u = .agg xs.toArray /\ StmP ok w s xs
end Go.Proofs.YtjaeedbjknejdaaGreatDoor.Pa
