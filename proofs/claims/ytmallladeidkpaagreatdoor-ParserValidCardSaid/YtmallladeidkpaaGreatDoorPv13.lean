/- Packed texts: ParShift, TreRun, TreBase -/
import Derived.Test.YtmallladeidkpaaGreatDoorPv12
import Derived.Test.YtmallladeidkpaaGreatDoorPv07
import Derived.Test.YtmallladeidkpaaGreatDoorPv11
import Derived.OwnWalk
import Derived.Deep.RegionHeld3
import Derived.Deep.AppendLies
set_option linter.unusedVariables false
set_option linter.unusedSimpArgs false
/- Tokens on later lines: the parser gives the same, its error on a later line; no program in sight. -/
namespace Go.Proofs.YtmallladeidkpaaGreatDoor.Pa
open Go.Lib Fx Lx Tr

def shiftP {α : Type} (k : Int) : PR α → PR α
  | .ok v r => .ok v (r.map (shiftT k))
  | .err ln e => .err (if e = 0 then ln else ln + k) e
section
variable (k : Int)
theorem sh_bind {α β : Type} (x : PR α) (g g' : α → List Tok → PR β) (h : ∀ v r, g' v (r.map (shiftT k)) = shiftP k (g v r)) : (shiftP k x).bind g' = shiftP k (x.bind g) := by
  cases x with
  | ok v r => exact h v r
  | err ln e => rfl
theorem sh_isT (c : Int) (x : List UInt8) (r : List Tok) : isT c x (r.map (shiftT k)) = isT c x r := by cases r <;> rfl
theorem sh_line (last : Int) (r : List Tok) : lineOf (last + k) (r.map (shiftT k)) = lineOf last r + k := by cases r <;> rfl
theorem sh_tail (r : List Tok) : (r.map (shiftT k)).tail = r.tail.map (shiftT k) := by cases r <;> rfl
theorem sh_text (r : List Tok) : textOf (r.map (shiftT k)) = textOf r := by cases r <;> rfl
theorem sh_ite {α : Type} (c : Prop) [Decidable c] (x y x' y' : PR α) (h1 : x' = shiftP k x) (h2 : y' = shiftP k y) : (if c then x' else y') = shiftP k (if c then x else y) := by
  by_cases h : c
  · rw [if_pos h, if_pos h, h1]
  · rw [if_neg h, if_neg h, h2]
theorem sh_ok {α : Type} (v : α) (r : List Tok) : PR.ok v (r.map (shiftT k)) = shiftP k (.ok v r) := rfl
theorem sh_err {α : Type} (ln e : Int) (h : e ≠ 0) : (PR.err (ln + k) e : PR α) = shiftP k (.err ln e) := by
  show _ = PR.err (if e = 0 then ln else ln + k) e
  rw [if_neg h]
theorem sh_none {α : Type} : (PR.err 0 0 : PR α) = shiftP k (.err 0 0) := rfl
theorem sh_mark (last : Int) (m : List UInt8) (r : List Tok) : pMark (last + k) m (r.map (shiftT k)) = shiftP k (pMark last m r) := by
  unfold pMark
  rw [sh_isT, sh_line, sh_tail]
  exact sh_ite k _ _ _ _ _ rfl (sh_err k _ _ (by decide))
theorem sh_name (last : Int) (r : List Tok) : pName (last + k) (r.map (shiftT k)) = shiftP k (pName last r) := by
  cases r with
  | nil => exact sh_err k _ _ (by decide)
  | cons t r =>
    show (if t.kind = 1 then PR.ok _ _ else .err (t.line + k) 4) = shiftP k (if t.kind = 1 then _ else _)
    exact sh_ite k _ _ _ _ _ rfl (sh_err k _ _ (by decide))
theorem sh_val (last : Int) (r : List Tok) : pVal (last + k) (r.map (shiftT k)) = shiftP k (pVal last r) := by
  cases r with
  | nil => exact sh_err k _ _ (by decide)
  | cons t r =>
    show (if t.kind = 1 ∨ t.kind = 4 then PR.ok _ _ else if t.kind = 3 then PR.ok _ _ else .err (t.line + k) 4) = shiftP k (if t.kind = 1 ∨ t.kind = 4 then _ else if t.kind = 3 then _ else _)
    exact sh_ite k _ _ _ _ _ rfl (sh_ite k _ _ _ _ _ rfl (sh_err k _ _ (by decide)))
theorem sh_attr (last : Int) (r : List Tok) : pAttr (last + k) (r.map (shiftT k)) = shiftP k (pAttr last r) := by
  unfold pAttr
  rw [sh_name]
  refine sh_bind k _ _ _ fun n r => ?_
  rw [sh_mark]
  refine sh_bind k _ _ _ fun _ r => ?_
  rw [sh_val]
  exact sh_bind k _ _ _ fun v r => rfl
theorem sh_attrs (last : Int) : ∀ (f : Nat) (out : List Two) (r : List Tok), pAttrs (last + k) f out (r.map (shiftT k)) = shiftP k (pAttrs last f out r)
  | 0, _, _ => rfl
  | f + 1, out, r => by
    rw [pAttrs, pAttrs, sh_isT, sh_tail, sh_mark]
    refine sh_ite k _ _ _ _ _ rfl ?_
    rw [show (if out.isEmpty = true then PR.ok () (r.map (shiftT k)) else shiftP k (pMark last [44] r)) = shiftP k (if out.isEmpty = true then PR.ok () r else pMark last [44] r) from sh_ite k _ _ _ _ _ rfl rfl]
    refine sh_bind k _ _ _ fun _ r => ?_
    rw [sh_attr]
    exact sh_bind k _ _ _ fun q r => sh_attrs last f _ r
theorem sh_attrsB (last : Int) (r : List Tok) : pAttrsB (last + k) (r.map (shiftT k)) = shiftP k (pAttrsB last r) := by
  unfold pAttrsB
  rw [sh_mark]
  refine sh_bind k _ _ _ fun _ r => ?_
  rw [sh_attrs, List.length_map]
theorem sh_opt (last : Int) (r : List Tok) : pOpt (last + k) (r.map (shiftT k)) = shiftP k (pOpt last r) := by
  unfold pOpt
  rw [sh_isT, sh_attrsB]
  rw [show (if isT 5 [91] r = true then shiftP k (pAttrsB last r) else PR.ok [] (r.map (shiftT k))) = shiftP k (if isT 5 [91] r = true then pAttrsB last r else .ok [] r) from sh_ite k _ _ _ _ _ rfl rfl]
  refine sh_bind k _ _ _ fun a r => ?_
  rw [sh_mark]
  exact sh_bind k _ _ _ fun _ r => rfl
theorem sh_port (last : Int) (n : ByteArray) (r : List Tok) : pPort (last + k) n (r.map (shiftT k)) = shiftP k (pPort last n r) := by
  unfold pPort
  rw [sh_isT, sh_tail, sh_name]
  refine sh_ite k _ _ _ _ _ ?_ rfl
  exact sh_bind k _ _ _ fun p r => rfl
theorem sh_ref (last : Int) (r : List Tok) : pRef (last + k) (r.map (shiftT k)) = shiftP k (pRef last r) := by
  unfold pRef
  rw [sh_name]
  exact sh_bind k _ _ _ fun n r => sh_port k last n r
theorem sh_refs (last : Int) (ar : List UInt8) : ∀ (f : Nat) (out : List Two) (r : List Tok), pRefs (last + k) ar f out (r.map (shiftT k)) = shiftP k (pRefs last ar f out r)
  | 0, _, _ => rfl
  | f + 1, out, r => by
    rw [pRefs, pRefs, sh_isT, sh_mark]
    refine sh_ite k _ _ _ _ _ ?_ rfl
    refine sh_bind k _ _ _ fun _ r => ?_
    rw [sh_ref]
    exact sh_bind k _ _ _ fun q r => sh_refs last ar f _ r
theorem sh_chain (last : Int) (ar : List UInt8) (r : List Tok) : pChain (last + k) ar (r.map (shiftT k)) = shiftP k (pChain last ar r) := by
  unfold pChain
  rw [sh_name]
  refine sh_bind k _ _ _ fun n r => ?_
  rw [sh_isT, sh_isT, sh_opt, sh_port]
  refine sh_ite k _ _ _ _ _ (sh_bind k _ _ _ fun a r => rfl) (sh_bind k _ _ _ fun q r => ?_)
  rw [sh_refs, List.length_map]
  refine sh_bind k _ _ _ fun rs r => ?_
  rw [sh_opt]
  exact sh_bind k _ _ _ fun a r => rfl
theorem sh_set (last : Int) (r : List Tok) : pSet (last + k) (r.map (shiftT k)) = shiftP k (pSet last r) := by
  unfold pSet
  rw [sh_name]
  refine sh_bind k _ _ _ fun n r => ?_
  rw [sh_mark]
  refine sh_bind k _ _ _ fun _ r => ?_
  rw [sh_val]
  refine sh_bind k _ _ _ fun v r => ?_
  rw [sh_mark]
  exact sh_bind k _ _ _ fun _ r => rfl
theorem sh_def (last : Int) (x : List UInt8) (r : List Tok) : pDef (last + k) x (r.map (shiftT k)) = shiftP k (pDef last x r) := by
  unfold pDef
  rw [sh_attrsB]
  refine sh_bind k _ _ _ fun a r => ?_
  rw [sh_mark]
  exact sh_bind k _ _ _ fun _ r => rfl
theorem sh_all (last : Int) (ar : List UInt8) : ∀ f : Nat, (∀ dep r, pStm (last + k) ar f dep (r.map (shiftT k)) = shiftP k (pStm last ar f dep r)) ∧
    (∀ dep r, pBlock (last + k) ar f dep (r.map (shiftT k)) = shiftP k (pBlock last ar f dep r)) ∧ ∀ dep out r, pStms (last + k) ar f dep out (r.map (shiftT k)) = shiftP k (pStms last ar f dep out r)
  | 0 => by
    refine ⟨fun _ _ => ?_, fun _ _ => ?_, fun _ _ _ => ?_⟩
    · rw [pStm, pStm]; rfl
    · rw [pBlock, pBlock]; rfl
    · rw [pStms, pStms]; rfl
  | f + 1 => by
    obtain ⟨h1, h2, h3⟩ := sh_all last ar f
    refine ⟨fun dep r => ?_, fun dep r => ?_, fun dep out r => ?_⟩
    · rw [pStm, pStm, sh_isT, sh_isT, sh_isT, sh_isT, sh_text, sh_tail, sh_def, sh_set, sh_name, sh_chain]
      refine sh_ite k _ _ _ _ _ rfl (sh_ite k _ _ _ _ _ rfl (sh_ite k _ _ _ _ _ (sh_bind k _ _ _ fun n r => ?_) rfl))
      rw [h2]
      exact sh_bind k _ _ _ fun b r => rfl
    · rw [pBlock, pBlock, sh_isT, sh_line, sh_mark]
      exact sh_ite k _ _ _ _ _ (sh_err k _ _ (by decide)) (sh_bind k _ _ _ fun _ r => h3 dep [] r)
    · rw [pStms, pStms, sh_isT, sh_tail, h1]
      exact sh_ite k _ _ _ _ _ rfl (sh_bind k _ _ _ fun s r => h3 dep _ r)
theorem sh_tree (last : Int) (f : Nat) (r : List Tok) : pTree (last + k) f (r.map (shiftT k)) = shiftP k (pTree last f r) := by
  unfold pTree
  rw [sh_isT, sh_isT, sh_tail, sh_line, sh_name]
  refine sh_ite k _ _ _ _ _ (sh_bind k _ _ _ fun n r => ?_) (sh_ite k _ _ _ _ _ (sh_bind k _ _ _ fun n r => ?_) (sh_err k _ _ (by decide)))
  · rw [(sh_all k last _ f).2.1]; exact sh_bind k _ _ _ fun b r => rfl
  · rw [(sh_all k last _ f).2.1]; exact sh_bind k _ _ _ fun b r => rfl
end
end Go.Proofs.YtmallladeidkpaaGreatDoor.Pa

/- A world that differs in one block alone; a run over a list of statements that stops at the first that says so. -/
namespace Go.Proofs.YtmallladeidkpaaGreatDoor.Tr
open Go.RowKit Go.Lib Fx Lx

/-- Nothing of what was there has turned but block c. -/
structure But (c : Nat) (w w' : World) : Prop where
  os : w'.os = w.os
  tape : w'.tape = w.tape
  output : w'.output = w.output
  size : w.heap.size ≤ w'.heap.size
  block : ∀ k, k < w.heap.size → k ≠ c → w'.heap[k]? = w.heap[k]?
theorem But.refl (c : Nat) (w : World) : But c w w := ⟨rfl, rfl, rfl, Nat.le_refl _, fun _ _ _ => rfl⟩
theorem But.trans {c : Nat} {a b d : World} (h : But c a b) (k : But c b d) : But c a d :=
  ⟨k.os.trans h.os, k.tape.trans h.tape, k.output.trans h.output, Nat.le_trans h.size k.size, fun i hi hc => (k.block i (Nat.lt_of_lt_of_le hi h.size) hc).trans (h.block i hi hc)⟩
theorem But.of {c : Nat} {a b : World} (h : Ext a b) : But c a b := ⟨h.os, h.tape, h.output, h.size, fun k hk _ => h.block k hk⟩
theorem But.ext {c : Nat} {a b d : World} (h : But c a b) (k : Ext b d) : But c a d := h.trans (But.of k)
theorem But.alloc {c : Nat} {a b : World} (h : But c a b) (o : Obj) : But c a (b.alloc o) := h.ext ((Ext.refl _).alloc o)
theorem But.setCell {c : Nat} {a b : World} (h : But c a b) (p : Addr) (hp : p.block = c) (u : Value) : But c a (b.setCell p u) :=
  ⟨h.os, h.tape, h.output, by have := h.size; simpa [World.setCell] using this, fun k hk hc => (Below.heap_setCell _ _ _ _ (by omega)).trans (h.block k hk hc)⟩
theorem But.cell {c : Nat} {a b : World} (h : But c a b) {p : Addr} {v : Value} (hc : p.block ≠ c) (hv : a.cell? p = some v) : b.cell? p = some v := by
  have hb : p.block < a.heap.size := World.block_lt_of_cell? _ _ hv
  rw [World.cell?_of_block (w := a) (h.block _ hb hc)]; exact hv
theorem But.frozen {c : Nat} {a b : World} (h : But c a b) {p : Addr} (hc : p.block ≠ c) (hb : p.block < a.heap.size) : b.frozen? p = a.frozen? p :=
  World.frozen?_of_block (w := a) (h.block _ hb hc)
theorem But.below {c : Nat} {a b : World} (h : But c a b) {n : Nat} (hn : n ≤ c) (hs : n ≤ a.heap.size) : Below n a b :=
  ⟨h.os, h.tape, h.output, h.size, fun k hk => h.block k (by omega) (by omega)⟩
/-- Behind a call that began at w with the block c new. -/
theorem But.fresh {w a b : World} {c : Nat} (x : Ext w a) (h : But c a b) (hc : w.heap.size ≤ c) : Ext w b :=
  Below.trans x (h.below hc x.size)
theorem setOne {w : World} {B : Nat} {cs : Array Value} {T : TypeId} (h : w.heap[B]? = some (.cells cs T (0, 0))) (i : Nat) (v : Value) :
    (w.setCell ⟨B, i, none⟩ v).heap[B]? = some (.cells (cs.setIfInBounds i v) T (0, 0)) := by
  unfold World.setCell
  simp [Array.getElem?_modify, h]
/-- The run: the accumulator, and whether it went to the end. -/
def runA (step : Int → Stm × Nat → Int × Bool) (acc : Int) : List (Stm × Nat) → Int × Bool
  | [] => (acc, true)
  | p :: r => if (step acc p).2 = true then runA step (step acc p).1 r else ((step acc p).1, false)
theorem runA_app (step : Int → Stm × Nat → Int × Bool) : ∀ (acc : Int) (l m : List (Stm × Nat)), runA step acc (l ++ m) = if (runA step acc l).2 = true then runA step (runA step acc l).1 m else runA step acc l
  | acc, [], m => by simp [runA]
  | acc, p :: r, m => by
    rw [List.cons_append, runA, runA]
    by_cases h : (step acc p).2 = true
    · rw [if_pos h, if_pos h, runA_app step _ r m]
    · rw [if_neg h, if_neg h, if_neg (by simp)]
def stepC (acc : Int) (_ : Stm × Nat) : Int × Bool := (wrap64 (acc + 1), true)
def stepV (_ : Int) (p : Stm × Nat) : Int × Bool := (stmE p, decide (stmE p = 0))
theorem runC_len : ∀ (l : List (Stm × Nat)) (acc : Int), 0 ≤ acc → acc + l.length < 9223372036854775808 → runA stepC acc l = (acc + l.length, true)
  | [], acc, _, _ => by simp [runA]
  | p :: r, acc, h, h2 => by
    rw [List.length_cons] at h2 ⊢
    have e : (stepC acc p) = (acc + 1, true) := by unfold stepC wrap64; rw [show (acc + 1 + 9223372036854775808) % 18446744073709551616 - 9223372036854775808 = acc + 1 by omega]
    rw [runA, e, if_pos rfl, runC_len r (acc + 1) (by omega) (by push_cast at h2 ⊢; omega)]
    push_cast
    rw [show acc + 1 + (r.length : Int) = acc + ((r.length : Int) + 1) by omega]
theorem runV_first : ∀ (l : List (Stm × Nat)), (runA stepV 0 l).1 = firstE l
  | [] => rfl
  | p :: r => by
    rw [runA, firstE, stepV]
    by_cases h : stmE p = 0
    · rw [if_pos (decide_eq_true h), if_neg (fun h' => h' h), h]
      exact runV_first r
    · rw [if_neg (by simpa using h), if_pos h]
end Go.Proofs.YtmallladeidkpaaGreatDoor.Tr

/- What the texts on trees share: rows that grow, trees in memory, forms. -/
namespace Go.Proofs.YtmallladeidkpaaGreatDoor.Tr
open Go.RowKit Go.Sort Go.Lib Go.Shelf Fx Lx
theorem info_str : (Tryz.prog.info? 9).map (fun i => (i.zero, i.size, i.bytes)) = some (some (.string ⟨#[]⟩), 1, 16) := by kernel_rfl
theorem atr2_cells (w : World) (k v : ByteArray) : ∀ w1, Ext (w.alloc (.cells #[.string k, .string v] 61)) w1 →
    w1.cell? ⟨w.heap.size, 0, none⟩ = some (.string k) ∧ w1.cell? ⟨w.heap.size, 1, none⟩ = some (.string v) := fun w1 x => by
  have hb := heap_alloc_new w (.cells #[.string k, .string v] 61)
  refine ⟨x.cell ?_, x.cell ?_⟩ <;> rw [Lib.cell_of_heap hb] <;> rfl
theorem own_ext' {w w' : World} {B : Nat} {e : TypeId} {sz : Nat} {v : Value} {n : Nat} {xs : List Value} (h : w.ownsRow B e sz v n xs) (x : Ext w w') : w'.ownsRow B e sz v n xs := by
  refine ⟨h.1, ?_⟩
  rcases h.2 with h1 | ⟨g, cap, cur, hv, hb, hg, r⟩
  · exact .inl h1
  · exact .inr ⟨g, cap, cur, hv, hb, (x.block g (Array.getElem?_eq_some_iff.1 hg).1).trans hg, r⟩
theorem flat_head (lev : Nat) (L : List Stm) (k : Nat) (h : k < L.length) : ∃ lv, (L[k], lv) ∈ flatL lev L := by
  induction L generalizing k with
  | nil => exact absurd h (by simp)
  | cons x r ih =>
    rw [flatL_cons]
    match k, h with
    | 0, _ => exact ⟨lev, List.mem_append_left _ (by rw [flatS_eq]; exact List.mem_cons_self)⟩
    | k + 1, h =>
      obtain ⟨lv, hm⟩ := ih k (by simpa using h)
      exact ⟨lv, List.mem_append_right _ hm⟩
/-- Every statement has the form of its kind. -/
def Formed : List Stm → Prop := fun L => ∀ lev, ∀ p ∈ flatL lev L, formB p.1 = true
theorem Formed.at {L : List Stm} (h : Formed L) (k : Nat) (hk : k < L.length) : formB L[k] = true := by
  obtain ⟨lv, hm⟩ := flat_head 0 L k hk
  exact h 0 _ hm
theorem flat_sub (lev : Nat) (L : List Stm) (k : Nat) (h : k < L.length) : ∀ p, p ∈ flatL (if L[k].kind = 5 then lev + 1 else lev) L[k].body → p ∈ flatL lev L := by
  induction L generalizing k with
  | nil => exact absurd h (by simp)
  | cons x r ih =>
    intro p hp
    rw [flatL_cons]
    match k, h with
    | 0, _ => exact List.mem_append_left _ (by rw [flatS_eq]; exact List.mem_cons_of_mem _ hp)
    | k + 1, h => exact List.mem_append_right _ (ih k (by simpa using h) p hp)
mutual
theorem flatS_fst (a b : Nat) : ∀ x : Stm, (flatS a x).map Prod.fst = (flatS b x).map Prod.fst
  | .mk k n r al bd => by rw [flatS, flatS, List.map_cons, List.map_cons, flatL_fst _ (if k = 5 then b + 1 else b) bd]
theorem flatL_fst (a b : Nat) : ∀ L : List Stm, (flatL a L).map Prod.fst = (flatL b L).map Prod.fst
  | [] => by rw [flatL, flatL]
  | x :: r => by rw [flatL, flatL, List.map_append, List.map_append, flatS_fst a b x, flatL_fst a b r]
end
theorem formed_of {L body : List Stm} {lv : Nat} (h : Formed L) (hs : ∀ p, p ∈ flatL (lv + 1) body → p ∈ flatL lv L) : Formed body := fun lev p hp => by
  have h1 : p.1 ∈ (flatL lev body).map Prod.fst := List.mem_map_of_mem hp
  rw [flatL_fst lev (lv + 1) body] at h1
  obtain ⟨p', hp', e⟩ := List.mem_map.1 h1
  rw [← e]; exact h lv p' (hs p' hp')
theorem first_zero : ∀ (l : List (Stm × Nat)), firstE l = 0 → ∀ p ∈ l, stmE p = 0
  | q :: r, h, p, hp => by
    rw [firstE] at h
    by_cases hq : stmE q = 0
    · rw [if_neg (fun h' => h' hq)] at h
      rcases List.mem_cons.1 hp with rfl | hp
      · exact hq
      · exact first_zero r h p hp
    · rw [if_pos hq] at h; exact absurd h hq
theorem formed_valid (nm : ByteArray) (L : List Stm) (h : validE nm L = 0) : Formed L := fun lev p hp => by
  unfold validE at h
  by_cases h1 : nameB nm.data.toList = false
  · rw [if_pos h1] at h; exact absurd h (by decide)
  rw [if_neg h1] at h
  by_cases h2 : 512 < (flatL 0 L).length
  · rw [if_pos h2] at h; exact absurd h (by decide)
  rw [if_neg h2] at h
  have h3 : p.1 ∈ (flatL lev L).map Prod.fst := List.mem_map_of_mem hp
  rw [flatL_fst lev 0 L] at h3
  obtain ⟨p', hp', e⟩ := List.mem_map.1 h3
  have h4 := first_zero _ h p' hp'
  unfold stmE at h4
  rw [← e]
  cases hf : formB p'.1
  · rw [if_pos hf] at h4; exact absurd h4 (by decide)
  · rfl
theorem tree_cells (w : World) (nm : ByteArray) (dir : Bool) (b : Option Addr) (N cap : Nat) : ∀ w1, Ext (w.alloc (.cells #[.string nm, .bool dir, .slice b N cap] 24)) w1 → w1.cell? ⟨w.heap.size, 0, none⟩ = some (.string nm) ∧ w1.cell? ⟨w.heap.size, 1, none⟩ = some (.bool dir) ∧ w1.cell? ⟨w.heap.size, 2, none⟩ = some (.slice b N cap) := fun w1 x => by
  have hb := heap_alloc_new w (.cells #[.string nm, .bool dir, .slice b N cap] 24)
  refine ⟨x.cell ?_, x.cell ?_, x.cell ?_⟩ <;> rw [Lib.cell_of_heap hb] <;> rfl
end Go.Proofs.YtmallladeidkpaaGreatDoor.Tr
