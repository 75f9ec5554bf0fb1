/- Packed texts: PrtFinA, FixPost, PrtTurn, PrtOpenT -/
import Derived.Test.YtaipcpdncmnelaaPu12
import Derived.Test.YtaipcpdncmnelaaPu21
import Derived.Test.YtaipcpdncmnelaaPu01
import Derived.ProofKit
import Derived.Test.YtaipcpdncmnelaaPu13
import Derived.Test.YtaipcpdncmnelaaPu15
import Derived.Test.YtaipcpdncmnelaaPu16
set_option linter.unusedVariables false
set_option linter.unusedSimpArgs false
/- The laws of Components, Cuts and Blocks. -/
namespace Go.Proofs.Ytaipcpdncmnelaa.Pt
open Go.RowKit Go.Sort Go.Lib Fx Tp

theorem comps_card (g : Value) (w : World) (hg : DigArg w g) : Calls Try.prog 3 #[g] w fun e w' => e = .returned (.bool true) ∧ Ext w w' := comps_walk vis g w hg
theorem cuts_card (g : Value) (w : World) (hg : DigArg w g) : Calls Try.prog 4 #[g] w fun e w' => e = .returned (.bool true) ∧ Ext w w' := cuts_walk vis g w hg
theorem blocks_card (g : Value) (w : World) (hg : DigArg w g) : Calls Try.prog 5 #[g] w fun e w' => e = .returned (.bool true) ∧ Ext w w' := blocks_walk vis g w hg
end Go.Proofs.Ytaipcpdncmnelaa.Pt

/- From a walk that leaves all old memory as it was to what a row asks behind the call. -/
namespace Go.Proofs.Ytaipcpdncmnelaa.Fx
open Go.ChangeShapes Go.WideShapes Go.ChangeAt Go.RowKit
section
variable {H : Type} {enc : TypeId × Value → H} {P : Program}
theorem post_ext {f : Func} {s : ChangeSpec} {apart fresh handsOn again : Bool} {W W' : World} {args : Array Value} {v : Value} {ds gs : List (DataW H)} {places pa pv : List MemPlace}
    (hW : DataW.Whole enc P f.params.toList s.vars apart W args.toList ds gs places)
    (results : ∀ (b : Nat) (sp : Nat → Bool) (hd : Bool), DataW.TrodAll enc P W' b sp hd f.resultTypes.toList (v.resultList f.resultTypes.size) (s.fn H (ds ++ gs)).results [])
    (arguments : ∀ sp : Nat → Bool, (∀ x ∈ places, sp x.block = true) → DataW.TrodAll enc P W' 0 sp true f.params.toList args.toList (s.fn H (ds ++ gs)).args pa)
    (variables : ∀ sp : Nat → Bool, (∀ x ∈ places, sp x.block = true) → DataW.TrodVars enc P W' sp s.vars (s.fn H (ds ++ gs)).vars pv)
    (split : places = pa ++ pv) (ext : Ext W W')
    (ok : ∀ (j : Nat) (t : TypeId) (r : Value), f.resultTypes[j]? = some t → (v.resultList f.resultTypes.size)[j]? = some r → Value.okWide P W' .any 0 t r) :
    s.post enc P f apart fresh handsOn again W args v W' := by
  subst split
  have low : ∀ x ∈ pa ++ pv, x.block < W.heap.size := fun x hx => hW.lt x hx
  have mark : ∀ x ∈ pa ++ pv, (fun b => decide (b < W.heap.size)) x.block = true := fun x hx => decide_eq_true (low x hx)
  have whole := hW
  obtain ⟨_, _, _, _, _, cold, once⟩ := hW
  refine ⟨ds, gs, pa ++ pv, [], pa, pv, whole, results _ _ _, arguments _ mark, variables _ mark, World.keptBut_mono (fun x hx => ⟨hx, by simpa using hx⟩) (Below.frame ext (· ∈ pa ++ pv)), fun _ => ⟨ok, _, _, [] ++ pa ++ pv, ⟨[] ++ pa, pv, trodAll_append (arguments _ fun _ _ => rfl) (results _ _ _), variables _ fun _ _ => rfl, rfl, fun b off hb => ?_, fun ha => ?_⟩, fun x hx _ => ?_⟩⟩
  · have at' : MemPlace.cell b off ∈ pa ++ pv := by simpa using hb
    rw [Below.frozen ext (low _ at')]
    exact cold b off at'
  · have := once ha; simpa using this
  · simpa using hx
end
end Go.Proofs.Ytaipcpdncmnelaa.Fx

/- Arcs that are turned change nothing: plain. -/
namespace Go.Proofs.Ytaipcpdncmnelaa.Pt
open Tp

structure Turn (A B : Arcs) : Prop where
  len : B.length = A.length
  arc : ∀ i, arcN B i = arcN A i ∨ arcN B i = ((arcN A i).2, (arcN A i).1)
variable {N : Nat} {A B : Arcs}
theorem Turn.touch (h : Turn A B) (i v : Nat) : touch (arcN B i) v = touch (arcN A i) v := by
  rcases h.arc i with e | e
  · rw [e]
  · rw [e]
    unfold Pt.touch
    dsimp only
    rw [Bool.or_comm, show ((arcN A i).2 != (arcN A i).1) = ((arcN A i).1 != (arcN A i).2) from by
      rw [Bool.eq_iff_iff]; simp [bne_iff_ne]; exact ⟨fun a b => a b.symm, fun a b => a b.symm⟩]
theorem Turn.inc (h : Turn A B) : incT B = incT A := by
  funext v
  unfold incT incK
  rw [h.len]
  exact List.filter_congr (fun i _ => h.touch i v)
theorem Turn.oth (h : Turn A B) : oth B = oth A := by
  funext e v
  unfold Pt.oth
  rcases h.arc e with k | k
  · rw [k]
  · rw [k]; dsimp only; omega
theorem Turn.eqv (h : Turn A B) (i : Nat) : (((arcN B i).1 : Int) == ((arcN B i).2 : Int)) = (((arcN A i).1 : Int) == ((arcN A i).2 : Int)) := by
  rcases h.arc i with k | k
  · rw [k]
  · rw [k]; rw [Bool.eq_iff_iff]; simp only [beq_iff_eq]; exact ⟨fun a => a.symm, fun a => a.symm⟩
theorem Turn.eqn (h : Turn A B) (i : Nat) : ((arcN B i).1 == (arcN B i).2) = ((arcN A i).1 == (arcN A i).2) := by
  rcases h.arc i with k | k
  · rw [k]
  · rw [k]; rw [Bool.eq_iff_iff]; simp only [beq_iff_eq]; exact ⟨fun a => a.symm, fun a => a.symm⟩
theorem Turn.ok (h : Turn A B) (ok : Ok N A) : Ok N B := fun p hp => by
  obtain ⟨i, hi, rfl⟩ := List.getElem_of_mem hp
  have e : arcN B i = B[i] := by unfold arcN; rw [List.getD_eq_getElem?_getD, List.getElem?_eq_getElem hi]; rfl
  have := arcN_ok ok (e := i) (by rw [← h.len]; exact hi)
  rw [← e]
  rcases h.arc i with k | k <;> rw [k]
  · exact this
  · exact ⟨this.2, this.1⟩
/-! ### components -/
theorem Turn.seeC (h : Turn A B) : seeC B = seeC A := by funext x s e; unfold Pt.seeC; rw [h.oth]
theorem Turn.expT (h : Turn A B) : expT B = expT A := by funext s x; unfold Pt.expT; rw [h.inc, h.seeC]
theorem Turn.bfsT (h : Turn A B) : ∀ f i s, bfsT B f i s = bfsT A f i s
  | 0, _, _ => rfl
  | f + 1, i, s => by
    unfold Pt.bfsT
    rw [h.expT, h.bfsT f]
theorem Turn.comp (h : Turn A B) : compP N B = compP N A := by
  unfold compP compK
  have : compStep N B = compStep N A := by funext t v; unfold compStep; simp only [h.bfsT]
  rw [this]
/-! ### blocks -/
theorem Turn.visT (h : Turn A B) : ∀ f v via s, visT B f v via s = visT A f v via s
  | 0, _, _, _ => rfl
  | f + 1, v, via, s => by
    unfold Pt.visT
    rw [h.inc]
    have : stepV (fun w e s => Pt.visT B f w (e : Int) s) B v via = stepV (fun w e s => Pt.visT A f w (e : Int) s) A v via := by
      funext s e
      unfold stepV
      rw [h.oth]
      simp only [h.visT f]
    rw [this]
theorem Turn.loopT (h : Turn A B) : loopT B = loopT A := by
  unfold Pt.loopT Pt.loopK
  rw [h.len]
  congr 1
  exact List.filter_congr (fun i _ => h.eqn i)
theorem Turn.blk (h : Turn A B) : blkT N B = blkT N A := by
  unfold blkT runT st0
  have : goT N B = goT N A := by funext s v; unfold goT; rw [h.visT]
  rw [this, h.loopT]
theorem Turn.blocks (h : Turn A B) : blocksT N B = blocksT N A := by unfold blocksT; rw [h.blk]
theorem Turn.isBr (h : Turn A B) : isBr B = isBr A := by funext C; unfold Pt.isBr; rw [h.eqv]
theorem Turn.bridges (h : Turn A B) : bridgesT N B = bridgesT N A := by unfold bridgesT brK; rw [h.blocks, h.isBr]
theorem Turn.isLp (h : Turn A B) : isLp B = isLp A := by funext C; unfold Pt.isLp; rw [h.eqv]
/-! ### cuts -/
def SEq (s t : List Nat × List Int) : Prop := (∀ x, x ∈ s.1 ↔ x ∈ t.1) ∧ s.2 = t.2
theorem SEq.see {s t : List Nat × List Int} (h : SEq s t) (v : Nat) : SEq (seeV s v) (seeV t v) := by
  unfold seeV
  by_cases hv : v ∈ s.1
  · rw [if_pos hv, if_pos ((h.1 v).1 hv)]; exact h
  · rw [if_neg hv, if_neg (fun k => hv ((h.1 v).2 k))]
    exact ⟨fun x => by simp only [List.mem_append, List.mem_singleton]; rw [h.1 x], by rw [h.2]⟩
theorem seeV_comm (s : List Nat × List Int) (x y : Nat) : SEq (seeV (seeV s x) y) (seeV (seeV s y) x) := by
  by_cases hxy : x = y
  · subst hxy; exact ⟨fun _ => Iff.rfl, rfl⟩
  by_cases hx : x ∈ s.1 <;> by_cases hy : y ∈ s.1
  · simp [seeV, hx, hy, SEq]
  · simp [seeV, hx, hy, SEq]
  · simp [seeV, hx, hy, SEq]
  · have hyx : ¬ y = x := fun e => hxy e.symm
    have e1 : seeV s x = (s.1 ++ [x], s.2.set x (s.2.getD x 0 + 1)) := by unfold seeV; rw [if_neg hx]
    have e2 : seeV s y = (s.1 ++ [y], s.2.set y (s.2.getD y 0 + 1)) := by unfold seeV; rw [if_neg hy]
    rw [e1, e2]
    unfold seeV
    rw [if_neg (by simp [hy, hyx]), if_neg (by simp [hx, hxy])]
    refine ⟨fun z => by simp only [List.mem_append, List.mem_singleton]; rw [or_assoc, or_assoc, or_comm (a := z = x)], ?_⟩
    show (s.2.set x (s.2.getD x 0 + 1)).set y ((s.2.set x (s.2.getD x 0 + 1)).getD y 0 + 1) = (s.2.set y (s.2.getD y 0 + 1)).set x ((s.2.set y (s.2.getD y 0 + 1)).getD x 0 + 1)
    have g1 : (s.2.set x (s.2.getD x 0 + 1)).getD y 0 = s.2.getD y 0 := by rw [getD_set, if_neg (fun z => hxy z.1)]
    have g2 : (s.2.set y (s.2.getD y 0 + 1)).getD x 0 = s.2.getD x 0 := by rw [getD_set, if_neg (fun z => hyx z.1)]
    rw [g1, g2, List.set_comm _ _ (Ne.symm hyx)]
theorem SEq.trans {a b c : List Nat × List Int} (h : SEq a b) (k : SEq b c) : SEq a c := ⟨fun x => (h.1 x).trans (k.1 x), h.2.trans k.2⟩
theorem Turn.edges (h : Turn A B) : ∀ (C : List Nat) {s t : List Nat × List Int}, SEq s t → SEq (C.foldl (edgV B) s) (C.foldl (edgV A) t)
  | [], _, _, k => k
  | e :: C, s, t, k => by
    refine h.edges C ?_
    unfold edgV
    rcases h.arc e with q | q <;> rw [q]
    · exact (k.see _).see _
    · exact ((k.see _).see _).trans (seeV_comm t _ _)
theorem Turn.cuts (h : Turn A B) : cutsT N B = cutsT N A := by
  unfold cutsT cntF
  have : rowC B = rowC A := by
    funext c C
    unfold rowC
    rw [h.isLp]
    split
    · rfl
    · exact (h.edges C (s := ([], c)) (t := ([], c)) ⟨fun _ => Iff.rfl, rfl⟩).2
  rw [h.blocks, this]
end Go.Proofs.Ytaipcpdncmnelaa.Pt

/- An argument that is a slice of Booleans, opened; arcs that are turned, plain. -/
namespace Go.Proofs.Ytaipcpdncmnelaa.Pt
open Go.RowKit Go.Lib Fx Go.ChangeShapes Go.WideShapes Go.Deep Tp

theorem cBool : Try.prog.cellsOf 4 = 1 := by kernel_rfl
def BoolIn (w : World) (a : Option Addr) (L : List Bool) : Prop := ∀ k (h : k < L.length), ∃ g o, a = some ⟨g, o, none⟩ ∧ w.cell? ⟨g, o + k, none⟩ = some (.bool L[k])
theorem BoolIn.ext {w w' : World} {a : Option Addr} {L : List Bool} (h : BoolIn w a L) (x : Ext w w') : BoolIn w' a L := fun k hk => by
  obtain ⟨g, o, ha, h0⟩ := h k hk
  exact ⟨g, o, ha, x.cell h0⟩
theorem add_off1 (g o k j : Nat) : ((⟨g, o, none⟩ : Addr).add (k * 1)).add j = ⟨g, o + k + j, none⟩ := by
  simp only [Addr.add, Nat.mul_one]
  by_cases h1 : k = 0
  · rw [h1]; by_cases h2 : j = 0 <;> simp [h2]
  · by_cases h2 : j = 0 <;> simp [h1, h2]
set_option maxRecDepth 100000 in
theorem open_bools {H : Type} {enc : TypeId × Value → H} {W : World} {base : Nat} {sp : Nat → Bool} {held : Bool} {fuel : Nat} {cs : List Value} {x : DataW H × List MemPlace}
    (h : DataW.trod enc Try.prog W base sp held fuel 33 cs = some x) : ∃ (a : Option Addr) (L : List Bool) (cap : Nat), cs = [.slice a L.length cap] ∧ BoolIn W a L ∧ L.length ≤ maxLen := by
  rcases open_slice Try.underlying33 h with ⟨rfl, _⟩ | ⟨a, len, cap, m, n, D, Pl, rfl, _, hl, hm, hmm, _, hx⟩
  · exact ⟨none, [], 0, rfl, (fun k h => absurd h (Nat.not_lt_zero _)), Nat.zero_le _⟩
  · have hlm : len ≤ m := by rw [hmm]; split <;> omega
    rw [cBool] at hx
    have hone : ∀ i, i < len → ∃ t : Bool, True ∧ ∃ g o, a = ⟨g, o, none⟩ ∧ W.cell? ⟨g, o + i, none⟩ = some (.bool t) := fun i hi => by
      obtain ⟨cs', h1, h2⟩ := hx i (by omega)
      obtain ⟨k, rfl, _⟩ := DataW.trod_bool Try.underlying4 h2
      obtain ⟨_, _, hc⟩ := World.cells?_some h1
      have c0 := hc 0 (by omega)
      obtain ⟨g, o, spot⟩ := a
      have hspot : spot = none := by
        obtain ⟨cs0, q1, q2⟩ := hx 0 (by omega)
        obtain ⟨k0, rfl, _⟩ := DataW.trod_bool Try.underlying4 q2
        obtain ⟨_, _, hc0⟩ := World.cells?_some q1
        have h := World.cell?_spot (show W.cell? _ = some (.bool k0) from hc0 0 (by omega))
        simpa [Addr.add] using h
      subst hspot
      rw [add_off1] at c0
      exact ⟨k, trivial, g, o, rfl, c0⟩
    obtain ⟨F, hF⟩ := choose_lt (α := Bool) hone
    refine ⟨some a, (List.range len).map F, cap, by simp, ?_, by simp; omega⟩
    intro k hk
    have hk' : k < len := by simpa using hk
    obtain ⟨_, g, o, rfl, r⟩ := hF k hk'
    exact ⟨g, o, rfl, by simpa using r⟩
def BoolsArg (w : World) (v : Value) : Prop := ∃ a L cap, v = .slice a (List.length L) cap ∧ BoolIn w a L ∧ L.length ≤ maxLen
set_option maxRecDepth 100000 in
theorem bools_arg {H : Type} {enc : TypeId × Value → H} {W : World} {r : Reach} {b base : Nat} {sp : Nat → Bool} {held : Bool} {v : Value} {d : DataW H} {p : List MemPlace}
    (hv : Value.okWide Try.prog W r b 33 v) (h : DataW.Trod enc Try.prog W base sp held 33 v d p) : BoolsArg W v := by
  obtain ⟨a0, len, cap, rfl⟩ := okWide_slice Try.underlying33 hv
  obtain ⟨fuel, hf⟩ := h
  obtain ⟨a, L, c, hc, r⟩ := open_bools hf
  have e : Value.slice a0 len cap = .slice a L.length c := by simpa [Value.cells] using hc
  exact ⟨a, L, c, e, r⟩
/-! ### arcs that are turned -/
def turn1 (A : Arcs) (T : List Bool) (i : Nat) : Nat × Nat := if T.getD i false = true then ((arcN A i).2, (arcN A i).1) else arcN A i
def turnA (A : Arcs) (T : List Bool) (k : Nat) : Arcs := (List.range k).map (turn1 A T)
theorem turnA_succ (A : Arcs) (T : List Bool) (k : Nat) : turnA A T (k + 1) = turnA A T k ++ [turn1 A T k] := by unfold turnA; rw [List.range_succ, List.map_append]; rfl
theorem turnA_len (A : Arcs) (T : List Bool) (k : Nat) : (turnA A T k).length = k := by simp [turnA]
theorem turnA_at {A : Arcs} {T : List Bool} {k i : Nat} (h : i < k) : arcN (turnA A T k) i = turn1 A T i := by
  unfold arcN turnA
  rw [List.getD_eq_getElem?_getD, List.getElem?_map, List.getElem?_range h]; rfl
theorem turnA_turn (A : Arcs) (T : List Bool) : Turn A (turnA A T A.length) := by
  refine ⟨turnA_len _ _ _, fun i => ?_⟩
  by_cases h : i < A.length
  · rw [turnA_at h]
    unfold turn1
    split
    · exact .inr rfl
    · exact .inl rfl
  · left
    unfold arcN
    rw [List.getD_eq_getElem?_getD, List.getD_eq_getElem?_getD, List.getElem?_eq_none (by rw [turnA_len]; omega), List.getElem?_eq_none (by omega)]
end Go.Proofs.Ytaipcpdncmnelaa.Pt
