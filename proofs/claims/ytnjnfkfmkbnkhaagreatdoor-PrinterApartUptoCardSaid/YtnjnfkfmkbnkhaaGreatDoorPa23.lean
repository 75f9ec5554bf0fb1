/- Packed texts: TreRun, TrePreR, BuildStr -/
import Derived.Test.YtnjnfkfmkbnkhaaGreatDoorPa12
import Derived.Test.YtnjnfkfmkbnkhaaGreatDoorPa13
import Derived.Test.YtnjnfkfmkbnkhaaGreatDoorPa09
import Derived.Test.YtnjnfkfmkbnkhaaGreatDoorPa02
import Derived.Lib.FrozenHead
set_option linter.unusedVariables false
set_option linter.unusedSimpArgs false
/- A world that differs in one block alone; a run over a list of statements that stops at the first that says so. -/
namespace Go.Proofs.YtnjnfkfmkbnkhaaGreatDoor.Tr
open Go.RowKit Go.Lib Fx Lx

/-- Nothing of what was there has turned but block c. -/
structure But (c : Nat) (w w' : World) : Prop where
  os : w'.os = w.os
  tape : w'.tape = w.tape
  output : w'.output = w.output
  size : w.heap.size ≤ w'.heap.size
  block : ∀ k, k < w.heap.size → k ≠ c → w'.heap[k]? = w.heap[k]?
theorem But.refl (c : Nat) (w : World) : But c w w := ⟨rfl, rfl, rfl, Nat.le_refl _, fun _ _ _ => rfl⟩
theorem But.trans {c : Nat} {a b d : World} (h : But c a b) (k : But c b d) : But c a d :=
  ⟨k.os.trans h.os, k.tape.trans h.tape, k.output.trans h.output, Nat.le_trans h.size k.size, fun i hi hc => (k.block i (Nat.lt_of_lt_of_le hi h.size) hc).trans (h.block i hi hc)⟩
theorem But.of {c : Nat} {a b : World} (h : Ext a b) : But c a b := ⟨h.os, h.tape, h.output, h.size, fun k hk _ => h.block k hk⟩
theorem But.ext {c : Nat} {a b d : World} (h : But c a b) (k : Ext b d) : But c a d := h.trans (But.of k)
theorem But.alloc {c : Nat} {a b : World} (h : But c a b) (o : Obj) : But c a (b.alloc o) := h.ext ((Ext.refl _).alloc o)
theorem But.setCell {c : Nat} {a b : World} (h : But c a b) (p : Addr) (hp : p.block = c) (u : Value) : But c a (b.setCell p u) :=
  ⟨h.os, h.tape, h.output, by have := h.size; simpa [World.setCell] using this, fun k hk hc => (Below.heap_setCell _ _ _ _ (by omega)).trans (h.block k hk hc)⟩
theorem But.cell {c : Nat} {a b : World} (h : But c a b) {p : Addr} {v : Value} (hc : p.block ≠ c) (hv : a.cell? p = some v) : b.cell? p = some v := by
  have hb : p.block < a.heap.size := World.block_lt_of_cell? _ _ hv
  rw [World.cell?_of_block (w := a) (h.block _ hb hc)]; exact hv
theorem But.frozen {c : Nat} {a b : World} (h : But c a b) {p : Addr} (hc : p.block ≠ c) (hb : p.block < a.heap.size) : b.frozen? p = a.frozen? p :=
  World.frozen?_of_block (w := a) (h.block _ hb hc)
theorem But.below {c : Nat} {a b : World} (h : But c a b) {n : Nat} (hn : n ≤ c) (hs : n ≤ a.heap.size) : Below n a b :=
  ⟨h.os, h.tape, h.output, h.size, fun k hk => h.block k (by omega) (by omega)⟩
/-- Behind a call that began at w with the block c new. -/
theorem But.fresh {w a b : World} {c : Nat} (x : Ext w a) (h : But c a b) (hc : w.heap.size ≤ c) : Ext w b :=
  Below.trans x (h.below hc x.size)
theorem setOne {w : World} {B : Nat} {cs : Array Value} {T : TypeId} (h : w.heap[B]? = some (.cells cs T (0, 0))) (i : Nat) (v : Value) :
    (w.setCell ⟨B, i, none⟩ v).heap[B]? = some (.cells (cs.setIfInBounds i v) T (0, 0)) := by
  unfold World.setCell
  simp [Array.getElem?_modify, h]
/-- The run: the accumulator, and whether it went to the end. -/
def runA (step : Int → Stm × Nat → Int × Bool) (acc : Int) : List (Stm × Nat) → Int × Bool
  | [] => (acc, true)
  | p :: r => if (step acc p).2 = true then runA step (step acc p).1 r else ((step acc p).1, false)
theorem runA_app (step : Int → Stm × Nat → Int × Bool) : ∀ (acc : Int) (l m : List (Stm × Nat)), runA step acc (l ++ m) = if (runA step acc l).2 = true then runA step (runA step acc l).1 m else runA step acc l
  | acc, [], m => by simp [runA]
  | acc, p :: r, m => by
    rw [List.cons_append, runA, runA]
    by_cases h : (step acc p).2 = true
    · rw [if_pos h, if_pos h, runA_app step _ r m]
    · rw [if_neg h, if_neg h, if_neg (by simp)]
def stepC (acc : Int) (_ : Stm × Nat) : Int × Bool := (wrap64 (acc + 1), true)
def stepV (_ : Int) (p : Stm × Nat) : Int × Bool := (stmE p, decide (stmE p = 0))
theorem runC_len : ∀ (l : List (Stm × Nat)) (acc : Int), 0 ≤ acc → acc + l.length < 9223372036854775808 → runA stepC acc l = (acc + l.length, true)
  | [], acc, _, _ => by simp [runA]
  | p :: r, acc, h, h2 => by
    rw [List.length_cons] at h2 ⊢
    have e : (stepC acc p) = (acc + 1, true) := by unfold stepC wrap64; rw [show (acc + 1 + 9223372036854775808) % 18446744073709551616 - 9223372036854775808 = acc + 1 by omega]
    rw [runA, e, if_pos rfl, runC_len r (acc + 1) (by omega) (by push_cast at h2 ⊢; omega)]
    push_cast
    rw [show acc + 1 + (r.length : Int) = acc + ((r.length : Int) + 1) by omega]
theorem runV_first : ∀ (l : List (Stm × Nat)), (runA stepV 0 l).1 = firstE l
  | [] => rfl
  | p :: r => by
    rw [runA, firstE, stepV]
    by_cases h : stmE p = 0
    · rw [if_pos (decide_eq_true h), if_neg (fun h' => h' h), h]
      exact runV_first r
    · rw [if_neg (by simpa using h), if_pos h]
end Go.Proofs.YtnjnfkfmkbnkhaaGreatDoor.Tr

/- What the document's Preorder returns. -/
namespace Go.Proofs.YtnjnfkfmkbnkhaaGreatDoor.Tr
open Go.RowKit Go.Sort Go.Lib Go.Shelf Fx Lx

/-- The six cells of a flat statement. -/
def flC (p : Stm × Nat) (r a b : Option Addr) (rc ac bc : Nat) : List Value := [.int .i64 p.1.kind, .string p.1.name, .slice r p.1.refs.length rc, .slice a p.1.attrs.length ac, .slice b p.1.body.length bc, .int .i64 p.2]
/-- What they lead to. -/
structure FlatAt (n : Nat) (w : World) (r a b : Option Addr) (rc ac bc : Nat) (p : Stm × Nat) : Prop where
  hr : TwoAt n w r p.1.refs
  ha : TwoAt n w a p.1.attrs
  hb : StmsAt n w b p.1.body
  lr : p.1.refs.length ≤ rc
  la : p.1.attrs.length ≤ ac
  mr : rc ≤ maxLen
  ma : ac ≤ maxLen
  mb : p.1.body.length ≤ maxLen
theorem FlatAt.below {n : Nat} {w w' : World} {r a b : Option Addr} {rc ac bc : Nat} {p : Stm × Nat} (h : FlatAt n w r a b rc ac bc p) (x : Below n w w') : FlatAt n w' r a b rc ac bc p :=
  ⟨h.hr.below x, h.ha.below x, StmsAt.below x _ h.hb, h.lr, h.la, h.mr, h.ma, h.mb⟩
def Sixes (n : Nat) (w : World) : List Value → List (Stm × Nat) → Prop
  | C, [] => C = []
  | C, p :: F => ∃ r a b rc ac bc C', C = flC p r a b rc ac bc ++ C' ∧ FlatAt n w r a b rc ac bc p ∧ Sixes n w C' F
theorem Sixes.below {n : Nat} {w w' : World} (x : Below n w w') : ∀ {F : List (Stm × Nat)} {C : List Value}, Sixes n w C F → Sixes n w' C F
  | [], _, h => h
  | _ :: _, _, ⟨r, a, b, rc, ac, bc, C', e, h, t⟩ => ⟨r, a, b, rc, ac, bc, C', e, h.below x, Sixes.below x t⟩
theorem Sixes.app {n : Nat} {w : World} : ∀ {F G : List (Stm × Nat)} {C D : List Value}, Sixes n w C F → Sixes n w D G → Sixes n w (C ++ D) (F ++ G)
  | [], _, C, D, h, k => by have : C = [] := h; subst this; exact k
  | _ :: _, _, _, D, ⟨r, a, b, rc, ac, bc, C', e, h, t⟩, k => ⟨r, a, b, rc, ac, bc, C' ++ D, by rw [e, List.append_assoc], h, Sixes.app t k⟩
theorem Sixes.len {n : Nat} {w : World} : ∀ {F : List (Stm × Nat)} {C : List Value}, Sixes n w C F → C.length = F.length * 6
  | [], C, h => by have : C = [] := h; subst this; rfl
  | _ :: F, _, ⟨r, a, b, rc, ac, bc, C', e, h, t⟩ => by
    have := Sixes.len t
    rw [e, List.length_append, this, List.length_cons]
    show 6 + F.length * 6 = _
    omega
theorem Sixes.one {n : Nat} {w : World} : ∀ {F : List (Stm × Nat)} {C : List Value}, Sixes n w C F → ∀ u ∈ C, u.oneCell' = true
  | [], C, h, u, hu => by have : C = [] := h; subst this; cases hu
  | _ :: F, _, ⟨r, a, b, rc, ac, bc, C', e, h, t⟩, u, hu => by
    rw [e, List.mem_append] at hu
    rcases hu with hu | hu
    · simp only [flC, List.mem_cons, List.not_mem_nil, or_false] at hu
      rcases hu with rfl | rfl | rfl | rfl | rfl | rfl <;> rfl
    · exact Sixes.one t u hu
/-- The cells of the statement at a place. -/
theorem Sixes.at {n : Nat} {w : World} : ∀ {F : List (Stm × Nat)} {C : List Value}, Sixes n w C F → ∀ k (hk : k < F.length), ∃ r a b rc ac bc, FlatAt n w r a b rc ac bc F[k] ∧ ∀ j u, (flC F[k] r a b rc ac bc)[j]? = some u → C[k * 6 + j]? = some u
  | [], _, _, k, hk => absurd hk (by simp)
  | p :: F, _, ⟨r, a, b, rc, ac, bc, C', e, h, t⟩, 0, _ => by
    refine ⟨r, a, b, rc, ac, bc, h, fun j u hj => ?_⟩
    have hj6 : j < (flC p r a b rc ac bc).length := (List.getElem?_eq_some_iff.1 hj).1
    rw [e, Nat.zero_mul, Nat.zero_add, List.getElem?_append_left hj6]
    exact hj
  | p :: F, _, ⟨r, a, b, rc, ac, bc, C', e, h, t⟩, k + 1, hk => by
    obtain ⟨r', a', b', rc', ac', bc', h', q⟩ := Sixes.at t k (by simpa using hk)
    refine ⟨r', a', b', rc', ac', bc', h', fun j u hj => ?_⟩
    have l6 : (flC p r a b rc ac bc).length = 6 := rfl
    rw [e, List.getElem?_append_right (by rw [l6]; omega), l6, show (k + 1) * 6 + j - 6 = k * 6 + j by omega]
    exact q j u hj
theorem info_flat : (Tryz.prog.info? 49).map (fun i => (i.zero.map (fun z => z.cells.size), i.size, i.bytes)) = some (some 6, 6, 104) := by kernel_rfl
/-- What Preorder hands back. -/
def PreRes (n B : Nat) (F : List (Stm × Nat)) (e : Ending) (w : World) : Prop :=
  ∃ g c C, e = .returned (.slice (some ⟨g, 0, none⟩) F.length c) ∧ w.ownsRow B 49 6 (.slice (some ⟨g, 0, none⟩) F.length c) F.length C ∧ Sixes n w C F
theorem flat_take (lev : Nat) (L : List Stm) (k : Nat) : (flatL lev (L.take k)).length ≤ sizeL L := by
  have h1 := flatL_len lev L
  have h2 : flatL lev L = flatL lev (L.take k) ++ flatL lev (L.drop k) := by rw [← flatL_app, List.take_append_drop]
  rw [h2, List.length_append] at h1
  omega
theorem cell_new6 (w : World) (l : List Value) (T : TypeId) (j : Nat) (u : Value) (h : l[j]? = some u) :
    (w.alloc (.cells l.toArray T)).cell? ((⟨w.heap.size, 0, none⟩ : Addr).add j) = some u := by
  have hb := heap_alloc_new w (.cells l.toArray T)
  have e : (⟨w.heap.size, 0, none⟩ : Addr).add j = ⟨w.heap.size, j, none⟩ := by simp [Addr.add]; exact fun h => h.symm
  rw [e, Lib.cell_of_heap hb]
  simpa using h
theorem own_some {w : World} {B n : Nat} {e : TypeId} {v : Value} {size : Nat} {xs : List Value} (h : w.ownsRow B e size v n xs) (hv : v ≠ .slice none 0 0) : ∃ g cap, v = .slice (some ⟨g, 0, none⟩) n cap := by
  rcases h.2 with ⟨h1, _⟩ | ⟨g, cap, cur, hv', _⟩
  · exact absurd h1 hv
  · exact ⟨g, cap, hv'⟩
set_option maxHeartbeats 4000000 in
set_option maxRecDepth 100000 in
theorem preR_any : ∀ (M : Nat) (L : List Stm) (b : Option Addr) (cap lev n : Nat) (w : World), sizeL L ≤ M → M ≤ 1048576 → lev + M ≤ 4611686018427387904 → StmsAt n w b L → n ≤ w.heap.size →
    Calls Tryz.prog 20 #[.slice b L.length cap, .int .i64 lev] w fun e w' => PreRes n w.heap.size (flatL lev L) e w' ∧ Ext w w' := by
  intro M
  induction M using Nat.strongRecOn with
  | _ M ih =>
  intro L b cap lev n w hM hmax hlev h hn
  obtain ⟨N, hN⟩ : ∃ N, N = L.length := ⟨_, rfl⟩
  have hNM : N ≤ 1048576 := by have := sizeL_len L; omega
  have hl1 : lev ≤ 4611686018427387904 := by omega
  have ho0 : (w.alloc (.cells #[] 49)).ownsRow w.heap.size 49 6 (.slice (some ⟨w.heap.size, 0, none⟩) 0 0) 0 [] := World.ownsRow_made w #[] 0 (Nat.le_refl _) (by unfold maxLen; omega) rfl
  have hx0 : Ext w (w.alloc (.cells #[] 49)) := (Ext.refl _).alloc _
  rw [← hN]
  obtain ⟨i0, hi, hz0⟩ : ∃ i, Tryz.prog.info? 49 = some i ∧ (i.zero.map (fun z => z.cells.size), i.size, i.bytes) = (some 6, 6, 104) := by
    have := info_flat
    cases hq : Tryz.prog.info? 49 with
    | none => rw [hq] at this; cases this
    | some i => rw [hq] at this; exact ⟨i, rfl, Option.some.inj this⟩
  obtain ⟨z0, hzz, hz3⟩ : ∃ z, i0.zero = some z ∧ z.cells.size = 6 := by
    have := (Prod.mk.inj hz0).1
    cases hq : i0.zero with
    | none => rw [hq] at this; cases this
    | some z => rw [hq] at this; exact ⟨z, rfl, Option.some.inj this⟩
  have hz1 : i0.size = 6 := (Prod.mk.inj (Prod.mk.inj hz0).2).1
  have hz2 : i0.bytes = 104 := (Prod.mk.inj (Prod.mk.inj hz0).2).2
  have HN := Lib.hid hN; have HI := Lib.hid h; have HM := Lib.hid hM; have HIH := Lib.hid ih; have HMX := Lib.hid hmax; have HLV := Lib.hid hlev; have HNW := Lib.hid hn
  have HO := Lib.hid ho0
  clear hN h hM ih hmax hlev hn ho0 hz0
  go_enter Tryz.func20, Tryz.ntmps20
  go_wp2
  go_loopw [5, 6] (fun out i' wr => ∃ (k : Nat) (O : List (Stm × Nat)) (go oc : Nat) (C : List Value), k ≤ N ∧ i' = .int .i64 k ∧ out = .slice (some ⟨go, 0, none⟩) O.length oc ∧ wr.ownsRow w.heap.size 49 6 (.slice (some ⟨go, 0, none⟩) O.length oc) O.length C ∧ Hid (Sixes n wr C O) ∧ Ext w wr ∧ Hid (O = flatL lev (L.take k))) (fun _ i' _ => N - (RowKit.intOf i').toNat)
  case atStart => exact ⟨0, [], w.heap.size, 0, [], by omega, rfl, rfl, HO.out, Lib.hid rfl, hx0, Lib.hid (by rw [List.take_zero, flatL_nil])⟩
  case round =>
    obtain ⟨k, O, go, oc, C, hk, rfl, rfl, hown, hsx, hx, ho⟩ := hrel
    clear HO hx0
    by_cases hlt : k < N
    · have hkl : k < L.length := by rw [← HN.out]; exact hlt
      have hbn : Below n w wr := Below.mono hx HNW.out
      have hin := StmsAt.below hbn L HI.out
      obtain ⟨g, o, rfl, hg, hst⟩ := StmsAt.at L hin k hkl
      have hsz : sizeS L[k] ≤ M := Nat.le_trans (sizeL_at L k hkl) HM.out
      have hok : O ++ flatS lev L[k] = flatL lev (L.take (k + 1)) := by rw [ho.out, List.take_succ_eq_append_getElem hkl, flatL_snoc]
      have hol : O.length + (flatS lev L[k]).length ≤ 1048576 := by
        rw [← List.length_append, hok]
        exact Nat.le_trans (flat_take lev L (k + 1)) (Nat.le_trans HM.out HMX.out)
      obtain ⟨s, hs⟩ : ∃ s, s = L[k] := ⟨_, rfl⟩
      rw [← hs] at hst hsz hok hol
      clear hs ho hin hbn
      obtain ⟨kind, nm, rs, al, body⟩ := s
      have hbd := sizeS_body (.mk kind nm rs al body)
      simp only [Stm.body, Stm.name, Stm.refs, Stm.attrs] at hbd
      rw [flatS_mk] at hok hol
      rw [StmAt] at hst
      obtain ⟨r, rc, a, atc, b', bc, c0, c1, c2, c3, c4, hr, ha, hbs, hl1', hl2, hl3, hl4, hl5⟩ := hst
      have hfl : FlatAt n wr r a b' rc atc bc (.mk kind nm rs al body, lev) := ⟨hr, ha, hbs, hl1', hl2, hl3, hl4, hl5⟩
      obtain ⟨F, hF⟩ : ∃ F, F = flatL (if kind = 5 then lev + 1 else lev) body := ⟨_, rfl⟩
      rw [← hF, List.length_cons] at hol
      rw [← hF] at hok
      have hFl : F.length ≤ 1048576 := by omega
      have HOK := Lib.hid hok; have HFL := Lib.hid hfl; have HSX := Lib.hid hsx.out; have HF := Lib.hid hF
      have HBD : Hid (sizeL body < M) := Lib.hid (by omega)
      have HOL := Lib.hid hol
      have HBS := Lib.hid hbs
      have HG := Lib.hid hg
      clear hok hfl hsx hF hbd hsz hr ha hbs hl1' hl2 hl3 hl4 hl5 hol hg
      go_wp2_with (at_builtin; refine wpList_append_lies _ rfl _ _ 43 rfl w.heap.size 49 i0 z0 6 104 Tryz.underlying43 hi hzz hz1 hz2 hz3 (by decide) _ _ _ rfl (hown.alloc _) ⟨wr.heap.size, 0, none⟩ 1 1 (flC (.mk kind nm rs al body, lev) r a b' rc atc bc) rfl rfl ?c1 ?c2 (by decide) ?c3 ?c4 ?c5 _ rfl ?_)
      case c1 => exact fun j u hj => cell_new6 wr (flC (.mk kind nm rs al body, lev) r a b' rc atc bc) 49 j u hj
      case c2 => intro u hu; simp only [flC, List.mem_cons, List.not_mem_nil, or_false] at hu; rcases hu with rfl | rfl | rfl | rfl | rfl | rfl <;> rfl
      case c3 => have := HOL.out; unfold maxLen; omega
      case c4 => have := HOL.out; omega
      case c5 => have h := hx.size; simp; omega
      intro g2 cap2 w5 hown' hgrow hat hlt5
      have hx5 : Ext w w5 := Below.grown (hx.alloc _) hgrow (by have h := hx.size; simp; omega) (fun k hk => (hown.lt k hk).1)
      have hb5 : Below n wr w5 := by
        refine Below.grown ((Below.refl n wr).alloc (by have h := hx.size; have := HNW.out; omega) _) hgrow (by have h := hx.size; have := HNW.out; simp; omega) (fun k hk => Nat.le_trans HNW.out (hown.lt k hk).1)
      have d0 := (hb5.cell (p := ⟨g, o + k * 5, none⟩) HG.out).trans c0
      have d4 := (hb5.cell (p := ⟨g, o + k * 5 + 4, none⟩) HG.out).trans c4
      have HS5 := Lib.hid (Sixes.app (HSX.out.below hb5) (show Sixes n w5 (flC (.mk kind nm rs al body, lev) r a b' rc atc bc ++ []) [(.mk kind nm rs al body, lev)] from ⟨r, a, b', rc, atc, bc, [], rfl, HFL.out.below hb5, rfl⟩))
      rw [List.append_nil] at HS5
      have hrec : Calls Tryz.prog 20 #[.slice b' body.length bc, .int .i64 (if kind = 5 then (lev : Int) + 1 else lev)] w5 fun e w' => PreRes n w5.heap.size F e w' ∧ Ext w5 w' := by
        have hcast : (if kind = 5 then (lev : Int) + 1 else lev) = ((if kind = 5 then lev + 1 else lev : Nat) : Int) := by split <;> simp
        rw [hcast, HF.out]
        exact HIH.out (sizeL body) HBD.out body b' bc _ n w5 (Nat.le_refl _) (by have := HMX.out; have := HBD.out; omega) (by have := HLV.out; have := HBD.out; split <;> omega) (StmsAt.below hb5 body HBS.out) (by have h := hx5.size; have := HNW.out; omega)
      have HREC := Lib.hid hrec
      have HOW := Lib.hid hown'
      clear hrec hown' hgrow hat hown hb5 c0 c1 c2 c3 c4 HSX HFL
      generalize rs.length = R at *
      generalize al.length = A at *
      generalize body.length = B at *
      by_cases h5 : kind = 5
      · subst h5
        rw [if_pos rfl] at HREC
        go_wp2_with (first
          | (go_at_call 20; refine HREC.out.mono ?_; rintro e w6 ⟨⟨g6, c6, C6, rfl, hown6, hs6⟩, x6⟩)
          | (at_builtin; refine wpList_append_own _ rfl _ _ 43 rfl w.heap.size 49 i0 z0 6 104 Tryz.underlying43 hi hzz hz1 hz2 hz3 (by decide) _ _ _ rfl (own_ext' HOW.out x6) ⟨g6, 0, none⟩ F.length c6 C6 rfl (hs6.len) (hown6.cells (g := g6) rfl) hs6.one ?c6 ?c7 ?c8 ?_))
        case c6 => have := HOL.out; unfold maxLen; omega
        case c7 => have := HOL.out; omega
        case c8 => have h := (hx5.trans x6).size; omega
        intro v7 w7 hown7 hgrow7 hnil7
        obtain ⟨g7, cap7, rfl⟩ := own_some hown7 (fun e => hnil7 e)
        have hx7 : Ext w w7 := Below.grown (hx5.trans x6) hgrow7 (by have h := (hx5.trans x6).size; omega) (fun k hk => ((own_ext' HOW.out x6).lt k hk).1)
        have hb7 : Below n w6 w7 := Below.grown (Below.refl n w6) hgrow7 (by have h := (hx5.trans x6).size; have := HNW.out; omega) (fun k hk => Nat.le_trans HNW.out ((own_ext' HOW.out x6).lt k hk).1)
        have hb6 : Below n w5 w6 := Below.mono x6 (by have h := hx5.size; have := HNW.out; omega)
        have HS7 := Lib.hid (Sixes.app ((HS5.out.below hb6).below hb7) (hs6.below hb7))
        have e7 : (O ++ [(Stm.mk 5 nm rs al body, lev)] ++ F) = flatL lev (L.take (k + 1)) := by rw [← HOK.out, List.append_assoc]; rfl
        rw [e7, List.append_assoc C] at HS7
        have l7 : O.length + 1 + F.length = (flatL lev (L.take (k + 1))).length := by rw [← e7]; simp; omega
        rw [l7] at hown7
        clear hgrow7 hnil7 hown6 hs6 e7
        go_wp2
        go_roundw
        case rel => exact ⟨k + 1, flatL lev (L.take (k + 1)), g7, cap7, _, by omega, by go_num, by rw [l7], hown7, HS7, hx7, Lib.hid rfl⟩
        case measure => simp [RowKit.intOf]; omega
      · obtain ⟨f5, f5'⟩ := ne_facts h5
        rw [if_neg h5] at HREC
        clear h5
        go_wp2_with (first
          | (go_at_call 20; refine HREC.out.mono ?_; rintro e w6 ⟨⟨g6, c6, C6, rfl, hown6, hs6⟩, x6⟩)
          | (at_builtin; refine wpList_append_own _ rfl _ _ 43 rfl w.heap.size 49 i0 z0 6 104 Tryz.underlying43 hi hzz hz1 hz2 hz3 (by decide) _ _ _ rfl (own_ext' HOW.out x6) ⟨g6, 0, none⟩ F.length c6 C6 rfl (hs6.len) (hown6.cells (g := g6) rfl) hs6.one ?c6 ?c7 ?c8 ?_))
        case c6 => have := HOL.out; unfold maxLen; omega
        case c7 => have := HOL.out; omega
        case c8 => have h := (hx5.trans x6).size; omega
        intro v7 w7 hown7 hgrow7 hnil7
        obtain ⟨g7, cap7, rfl⟩ := own_some hown7 (fun e => hnil7 e)
        have hx7 : Ext w w7 := Below.grown (hx5.trans x6) hgrow7 (by have h := (hx5.trans x6).size; omega) (fun k hk => ((own_ext' HOW.out x6).lt k hk).1)
        have hb7 : Below n w6 w7 := Below.grown (Below.refl n w6) hgrow7 (by have h := (hx5.trans x6).size; have := HNW.out; omega) (fun k hk => Nat.le_trans HNW.out ((own_ext' HOW.out x6).lt k hk).1)
        have hb6 : Below n w5 w6 := Below.mono x6 (by have h := hx5.size; have := HNW.out; omega)
        have HS7 := Lib.hid (Sixes.app ((HS5.out.below hb6).below hb7) (hs6.below hb7))
        have e7 : (O ++ [(Stm.mk kind nm rs al body, lev)] ++ F) = flatL lev (L.take (k + 1)) := by rw [← HOK.out, List.append_assoc]; rfl
        rw [e7, List.append_assoc C] at HS7
        have l7 : O.length + 1 + F.length = (flatL lev (L.take (k + 1))).length := by rw [← e7]; simp; omega
        rw [l7] at hown7
        clear hgrow7 hnil7 hown6 hs6 e7
        go_wp2
        go_roundw
        case rel => exact ⟨k + 1, flatL lev (L.take (k + 1)), g7, cap7, _, by omega, by go_num, by rw [l7], hown7, HS7, hx7, Lib.hid rfl⟩
        case measure => simp [RowKit.intOf]; omega
    · have hf : O = flatL lev L := by rw [ho.out, List.take_of_length_le (by rw [← HN.out]; omega)]
      have HOF := Lib.hid hf
      clear ho hf
      go_wp2
      go_ret
      rw [← HOF.out]
      exact ⟨⟨go, oc, C, rfl, hown, hsx.out⟩, hx⟩
end Go.Proofs.YtnjnfkfmkbnkhaaGreatDoor.Tr

/- (*strings.Builder).WriteString as it lies in this translation; a builder over new memory. -/
namespace Go.Proofs.YtnjnfkfmkbnkhaaGreatDoor.Qo
open Go.RowKit Go.Shelf Fx Lx

set_option maxHeartbeats 2000000 in
set_option maxRecDepth 100000 in
theorem writeString_any (B b : Nat) (bs : List Value) (s : ByteArray) (w : World) (h : Lib.IsBuilderF 56 5 B b bs w) (hlen : bs.length + s.size ≤ 140737488355328) (hBw : B ≤ w.heap.size) :
    Calls Tryz.prog 68 #[.pointer (some ⟨b, 0, none⟩), .string s] w fun e w' => e = .returned (.tuple #[.int .i64 s.size, .nilIface]) ∧ (Lib.IsBuilderF 56 5 B b (bs ++ Lib.strCells s) w' ∧ Below B w w' ∧ Lib.OthersKept 5 (some b) w w') := by
  obtain ⟨i0, hi, hz0, hz1, hz2⟩ := info_parts Tryz.Builder_Extra_169.infoByte
  go_enter Tryz.func68, Tryz.ntmps68
  go_wp2_with fail
  refine (copyCheck_any B b bs _ h).mono ?_
  rintro e w1 ⟨rfl, h1, hb1, hk1⟩
  obtain ⟨hB, v, hbk, hown, hne⟩ := h1
  have c0 : w1.cell? ⟨b, 0, none⟩ = some (.pointer (some ⟨b, 0, none⟩)) := by rw [Lib.cell_of_heap hbk]; rfl
  have c1 : w1.cell? ⟨b, 1, none⟩ = some v := by rw [Lib.cell_of_heap hbk]; rfl
  go_wp2_with (at_builtin; refine Lib.wpList_append_own_stringF _ rfl _ _ 54 9 rfl B 5 i0 Tryz.underlying54 Tryz.underlying9 hi hz0 hz1 hz2 _ _ _ rfl hown s rfl ?c3 ?c4 ?c5 ?_)
  case c3 => unfold maxLen; omega
  case c4 => omega
  case c5 => have := hb1.size; omega
  intro v' w2 hown' hgrow _
  have hlt : b < w1.heap.size := by
    rcases Nat.lt_or_ge b w1.heap.size with h' | h'
    · exact h'
    · simp [Array.getElem?_eq_none h'] at hbk
  have hb2 : w2.heap[b]? = some (.cells #[.pointer (some ⟨b, 0, none⟩), v] 56 (0, 0)) := by
    rw [hgrow.block b hlt (fun e => hne e.symm)]
    exact hbk
  have d0 : w2.cell? ⟨b, 0, none⟩ = some (.pointer (some ⟨b, 0, none⟩)) := by rw [Lib.cell_of_heap hb2]; rfl
  have d1 : w2.cell? ⟨b, 1, none⟩ = some v := by rw [Lib.cell_of_heap hb2]; rfl
  have f1 : w2.frozen? ⟨b, 1, none⟩ = false := Lib.frozen_of_heap hb2 1
  obtain ⟨ao, n', cap, rfl⟩ : ∃ ao n' cap, v' = .slice ao n' cap := by
    rcases hown'.2 with ⟨hv, _⟩ | ⟨g, cap, cur, fz, hv, _⟩
    · exact ⟨_, _, _, hv⟩
    · exact ⟨_, _, _, hv⟩
  go_wp2
  go_ret2
  refine ⟨rfl, .inr ?_, ?_, (hk1.grown hgrow (Lib.ownsRowF_kind hown)).setCell ⟨b, 1, none⟩ rfl _⟩
  · exact Lib.BuilderAtF.put (T := 56) (e := 5) hB hb2 (bs' := bs ++ Lib.strCells s) (by simpa [Lib.strCells_length] using hown') Tryz.Builder_Extra_169.neB5
  · exact (hb1.grown hgrow (by have := hb1.size; omega) (fun k hk => (hown.lt k hk).1)).setCell (p := ⟨b, 1, none⟩) hB _

theorem bytes_str (s : ByteArray) : Lib.strCells s = Lib.byteCells s.data.toList := by
  unfold Lib.strCells Lib.byteCells; simp
theorem builder_ext {T e : TypeId} {B b : Nat} {bs : List Value} {w w' : World} (h : Lib.IsBuilderF T e B b bs w) (x : Ext w w') : Lib.IsBuilderF T e B b bs w' := by
  have key : ∀ p, Lib.BuilderAtF T e B b p bs w → Lib.BuilderAtF T e B b p bs w' := by
    intro p hp
    have hlt := hp.lt
    obtain ⟨hB, v, hbk, hown, hne⟩ := hp
    refine ⟨hB, v, (x.block b hlt).trans hbk, ?_, hne⟩
    refine ⟨hown.1, ?_⟩
    rcases hown.2 with h1 | ⟨g, cap, cur, fz, hv, hb, hg, r⟩
    · exact .inl h1
    · exact .inr ⟨g, cap, cur, fz, hv, hb, (x.block g (Array.getElem?_eq_some_iff.1 hg).1).trans hg, r⟩
  exact h.elim (fun h => .inl (key _ h)) (fun h => .inr (key _ h))
end Go.Proofs.YtnjnfkfmkbnkhaaGreatDoor.Qo
