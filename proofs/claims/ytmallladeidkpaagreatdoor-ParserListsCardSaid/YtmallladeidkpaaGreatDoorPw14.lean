/- Packed texts: ParPort, ParBlock, ParBlk -/
import Derived.Test.YtmallladeidkpaaGreatDoorPw13
import Derived.Deep.AppendLies
set_option linter.unusedVariables false
set_option linter.unusedSimpArgs false
/- What the parser's options and port return. -/
namespace Go.Proofs.YtmallladeidkpaaGreatDoor.Pa
open Go.RowKit Go.Sort Go.Lib Go.Shelf Fx Lx Tr

theorem kept_but {pb B : Nat} {w w' : World} (x : But pb w w') (h : pb < B) : Kept (B ≤ ·) w w' := fun g hg hl => x.block g hl (by omega)
theorem TwoV.but {pb B B' : Nat} {L : List Two} {u : Value} {w w' : World} (h : TwoV (B ≤ ·) L u w) (x : But pb w w') (hp : pb < B) (hB : B' ≤ B) : TwoV (B' ≤ ·) L u w' := by
  obtain ⟨a, cap, hu, ht, hl⟩ := h
  exact ⟨a, cap, hu, ht.keep (kept_but x hp) (fun g hg _ => by omega), hl⟩
theorem StmsV.but {pb B B' : Nat} {L : List Stm} {u : Value} {w w' : World} (h : StmsV (B ≤ ·) L u w) (x : But pb w w') (hp : pb < B) (hB : B' ≤ B) : StmsV (B' ≤ ·) L u w' := by
  obtain ⟨a, cap, hu, ht, hl⟩ := h
  exact ⟨a, cap, hu, StmsP.keep (kept_but x hp) (fun g hg _ => by omega) L a ht, hl⟩
theorem StmV.but {pb B B' : Nat} {s : Stm} {u : Value} {w w' : World} (h : StmV (B ≤ ·) s u w) (x : But pb w w') (hp : pb < B) (hB : B' ≤ B) : StmV (B' ≤ ·) s u w' := by
  obtain ⟨xs, hu, ht⟩ := h
  exact ⟨xs, hu, StmP.keep (kept_but x hp) (fun g hg _ => by omega) s xs ht⟩
set_option maxHeartbeats 4000000 in
theorem options_any (pb : Nat) (a : Option Addr) (cap : Nat) (T : List Tok) (ar : ByteArray) (dep : Int) (r : List Tok) (w : World) (h : PSt pb a cap T ar dep r w) :
    Calls Tryz.prog 69 #[.pointer (some ⟨pb, 0, none⟩)] w fun e w' =>
      POut pb a cap T ar dep (fun L u w' => TwoV (w.heap.size ≤ ·) L u w') (pOpt (lastL T) r) e w' ∧ But pb w w' := by
  have his := is_l pb a cap T ar dep r 5 (by decide) ⟨#[91]⟩ [91] rfl w h
  have HS := Lib.hid h
  have HLT := Lib.hid h.lt
  obtain ⟨X, hX⟩ : ∃ X, X = pOpt (lastL T) r := ⟨_, rfl⟩
  rw [← hX]
  unfold pOpt at hX
  clear h
  by_cases hi : isT 5 [91] r = true
  · rw [if_pos hi] at hX
    rw [hi] at his
    have HI := Lib.hid his
    replace hX := Lib.hid hX
    clear his hi
    go_enter Tryz.func69, Tryz.ntmps69
    go_wp2_with (go_at_call 49; refine HI.out.mono ?_; rintro e w1 ⟨rfl, x1⟩)
    have hat := attrs_any pb a cap T ar dep r w1 (HS.out.ext x1)
    have hX1 := hX.out
    rcases hq : pAttrsB (lastL T) r with ⟨L, r1⟩ | ⟨ln, er⟩ <;> rw [hq] at hat hX1 <;> clear hq hX
    · refine hat.mono ?_
      rintro e w2 ⟨⟨u, rfl, hu, hs2⟩, x2⟩
      clear hat
      rw [PR.bind_ok] at hX1
      have hmk := mark_l pb a cap T ar dep r1 ⟨#[59]⟩ [59] rfl w2 hs2
      replace hu := Lib.hid hu
      replace x1 := Lib.hid x1
      replace x2 := Lib.hid x2
      rcases hq : pMark (lastL T) [59] r1 with ⟨v, r2⟩ | ⟨ln, er⟩ <;> rw [hq] at hmk hX1 <;> clear hq
      · rw [PR.bind_ok] at hX1
        have HX := Lib.hid hX1
        have HMK := Lib.hid hmk
        clear hX1 hmk hs2
        go_wp2_with (go_at_call 42; refine HMK.out.mono ?_; rintro e w3 ⟨⟨_, rfl, rfl, hs3⟩, x3⟩; replace hs3 := Lib.hid hs3; replace x3 := Lib.hid x3)
        go_returns
        have hl := x1.out.size
        have := HLT.out
        rw [HX.out]
        exact ⟨⟨_, rfl, hu.out.but x3.out (by omega) hl, hs3.out⟩, (But.of x1.out).trans (x2.out.trans x3.out)⟩
      · rw [PR.bind_err] at hX1
        have HX := Lib.hid hX1
        have HMK := Lib.hid hmk
        clear hX1 hmk hs2
        go_wp2_with (go_at_call 42; refine HMK.out.mono ?_; rintro e w3 ⟨rfl, x3⟩; unfold failE)
        exact ⟨rfl, by rw [HX.out]; exact rfl, (But.of x1.out).trans (x2.out.trans x3)⟩
    · refine hat.mono ?_
      rintro e w2 ⟨rfl, x2⟩
      rw [PR.bind_err] at hX1
      have HX := Lib.hid hX1
      clear hX1 hat
      unfold failE
      go_wp2
      exact ⟨rfl, by rw [HX.out]; exact rfl, (But.of x1).trans x2⟩
  · rw [if_neg hi, PR.bind_ok] at hX
    have hi' : isT 5 [91] r = false := by simpa using hi
    rw [hi'] at his
    have HI := Lib.hid his
    replace hX := Lib.hid hX
    clear his hi hi'
    go_enter Tryz.func69, Tryz.ntmps69
    go_wp2_with (go_at_call 49; refine HI.out.mono ?_; rintro e w1 ⟨rfl, x1⟩)
    have hmk := mark_l pb a cap T ar dep r ⟨#[59]⟩ [59] rfl w1 (HS.out.ext x1)
    have hX1 := hX.out
    rcases hq : pMark (lastL T) [59] r with ⟨v, r2⟩ | ⟨ln, er⟩ <;> rw [hq] at hmk hX1 <;> clear hq hX
    · rw [PR.bind_ok] at hX1
      have HX := Lib.hid hX1
      clear hX1
      refine hmk.mono ?_
      rintro e w3 ⟨⟨_, rfl, rfl, hs3⟩, x3⟩
      clear hmk
      replace hs3 := Lib.hid hs3
      go_wp2
      go_returns
      rw [HX.out]
      exact ⟨⟨_, rfl, twoV_nil _ _, hs3.out⟩, (But.of x1).trans x3⟩
    · rw [PR.bind_err] at hX1
      have HX := Lib.hid hX1
      clear hX1
      refine hmk.mono ?_
      rintro e w3 ⟨rfl, x3⟩
      clear hmk
      unfold failE
      go_wp2
      exact ⟨rfl, by rw [HX.out]; exact rfl, (But.of x1).trans x3⟩
def refV (q : Two) : Value := .agg #[.string q.1, .string q.2]
theorem ref_cells (w : World) (k v : ByteArray) : ∀ w1, Ext (w.alloc (.cells #[.string k, .string v] 51)) w1 →
    w1.heap[w.heap.size]? = some (.cells #[.string k, .string v] 51 (0, 0)) := fun w1 x => by
  have hb := heap_alloc_new w (.cells #[.string k, .string v] 51)
  exact (x.block _ (by simp)).trans hb
theorem but_two {pb : Nat} {w w' : World} {k v : ByteArray} {b : Nat} {T : TypeId} (x : But pb w w') (h : w.heap[b]? = some (.cells #[.string k, .string v] T (0, 0))) (hb : b ≠ pb) :
    w'.heap[b]? = some (.cells #[.string k, .string v] T (0, 0)) := (x.block b (Array.getElem?_eq_some_iff.1 h).1 hb).trans h
theorem two_cells {w : World} {k v : ByteArray} {b : Nat} {T : TypeId} (h : w.heap[b]? = some (.cells #[.string k, .string v] T (0, 0))) :
    w.cell? ⟨b, 0, none⟩ = some (.string k) ∧ w.cell? ⟨b, 1, none⟩ = some (.string v) ∧ w.frozen? ⟨b, 0, none⟩ = false ∧ w.frozen? ⟨b, 1, none⟩ = false := by
  refine ⟨?_, ?_, Lib.frozen_of_heap h 0, Lib.frozen_of_heap h 1⟩ <;> rw [Lib.cell_of_heap h] <;> rfl
theorem set_two {w : World} {x y : Value} {b : Nat} {T : TypeId} (h : w.heap[b]? = some (.cells #[x, y] T (0, 0))) (u v : Value) :
    ((w.setCell ⟨b, 0, none⟩ u).setCell ⟨b, 1, none⟩ v).heap[b]? = some (.cells #[u, v] T (0, 0)) := setOne (setOne h 0 u) 1 v
theorem info_ref : (Tryz.prog.info? 51).map (fun i => (i.zero, i.size, i.bytes)) = some (some (.agg #[.string ⟨#[]⟩, .string ⟨#[]⟩]), 2, 32) := by kernel_rfl
theorem size_ref : (Tryz.prog.info? 51).map (·.size) = some 2 := by kernel_rfl
theorem but_far {c : Nat} {a b : World} (h : But c a b) {p : Addr} (hp : a.heap.size ≤ p.block) (u : Value) : But c a (b.setCell p u) :=
  ⟨h.os, h.tape, h.output, by have := h.size; simpa [World.setCell] using this, fun k hk hc => (Below.heap_setCell _ _ _ _ (by omega)).trans (h.block k hk hc)⟩
theorem PSt.far {pb : Nat} {a : Option Addr} {cap : Nat} {T : List Tok} {ar : ByteArray} {dep : Int} {r : List Tok} {w : World} (h : PSt pb a cap T ar dep r w) {p : Addr} (hp : pb < p.block) (u : Value) : PSt pb a cap T ar dep r (w.setCell p u) :=
  h.below (Below.setCell (Below.refl (pb + 1) w) (by omega) u) (by omega)
set_option maxHeartbeats 4000000 in
theorem port_any (pb : Nat) (a : Option Addr) (cap : Nat) (T : List Tok) (ar : ByteArray) (dep : Int) (r : List Tok) (n : ByteArray) (w : World) (h : PSt pb a cap T ar dep r w) :
    Calls Tryz.prog 70 #[.pointer (some ⟨pb, 0, none⟩), .string n] w fun e w' =>
      POut pb a cap T ar dep (fun q u _ => u = refV q) (pPort (lastL T) n r) e w' ∧ But pb w w' := by
  have HS := Lib.hid h
  have HLT := Lib.hid h.lt
  obtain ⟨X, hX⟩ : ∃ X, X = pPort (lastL T) n r := ⟨_, rfl⟩
  rw [← hX]
  unfold pPort at hX
  clear h
  have hw0 := heap_alloc_new w (.cells #[.string ⟨#[]⟩, .string ⟨#[]⟩] 51)
  have hx0 := (Ext.refl w).alloc (.cells #[.string ⟨#[]⟩, .string ⟨#[]⟩] 51)
  have hw1 := heap_alloc_new (w.alloc (.cells #[.string ⟨#[]⟩, .string ⟨#[]⟩] 51)) (.cells #[.string n, .string ⟨#[]⟩] 51)
  have hx1 := hx0.alloc (.cells #[.string n, .string ⟨#[]⟩] 51)
  have hw0' := ((Ext.refl (w.alloc (.cells #[.string ⟨#[]⟩, .string ⟨#[]⟩] 51))).alloc (.cells #[.string n, .string ⟨#[]⟩] 51)).block _ (by simp) |>.trans hw0
  rw [World.size_alloc] at hw1
  obtain ⟨W, hW⟩ : ∃ W, W = (w.alloc (.cells #[.string ⟨#[]⟩, .string ⟨#[]⟩] 51)).alloc (.cells #[.string n, .string ⟨#[]⟩] 51) := ⟨_, rfl⟩
  rw [← hW] at hw1 hx1 hw0'
  have hn0 : w.heap.size ≠ pb := by have := HLT.out; omega
  have hn1 : w.heap.size + 1 ≠ pb := by have := HLT.out; omega
  have htk := take_l pb a cap T ar dep r 5 (by decide) ⟨#[58]⟩ [58] rfl W (HS.out.ext hx1)
  have HW0 := Lib.hid hw0'; have HW1 := Lib.hid hw1; have HX1 := Lib.hid hx1; have HN0 := Lib.hid hn0; have HN1 := Lib.hid hn1
  have HW := Lib.hid hW
  clear hw0 hx0 hw0' hw1 hx1 hn0 hn1
  by_cases hi : isT 5 [58] r = true
  · rw [if_pos hi] at hX
    rw [hi, if_pos rfl] at htk
    rw [hW] at htk
    have HTK := Lib.hid htk
    replace hX := Lib.hid hX
    clear hi htk hW
    go_enter Tryz.func70, Tryz.ntmps70
    go_wp2_with (go_at_call 34; refine HTK.out.mono ?_; rintro e w1 ⟨rfl, hs1, x1⟩; rw [← HW.out] at x1)
    have hnm := name_any pb a cap T ar dep r.tail w1 hs1
    have hX1 := hX.out
    rcases hq : pName (lastL T) r.tail with ⟨p, r1⟩ | ⟨ln, er⟩ <;> rw [hq] at hnm hX1 <;> clear hq hX
    · rw [PR.bind_ok] at hX1
      have HX := Lib.hid hX1
      clear hX1 HTK hs1
      refine hnm.mono ?_
      rintro e w2 ⟨⟨_, rfl, rfl, hs2⟩, x2⟩
      have k0 := but_two (x1.trans x2) HW0.out HN0.out
      have k1 := but_two (x1.trans x2) HW1.out HN1.out
      obtain ⟨c00, c01, f00, f01⟩ := two_cells k0
      obtain ⟨c10, c11, f10, f11⟩ := two_cells k1
      have HZ := Lib.hid (set_two ((Below.heap_setCell w2 ⟨w.heap.size + 1, 1, none⟩ (.string p) w.heap.size (by show w.heap.size ≠ w.heap.size + 1; omega)).trans k0) (.string n) (.string p))
      clear hnm k0 k1
      replace hs2 := Lib.hid hs2
      replace x2 := Lib.hid (x1.trans x2)
      clear x1
      go_wp2
      refine bodyPost_ret (results_cell_row rfl _ _ w.heap.size 51 #[.string n, .string p] (0, 0) _ rfl HZ.out Tryz.underlying51 rfl size_ref) rfl ?_
      have hl := HLT.out
      rw [HX.out]
      refine ⟨⟨_, rfl, rfl, ((hs2.out.far (p := ⟨w.heap.size + 1, 1, none⟩) (by show pb < w.heap.size + 1; omega) _).far (p := ⟨w.heap.size, 0, none⟩) hl _).far (p := ⟨w.heap.size, 1, none⟩) hl _⟩, ?_⟩
      exact but_far (but_far (but_far ((But.of HX1.out).trans x2.out) (p := ⟨w.heap.size + 1, 1, none⟩) (by show w.heap.size ≤ w.heap.size + 1; omega) _) (p := ⟨w.heap.size, 0, none⟩) (Nat.le_refl _) _) (p := ⟨w.heap.size, 1, none⟩) (Nat.le_refl _) _
    · rw [PR.bind_err] at hX1
      have HX := Lib.hid hX1
      clear hX1
      refine hnm.mono ?_
      rintro e w2 ⟨rfl, x2⟩
      unfold failE
      go_wp2
      exact ⟨rfl, by rw [HX.out]; exact rfl, (But.of HX1.out).trans (x1.trans x2)⟩
  · rw [if_neg hi] at hX
    have hi' : isT 5 [58] r = false := by simpa using hi
    rw [hi', if_neg (by decide)] at htk
    rw [hW] at htk
    have HTK := Lib.hid htk
    replace hX := Lib.hid hX
    clear hi hi' htk hW
    go_enter Tryz.func70, Tryz.ntmps70
    go_wp2_with (go_at_call 34; refine HTK.out.mono ?_; rintro e w1 ⟨rfl, hs1, x1⟩; rw [← HW.out] at x1; have k0 := but_two x1 HW0.out HN0.out; have k1 := but_two x1 HW1.out HN1.out; obtain ⟨c00, c01, f00, f01⟩ := two_cells k0; obtain ⟨c10, c11, f10, f11⟩ := two_cells k1; have HZ := Lib.hid (set_two k0 (.string n) (.string ⟨#[]⟩)); clear k0 k1; replace hs1 := Lib.hid hs1; replace x1 := Lib.hid x1)
    refine bodyPost_ret (results_cell_row rfl _ _ w.heap.size 51 #[.string n, .string ⟨#[]⟩] (0, 0) _ rfl HZ.out Tryz.underlying51 rfl size_ref) rfl ?_
    have hl := HLT.out
    rw [hX.out]
    refine ⟨⟨_, rfl, rfl, (hs1.out.far (p := ⟨w.heap.size, 0, none⟩) hl _).far (p := ⟨w.heap.size, 1, none⟩) hl _⟩, ?_⟩
    exact but_far (but_far ((But.of HX1.out).trans x1.out) (p := ⟨w.heap.size, 0, none⟩) (Nat.le_refl _) _) (p := ⟨w.heap.size, 1, none⟩) (Nat.le_refl _) _
end Go.Proofs.YtmallladeidkpaaGreatDoor.Pa

/- What the parser's block returns, where its statements are read. -/
namespace Go.Proofs.YtmallladeidkpaaGreatDoor.Pa
open Go.RowKit Go.Sort Go.Lib Go.Shelf Fx Lx Tr

/-- Whatever a part of the parser leaves is shorter. -/
def Eats {α : Type} (x : PR α) (m : Nat) : Prop := ∀ v r, x = .ok v r → r.length < m
theorem Eats.bind {α β : Type} {x : PR α} {g : α → List Tok → PR β} {m : Nat} (h : ∀ v r, x = .ok v r → Eats (g v r) m) : Eats (x.bind g) m := by
  intro v r e
  cases x with
  | ok u s => exact h u s rfl v r e
  | err ln er => cases e
theorem Eats.ok {α : Type} {v : α} {r : List Tok} {m : Nat} (h : r.length < m) : Eats (PR.ok v r) m := by
  intro v' r' e; injection e with _ e; rw [← e]; exact h
theorem Eats.err {α : Type} {ln er : Int} {m : Nat} : Eats (PR.err ln er : PR α) m := by
  intro v' r' e; cases e
theorem Eats.mono {α : Type} {x : PR α} {m n : Nat} (h : Eats x m) (hn : m ≤ n) : Eats x n := fun v r e => Nat.lt_of_lt_of_le (h v r e) hn
theorem eats_mark (last : Int) (m : List UInt8) (r : List Tok) : Eats (pMark last m r) r.length := fun v s h => by have := pMark_len h; omega
theorem eats_name (last : Int) (r : List Tok) : Eats (pName last r) r.length := fun v s h => by have := pName_len h; omega
theorem eats_val (last : Int) (r : List Tok) : Eats (pVal last r) r.length := fun v s h => by have := pVal_len h; omega
theorem eats_attr (last : Int) (r : List Tok) : Eats (pAttr last r) r.length := by
  unfold pAttr
  refine Eats.bind fun v s h => ?_
  have := pName_len h
  refine Eats.bind fun v s h => ?_
  have := pMark_len h
  refine Eats.bind fun v s h => ?_
  have := pVal_len h
  exact Eats.ok (by omega)
theorem eats_attrs (last : Int) : ∀ (f : Nat) (out : List Two) (r : List Tok), Eats (pAttrs last f out r) r.length
  | 0, _, _ => by rw [pAttrs]; exact Eats.err
  | f + 1, out, r => by
    rw [pAttrs]
    by_cases hi : isT 5 [93] r = true
    · rw [if_pos hi]; have := isT_cons hi; exact Eats.ok (by omega)
    · rw [if_neg hi]
      refine Eats.bind fun v s h => ?_
      have hs : s.length ≤ r.length := by
        by_cases h0 : out.isEmpty = true
        · rw [if_pos h0] at h; injection h with _ h; rw [← h]; exact Nat.le_refl _
        · rw [if_neg h0] at h; have := pMark_len h; omega
      refine Eats.bind fun q s' h' => ?_
      have := eats_attr last s q s' h'
      exact (eats_attrs last f (out ++ [q]) s').mono (by omega)
theorem eats_attrsB (last : Int) (r : List Tok) : Eats (pAttrsB last r) r.length := by
  unfold pAttrsB
  refine Eats.bind fun v s h => ?_
  have := pMark_len h
  exact (eats_attrs last _ _ _).mono (by omega)
theorem eats_opt (last : Int) (r : List Tok) : Eats (pOpt last r) r.length := by
  unfold pOpt
  refine Eats.bind fun v s h => ?_
  have hs : s.length ≤ r.length := by
    by_cases hi : isT 5 [91] r = true
    · rw [if_pos hi] at h; have := eats_attrsB last r v s h; omega
    · rw [if_neg hi] at h; injection h with _ h; rw [← h]; exact Nat.le_refl _
  refine Eats.bind fun q s' h' => ?_
  have := pMark_len h'
  exact Eats.ok (by omega)
theorem port_le {last : Int} {n : ByteArray} {r s : List Tok} {q : Two} (h : pPort last n r = .ok q s) : s.length ≤ r.length := by
  unfold pPort at h
  by_cases hi : isT 5 [58] r = true
  · rw [if_pos hi] at h
    have := isT_cons hi
    have := Eats.bind (m := r.length) (fun v s h => by have := pName_len h; exact Eats.ok (v := (n, v)) (r := s) (by omega)) q s h
    omega
  · rw [if_neg hi] at h; injection h with _ h; rw [← h]; exact Nat.le_refl _
theorem eats_ref (last : Int) (r : List Tok) : Eats (pRef last r) r.length := by
  unfold pRef
  refine Eats.bind fun v s h => ?_
  have := pName_len h
  intro q s' h'
  have := port_le h'
  omega
theorem refs_le (last : Int) (ar : List UInt8) : ∀ (f : Nat) (out : List Two) (r : List Tok), Eats (pRefs last ar f out r) (r.length + 1)
  | 0, _, _ => by rw [pRefs]; exact Eats.err
  | f + 1, out, r => by
    rw [pRefs]
    by_cases hi : (decide (out.length < 2) || isT 5 ar r) = true
    · rw [if_pos hi]
      refine Eats.bind fun v s h => ?_
      have := pMark_len h
      refine Eats.bind fun q s' h' => ?_
      have := eats_ref last s q s' h'
      exact (refs_le last ar f _ s').mono (by omega)
    · rw [if_neg hi]; exact Eats.ok (by omega)
theorem eats_chain (last : Int) (ar : List UInt8) (r : List Tok) : Eats (pChain last ar r) r.length := by
  unfold pChain
  refine Eats.bind fun n s h => ?_
  have := pName_len h
  by_cases hi : (isT 5 [58] s || isT 5 ar s) = false
  · rw [if_pos hi]
    refine Eats.bind fun v s' h' => ?_
    have := eats_opt last s v s' h'
    exact Eats.ok (by omega)
  · rw [if_neg hi]
    refine Eats.bind fun v s' h' => ?_
    have := port_le h'
    refine Eats.bind fun v s2 h2 => ?_
    have := refs_le last ar _ _ _ v s2 h2
    refine Eats.bind fun v s3 h3 => ?_
    have := eats_opt last s2 v s3 h3
    exact Eats.ok (by omega)
theorem eats_set (last : Int) (r : List Tok) : Eats (pSet last r) r.length := by
  unfold pSet
  refine Eats.bind fun n s h => ?_
  have := pName_len h
  refine Eats.bind fun v s2 h2 => ?_
  have := pMark_len h2
  refine Eats.bind fun v s3 h3 => ?_
  have := pVal_len h3
  refine Eats.bind fun v s4 h4 => ?_
  have := pMark_len h4
  exact Eats.ok (by omega)
theorem eats_def (last : Int) (x : List UInt8) (r : List Tok) : Eats (pDef last x r) r.length := by
  unfold pDef
  refine Eats.bind fun n s h => ?_
  have := eats_attrsB last r n s h
  refine Eats.bind fun v s2 h2 => ?_
  have := pMark_len h2
  exact Eats.ok (by omega)
theorem eats_all (last : Int) (ar : List UInt8) : ∀ (f : Nat) (dep : Nat) (r : List Tok), Eats (pStm last ar f dep r) r.length ∧ Eats (pBlock last ar f dep r) r.length ∧ ∀ out, Eats (pStms last ar f dep out r) r.length
  | 0, dep, r => ⟨by rw [pStm]; exact Eats.err, by rw [pBlock]; exact Eats.err, fun out => by rw [pStms]; exact Eats.err⟩
  | f + 1, dep, r => by
    refine ⟨?_, ?_, fun out => ?_⟩
    · rw [pStm]
      by_cases h1 : (isT 2 kNode r || isT 2 kEdge r) = true
      · rw [if_pos h1]
        have h2 : r.tail.length + 1 = r.length := by
          rcases Bool.or_eq_true _ _ ▸ h1 with h | h <;> exact isT_cons h
        exact (eats_def last _ _).mono (by omega)
      rw [if_neg h1]
      by_cases h2 : isT 2 kSet r = true
      · rw [if_pos h2]; have := isT_cons h2; exact (eats_set last _).mono (by omega)
      rw [if_neg h2]
      by_cases h3 : isT 2 kClus r = true
      · rw [if_pos h3]
        have := isT_cons h3
        refine Eats.bind fun n s h => ?_
        have := pName_len h
        refine Eats.bind fun b s' h' => ?_
        have := (eats_all last ar f (dep + 1) s).2.1 b s' h'
        exact Eats.ok (by omega)
      · rw [if_neg h3]; exact eats_chain last ar r
    · rw [pBlock]
      by_cases h1 : isT 5 [123] r = true ∧ 6 < dep
      · rw [if_pos h1]; exact Eats.err
      · rw [if_neg h1]
        refine Eats.bind fun v s h => ?_
        have := pMark_len h
        exact ((eats_all last ar f dep s).2.2 []).mono (by omega)
    · rw [pStms]
      by_cases hi : isT 5 [125] r = true
      · rw [if_pos hi]; have := isT_cons hi; exact Eats.ok (by omega)
      · rw [if_neg hi]
        refine Eats.bind fun x s h => ?_
        have := (eats_all last ar f dep r).1 x s h
        exact ((eats_all last ar f dep s).2.2 (out ++ [x])).mono (by omega)
/-- What statement answers, with this fuel. -/
def StmC (pb : Nat) (a : Option Addr) (cap : Nat) (T : List Tok) (ar : ByteArray) (f : Nat) : Prop := ∀ (dep : Nat) (r : List Tok) (w : World), dep ≤ 6 → 2 * r.length + 2 ≤ f → PSt pb a cap T ar dep r w →
  Calls Tryz.prog 51 #[.pointer (some ⟨pb, 0, none⟩)] w fun e w' =>
    POut pb a cap T ar dep (fun s u w' => StmV (w.heap.size ≤ ·) s u w') (pStm (lastL T) ar.data.toList f dep r) e w' ∧ But pb w w'
/-- What block answers, with this fuel. -/
def BlockC (pb : Nat) (a : Option Addr) (cap : Nat) (T : List Tok) (ar : ByteArray) (f : Nat) : Prop := ∀ (dep d : Nat) (r : List Tok) (w : World), dep ≤ 6 → d ≤ 1 → 2 * r.length + 3 ≤ f → PSt pb a cap T ar dep r w →
  Calls Tryz.prog 36 #[.pointer (some ⟨pb, 0, none⟩), .int .i64 d] w fun e w' =>
    POut pb a cap T ar dep (fun L u w' => StmsV (w.heap.size ≤ ·) L u w') (pBlock (lastL T) ar.data.toList f (dep + d) r) e w' ∧ But pb w w'
theorem PSt.dep_cell {pb : Nat} {a : Option Addr} {cap : Nat} {T : List Tok} {ar : ByteArray} {dep : Int} {r : List Tok} {w : World} (h : PSt pb a cap T ar dep r w) :
    w.cell? ⟨pb, 3, none⟩ = some (.int .i64 dep) ∧ w.frozen? ⟨pb, 3, none⟩ = false ∧ w.cell? ⟨pb, 2, none⟩ = some (.string ar) := by
  obtain ⟨k, hk, hn, hd, hc, _⟩ := h
  obtain ⟨_, _, p2, p3, p4⟩ := hc.cells
  exact ⟨p3, p4 3, p2⟩
theorem PSt.dep_set {pb : Nat} {a : Option Addr} {cap : Nat} {T : List Tok} {ar : ByteArray} {dep : Int} {r : List Tok} {w : World} (h : PSt pb a cap T ar dep r w) (dep' : Int) :
    PSt pb a cap T ar dep' r (w.setCell ⟨pb, 3, none⟩ (.int .i64 dep')) ∧ But pb w (w.setCell ⟨pb, 3, none⟩ (.int .i64 dep')) := by
  obtain ⟨k, hk, hn, hd, hc, ht, he, hm⟩ := h
  have hb : But pb w (w.setCell ⟨pb, 3, none⟩ (.int .i64 dep')) := (But.refl pb w).setCell ⟨pb, 3, none⟩ rfl _
  exact ⟨⟨k, hk, hn, hd, hc.depth dep', ht.but hb, he.but hb, hm⟩, hb⟩
theorem info_stm : (Tryz.prog.info? 44).map (fun i => (i.zero, i.size, i.bytes)) = some (some (.agg #[.int .i64 0, .string ⟨#[]⟩, .slice none 0 0, .slice none 0 0, .slice none 0 0]), 5, 96) := by kernel_rfl
end Go.Proofs.YtmallladeidkpaaGreatDoor.Pa

/- One step of the fuel for the parser's block. -/
namespace Go.Proofs.YtmallladeidkpaaGreatDoor.Pa
open Go.RowKit Go.Sort Go.Lib Go.Shelf Fx Lx Tr

/-- Blocks from B on that are not the row's own. -/
def okB (B : Nat) (v : Value) (g : Nat) : Prop := B ≤ g ∧ some g ≠ v.ownBlock
set_option maxHeartbeats 4000000 in
set_option maxRecDepth 100000 in
theorem block_step (pb : Nat) (a : Option Addr) (cap : Nat) (T : List Tok) (ar : ByteArray) (f : Nat) (ih : ∀ g, g < f → StmC pb a cap T ar g) : BlockC pb a cap T ar f := by
  intro dep d r w hdep hd hf h
  obtain ⟨i0, hi, hz0, hz1, hz2⟩ := info_parts info_stm
  obtain ⟨f, rfl⟩ : ∃ g, f = g + 1 := ⟨f - 1, by omega⟩
  obtain ⟨X, hX⟩ : ∃ X, X = pBlock (lastL T) ar.data.toList (f + 1) (dep + d) r := ⟨_, rfl⟩
  rw [← hX]
  rw [pBlock] at hX
  have his := is_l pb a cap T ar dep r 5 (by decide) ⟨#[123]⟩ [123] rfl w h
  have HS := Lib.hid h
  have HLT := Lib.hid h.lt
  have HIH := Lib.hid ih
  clear h ih
  cases hb : isT 5 [123] r
  · -- no brace: the mark fails
    rw [hb, if_neg (by simp)] at hX
    rw [hb] at his
    have HI := Lib.hid his; have HX := Lib.hid hX; have HB := Lib.hid hb
    clear his hX hb
    go_enter Tryz.func36, Tryz.ntmps36
    go_wp2_with (go_at_call 49; refine HI.out.mono ?_; rintro e w1 ⟨rfl, x1⟩)
    have hmk := mark_l pb a cap T ar dep r ⟨#[123]⟩ [123] rfl w1 (HS.out.ext x1)
    have hpm : pMark (lastL T) [123] r = .err (lineOf (lastL T) r) 4 := by unfold pMark; rw [HB.out, if_neg (by decide)]
    have hX1 := HX.out
    rw [hpm] at hmk hX1
    rw [PR.bind_err] at hX1
    have HX1 := Lib.hid hX1
    clear hX1 hpm
    refine hmk.mono ?_
    rintro e w2 ⟨rfl, x2⟩
    clear hmk
    unfold failE
    go_wp2
    exact ⟨rfl, by rw [HX1.out]; exact rfl, (But.of x1).trans x2⟩
  · rw [hb] at his
    by_cases h6 : 6 < dep + d
    · rw [hb, if_pos ⟨rfl, h6⟩] at hX
      have HI := Lib.hid his; have HX := Lib.hid hX
      clear his hX hb
      go_enter Tryz.func36, Tryz.ntmps36
      go_wp2_with (go_at_call 49; refine HI.out.mono ?_; rintro e w1 ⟨rfl, x1⟩; obtain ⟨q3, f3, q2⟩ := (HS.out.ext x1).dep_cell)
      refine (fail_any pb a cap T ar dep r 2 w1 (HS.out.ext x1)).mono ?_
      rintro e w2 ⟨rfl, x2⟩
      unfold failE
      go_wp2
      exact ⟨rfl, by rw [HX.out]; exact rfl, But.of (x1.trans x2)⟩
    · rw [hb, if_neg (fun h => h6 h.2)] at hX
      have hpm : pMark (lastL T) [123] r = .ok () r.tail := by unfold pMark; rw [hb, if_pos rfl]
      rw [hpm, PR.bind_ok] at hX
      have hl0 := isT_cons hb
      have hmk := fun w1 (x : Ext w w1) => mark_l pb a cap T ar dep r ⟨#[123]⟩ [123] rfl w1 (HS.out.ext x)
      rw [hpm] at hmk
      have HMK := Lib.hid hmk
      have HI := Lib.hid his; have HX := Lib.hid hX
      have hrl := HS.out.len
      have h6' : ¬ (6 : Int) < (dep : Int) + d := by omega
      clear his hX hb hmk hpm h6
      go_enter Tryz.func36, Tryz.ntmps36
      go_wp2_with (first
        | (go_at_call 49; refine HI.out.mono ?_; rintro e w1 ⟨rfl, x1⟩; obtain ⟨q3, f3, q2⟩ := (HS.out.ext x1).dep_cell; replace x1 := Lib.hid x1)
        | (go_at_call 42; refine (HMK.out _ x1.out).mono ?_; rintro e w2 ⟨⟨_, rfl, rfl, hs2⟩, x2⟩; clear q3 f3 q2; obtain ⟨g3, k3, _⟩ := hs2.dep_cell
           have hs3 : Hid (PSt pb a cap T ar ((dep + d : Nat) : Int) r.tail (w2.setCell ⟨pb, 3, none⟩ (.int .i64 ((dep : Int) + d)))) := Lib.hid (by rw [Int.natCast_add]; exact (hs2.dep_set _).1)
           have x3 := Lib.hid (((But.of x1.out).trans x2).trans (hs2.dep_set ((dep : Int) + d)).2)
           clear hs2 x2))
      go_loopw [5] (fun out' wr => ∃ (ao : Option Addr) (n c : Nat) (out : List Stm) (Y : List Value) (r : List Tok) (f' : Nat), out' = .slice ao n c ∧ Hid (n = out.length) ∧ n + r.length ≤ 16384 ∧ 2 * r.length + 3 ≤ f' ∧ f' ≤ f ∧ Hid (PSt pb a cap T ar ((dep + d : Nat) : Int) r wr) ∧ Hid (But pb w wr) ∧
        Hid (wr.ownsRow w.heap.size 44 5 out' n Y) ∧ Hid (StmsC (okB w.heap.size out') wr out Y) ∧ Hid (X = pStms (lastL T) ar.data.toList f' (dep + d) out r)) (fun out' _ => 16384 - slen out')
      case atStart => exact ⟨none, 0, 0, [], [], r.tail, f, rfl, Lib.hid rfl, by omega, by omega, Nat.le_refl _, hs3, x3, Lib.hid (World.ownsRow_nil _ _ _ _), Lib.hid rfl, HX⟩
      case round =>
        obtain ⟨ao, n, c, out, Y, r1, f', rfl, hn, hlen, hf1, hf2, hs, hb, hown, hst, hX⟩ := hrel
        clear HX HMK HI hs3 x3 x1 hrl hl0 hf
        obtain ⟨f', rfl⟩ : ∃ g, f' = g + 1 := ⟨f' - 1, by omega⟩
        have hX0 := hX.out
        rw [pStms] at hX0
        have htk := take_l pb a cap T ar ((dep + d : Nat) : Int) r1 5 (by decide) ⟨#[125]⟩ [125] rfl wr hs.out
        by_cases hi1 : isT 5 [125] r1 = true
        · rw [if_pos hi1] at hX0
          rw [hi1, if_pos rfl] at htk
          have HTK := Lib.hid htk; replace hX := Lib.hid hX0
          clear hX0 htk hi1
          go_wp2_with (go_at_call 34; refine HTK.out.mono ?_; rintro e w2 ⟨rfl, hs2, x2⟩; obtain ⟨g3, k3, _⟩ := hs2.dep_cell; have hs4 := Lib.hid (hs2.dep_set (dep : Int)).1; have x4 := Lib.hid (hs2.dep_set (dep : Int)).2; replace x2 := Lib.hid x2; clear hs2)
          go_returns
          have hl := HLT.out
          have hn' := hn.out
          subst hn'
          rw [hX.out]
          have x24 := x2.out.trans x4.out
          exact ⟨⟨_, rfl, own_stms (own_but hown.out x24 hl) (StmsC.keep (ok' := okB w.heap.size (.slice ao out.length c)) (fun g hg hlg => x24.block g hlg (by have := hg.1; omega)) (fun g hg _ => hg) out Y hst.out) (fun g hg => hg.1) (fun g hg => hg), hs4.out⟩, hb.out.trans x24⟩
        · rw [if_neg hi1] at hX0
          have hi' : isT 5 [125] r1 = false := by simpa using hi1
          rw [hi', if_neg (by decide)] at htk
          have HTK := Lib.hid htk; replace hX := Lib.hid hX0
          clear hX0 htk hi1 hi'
          go_wp2_with (go_at_call 34; refine HTK.out.mono ?_; rintro e w2 ⟨rfl, hs2, x2⟩)
          have hsm := HIH.out f' (by omega) (dep + d) r1 w2 (by omega) (by omega) hs2
          have hea := (eats_all (lastL T) ar.data.toList f' (dep + d) r1).1
          have hX1 := hX.out
          rcases hq : pStm (lastL T) ar.data.toList f' (dep + d) r1 with ⟨s, r2⟩ | ⟨ln, er⟩ <;> rw [hq] at hsm hX1 hea <;> clear hq hX
          · rw [PR.bind_ok] at hX1
            have hX := Lib.hid hX1
            have hlt := hea s r2 rfl
            clear hX1 hea hs2 HTK
            refine hsm.mono ?_
            rintro e w3 ⟨⟨_, rfl, ⟨xs, rfl, hxs⟩, hs3⟩, x3⟩
            clear hsm
            have HXS := Lib.hid hxs
            obtain ⟨rr, rc, ra, rac, rb, rbc, rfl, _⟩ := (stmP_mk _ _ _ _).1 hxs
            clear hxs
            have hown2 := own_but hown.out x2 HLT.out
            have hown3 := Lib.hid (own_but hown2 x3 HLT.out)
            have hro : ∀ q, Value.ownBlock (.slice ao n c) = some q → w.heap.size ≤ q ∧ q < wr.heap.size := fun q hq => hown.out.lt q hq
            have HRO := Lib.hid hro
            have x23 := Lib.hid (x2.trans x3)
            replace x2 := Lib.hid x2
            have x03 := Lib.hid (hb.out.trans x23.out)
            have hsz3 := x03.out.size
            have hsz2 := x23.out.size
            have hszr := x2.out.size
            replace hs3 := Lib.hid hs3
            replace x3 := Lib.hid x3
            clear hown2 hown hs hro
            go_wp2_with (at_builtin; refine wpList_append_lies _ rfl _ _ 22 rfl w.heap.size 44 i0 _ 5 96 Tryz.underlying22 hi hz0 hz1 hz2 rfl (by decide) _ _ _ rfl (own_ext' hown3.out ((Ext.refl w3).alloc _)) ⟨w3.heap.size, 0, none⟩ 1 1 [.int .i64 s.kind, .string s.name, .slice rr s.refs.length rc, .slice ra s.attrs.length rac, .slice rb s.body.length rbc] rfl rfl ?c1 ?c2 (by decide) ?c3 ?c4 ?c5 (w3.heap.size + 1) (by simp) ?_)
            case c1 => exact World.news_of_block (cs := #[.int .i64 s.kind, .string s.name, .slice rr s.refs.length rc, .slice ra s.attrs.length rac, .slice rb s.body.length rbc]) (t := 44) (fr := (0, 0)) (heap_alloc_new w3 _)
            case c2 => simp [Value.oneCell']
            case c3 => unfold maxLen; omega
            case c4 => omega
            case c5 => simp; omega
            intro gg cp w4 hown' hgrow hat hlt4
            have xa : Ext w3 (w3.alloc (.cells #[.int .i64 s.kind, .string s.name, .slice rr s.refs.length rc, .slice ra s.attrs.length rac, .slice rb s.body.length rbc] 44)) := (Ext.refl w3).alloc _
            have hrow : ∀ q, Value.ownBlock (.slice ao n c) = some q → w.heap.size ≤ q := fun q hq => (HRO.out q hq).1
            have hs4 := Lib.hid ((hs3.out.ext xa).below (Below.grown (Below.refl w.heap.size _) hgrow (by simp; omega) hrow) HLT.out)
            have x4 := Lib.hid (But.grown (x03.out.alloc (.cells #[.int .i64 s.kind, .string s.name, .slice rr s.refs.length rc, .slice ra s.attrs.length rac, .slice rb s.body.length rbc] 44)) hgrow hrow)
            have hl := HLT.out
            have k1 : Kept (okB w.heap.size (.slice ao n c)) wr w4 := fun g hg hlg => by
              have hg1 := hg.1
              exact (hgrow.block g (by simp; omega) hg.2).trans ((xa.block g (by omega)).trans (x23.out.block g hlg (by omega)))
            have o1 : ∀ g, okB w.heap.size (.slice ao n c) g → g < wr.heap.size → okB w.heap.size (.slice (some ⟨gg, 0, none⟩) (n + 1) cp) g := fun g hg hlg => by
              refine ⟨hg.1, ?_⟩
              show some g ≠ some gg
              rcases hat with h | h
              · rw [← h]; exact hg.2
              · intro e; injection e with e; omega
            have k2 : Kept (w2.heap.size ≤ ·) w3 w4 := fun g hg hlg => by
              have hg : w2.heap.size ≤ g := hg
              exact (hgrow.block g (by simp; omega) (fun e => by have := (HRO.out g e.symm).2; omega)).trans (xa.block g hlg)
            have o2 : ∀ g, w2.heap.size ≤ g → g < w3.heap.size → okB w.heap.size (.slice (some ⟨gg, 0, none⟩) (n + 1) cp) g := fun g hg hlg => by
              have := hb.out.size
              refine ⟨by omega, ?_⟩
              show some g ≠ some gg
              intro e; injection e with e
              rcases hat with h | h
              · have := (HRO.out gg h).2; omega
              · omega
            have hst4 := Lib.hid (StmsC.snoc (StmP.keep k2 o2 s _ HXS.out) rfl out _ (StmsC.keep k1 o1 out Y hst.out))
            replace hown' := Lib.hid hown'
            have hn4 : Hid (n + 1 = (out ++ [s]).length) := Lib.hid (by rw [List.length_append, ← hn.out]; rfl)
            clear k1 o1 k2 o2 hgrow hat hrow xa hlt4 hl
            go_wp2
            go_roundw
            case rel => exact ⟨some ⟨gg, 0, none⟩, n + 1, cp, out ++ [s], _, r2, f', rfl, hn4, by omega, by omega, by omega, hs4, x4, hown', hst4, hX⟩
            case measure => simp only [slen]; omega
          · rw [PR.bind_err] at hX1
            have hX := Lib.hid hX1
            clear hX1 hea hs2 HTK
            refine hsm.mono ?_
            rintro e w3 ⟨rfl, x3⟩
            clear hsm
            unfold failE
            go_wp2
            exact ⟨rfl, by rw [hX.out]; exact rfl, hb.out.trans (x2.trans x3)⟩
end Go.Proofs.YtmallladeidkpaaGreatDoor.Pa
