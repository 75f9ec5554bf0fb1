/- Packed texts: ParSet, ParClus, ParSrd -/
import Derived.Test.YtmallladeidkpaaGreatDoorPw14
import Derived.Deep.DeepCutAuto
set_option linter.unusedVariables false
set_option linter.unusedSimpArgs false
/- The parser's statement, where it begins with set. -/
namespace Go.Proofs.YtmallladeidkpaaGreatDoor.Pa
open Go.RowKit Go.Sort Go.Lib Go.Shelf Fx Lx Tr

theorem size_stm : (Tryz.prog.info? 44).map (·.size) = some 5 := by kernel_rfl
theorem isT_true {kd : Int} {x : List UInt8} {r : List Tok} (h : isT kd x r = true) : (peekT r).kind = kd ∧ (peekT r).text = x := by
  cases r with
  | nil => cases h
  | cons t r =>
    unfold isT at h
    rw [Bool.and_eq_true] at h
    exact ⟨of_decide_eq_true h.1, of_decide_eq_true h.2⟩
theorem but_heap {pb : Nat} {w w' : World} {o : Obj} {b : Nat} (x : But pb w w') (h : w.heap[b]? = some o) (hb : b ≠ pb) : w'.heap[b]? = some o :=
  (x.block b (Array.getElem?_eq_some_iff.1 h).1 hb).trans h
theorem five_cells {w : World} {c0 c1 c2 c3 c4 : Value} {b : Nat} {T : TypeId} (h : w.heap[b]? = some (.cells #[c0, c1, c2, c3, c4] T (0, 0))) :
    w.cell? ⟨b, 0, none⟩ = some c0 ∧ w.cell? ⟨b, 1, none⟩ = some c1 ∧ w.cell? ⟨b, 2, none⟩ = some c2 ∧ w.cell? ⟨b, 3, none⟩ = some c3 ∧ w.cell? ⟨b, 4, none⟩ = some c4 ∧
      w.frozen? ⟨b, 0, none⟩ = false ∧ w.frozen? ⟨b, 1, none⟩ = false ∧ w.frozen? ⟨b, 2, none⟩ = false ∧ w.frozen? ⟨b, 3, none⟩ = false ∧ w.frozen? ⟨b, 4, none⟩ = false := by
  refine ⟨?_, ?_, ?_, ?_, ?_, Lib.frozen_of_heap h 0, Lib.frozen_of_heap h 1, Lib.frozen_of_heap h 2, Lib.frozen_of_heap h 3, Lib.frozen_of_heap h 4⟩ <;> rw [Lib.cell_of_heap h] <;> rfl
theorem set_five {w : World} {c0 c1 c2 c3 c4 : Value} {b : Nat} {T : TypeId} (h : w.heap[b]? = some (.cells #[c0, c1, c2, c3, c4] T (0, 0))) (d0 d1 d2 d3 d4 : Value) :
    (((((w.setCell ⟨b, 0, none⟩ d0).setCell ⟨b, 1, none⟩ d1).setCell ⟨b, 2, none⟩ d2).setCell ⟨b, 3, none⟩ d3).setCell ⟨b, 4, none⟩ d4).heap[b]? = some (.cells #[d0, d1, d2, d3, d4] T (0, 0)) :=
  setOne (setOne (setOne (setOne (setOne h 0 d0) 1 d1) 2 d2) 3 d3) 4 d4
/-- The five cells of the result are written last. -/
theorem fin_five {pb : Nat} {a : Option Addr} {cap : Nat} {T : List Tok} {ar : ByteArray} {dep : Int} {r : List Tok} {w w6 : World} (hs : PSt pb a cap T ar dep r w6) (x : But pb w w6) (b : Nat) (hp : pb < b) (hw : w.heap.size ≤ b) (d0 d1 d2 d3 d4 : Value) :
    PSt pb a cap T ar dep r (((((w6.setCell ⟨b, 0, none⟩ d0).setCell ⟨b, 1, none⟩ d1).setCell ⟨b, 2, none⟩ d2).setCell ⟨b, 3, none⟩ d3).setCell ⟨b, 4, none⟩ d4) ∧
    But pb w (((((w6.setCell ⟨b, 0, none⟩ d0).setCell ⟨b, 1, none⟩ d1).setCell ⟨b, 2, none⟩ d2).setCell ⟨b, 3, none⟩ d3).setCell ⟨b, 4, none⟩ d4) ∧
    ∀ g, g ≠ b → (((((w6.setCell ⟨b, 0, none⟩ d0).setCell ⟨b, 1, none⟩ d1).setCell ⟨b, 2, none⟩ d2).setCell ⟨b, 3, none⟩ d3).setCell ⟨b, 4, none⟩ d4).heap[g]? = w6.heap[g]? := by
  refine ⟨(((((hs.far (p := ⟨b, 0, none⟩) hp d0).far (p := ⟨b, 1, none⟩) hp d1).far (p := ⟨b, 2, none⟩) hp d2).far (p := ⟨b, 3, none⟩) hp d3).far (p := ⟨b, 4, none⟩) hp d4),
    but_far (but_far (but_far (but_far (but_far x (p := ⟨b, 0, none⟩) hw d0) (p := ⟨b, 1, none⟩) hw d1) (p := ⟨b, 2, none⟩) hw d2) (p := ⟨b, 3, none⟩) hw d3) (p := ⟨b, 4, none⟩) hw d4, fun g hg => ?_⟩
  rw [Below.heap_setCell _ _ _ _ hg, Below.heap_setCell _ _ _ _ hg, Below.heap_setCell _ _ _ _ hg, Below.heap_setCell _ _ _ _ hg, Below.heap_setCell _ _ _ _ hg]
set_option maxHeartbeats 4000000 in
set_option maxRecDepth 100000 in
theorem stm_set (pb : Nat) (a : Option Addr) (cap : Nat) (T : List Tok) (ar : ByteArray) (dep : Int) (r : List Tok) (w : World) (h : PSt pb a cap T ar dep r w) (hi : isT 2 kSet r = true) :
    Calls Tryz.prog 51 #[.pointer (some ⟨pb, 0, none⟩)] w fun e w' =>
      POut pb a cap T ar dep (fun s u w' => StmV (w.heap.size ≤ ·) s u w') (pSet (lastL T) r.tail) e w' ∧ But pb w w' := by
  obtain ⟨X, hX⟩ : ∃ X, X = pSet (lastL T) r.tail := ⟨_, rfl⟩
  rw [← hX]
  have hx0 := (Ext.refl w).alloc (.cells #[.int .i64 0, .string ⟨#[]⟩, .slice none 0 0, .slice none 0 0, .slice none 0 0] 44)
  have hw0 := heap_alloc_new w (.cells #[.int .i64 0, .string ⟨#[]⟩, .slice none 0 0, .slice none 0 0, .slice none 0 0] 44)
  have hpk := peek_st pb a cap T ar dep r _ (h.ext hx0)
  obtain ⟨e1, e2⟩ := isT_true hi
  generalize hpt : peekT r = t at *
  obtain ⟨tk, tx, tn, tl⟩ := t
  dsimp only at e1 e2
  subst e1; subst e2
  unfold tokV at hpk
  dsimp only at hpk
  have htk := fun w1 (x : PSt pb a cap T ar dep r w1) => take_l pb a cap T ar dep r 2 (by decide) ⟨#[115, 101, 116]⟩ kSet rfl w1 x
  rw [hi, if_pos rfl] at htk
  have HS := Lib.hid h; have HLT := Lib.hid h.lt; have HPK := Lib.hid hpk; have HTK := Lib.hid htk; have HX := Lib.hid hX; have HX0 := Lib.hid hx0; have HW0 := Lib.hid hw0
  clear hpt h hpk htk hX hx0 hw0 hi
  unfold kSet at HPK
  go_enter Tryz.func51, Tryz.ntmps51
  go_wp2_with (first
    | (go_at_call 50; refine HPK.out.mono ?_; rintro e w1 ⟨rfl, x1⟩; have hcl := tok_cells w1 2 ⟨#[115, 101, 116]⟩ tn tl; have x1' := Lib.hid x1)
    | (go_at_call 34; refine (HTK.out _ (HS.out.ext (HX0.out.trans (x1'.out.alloc _)))).mono ?_; rintro e w2 ⟨rfl, hs2, x2⟩; clear hcl))
  have x02 := (But.of (HX0.out.trans (x1'.out.alloc (.cells #[.int .i64 2, .string ⟨#[115, 101, 116]⟩, .int .i64 tn, .int .i64 tl] 86)))).trans x2
  have hh2 := but_heap x2 ((x1'.out.alloc (.cells #[.int .i64 2, .string ⟨#[115, 101, 116]⟩, .int .i64 tn, .int .i64 tl] 86)).block _ (by simp) |>.trans HW0.out) (by have := HLT.out; omega)
  clear x1 x1' x2 HTK HPK HX0 HW0 HS
  have hX1 := HX.out
  unfold pSet at hX1
  have hn1 := name_any pb a cap T ar dep r.tail w2 hs2
  rcases hq : pName (lastL T) r.tail with ⟨nm, r3⟩ | ⟨ln, er⟩ <;> rw [hq] at hn1 hX1 <;> clear hq HX hs2
  · rw [PR.bind_ok] at hX1
    have HX := Lib.hid hX1
    have X02 := Lib.hid x02
    have HH2 := Lib.hid hh2
    clear hX1 x02 hh2
    refine hn1.mono ?_
    rintro e w3 ⟨⟨_, rfl, rfl, hs3⟩, x3⟩
    clear hn1
    have X03 := Lib.hid (X02.out.trans x3)
    have HH3 := Lib.hid (but_heap x3 HH2.out (by have := HLT.out; omega))
    have HS3 := Lib.hid hs3
    clear X02 HH2 x3 hs3
    go_wp2_with fail
    have xa := (Ext.refl w3).alloc (.cells #[.int .i64 4, .string nm, .slice none 0 0, .slice none 0 0, .slice none 0 0] 44)
    have ha5 := heap_alloc_new w3 (.cells #[.int .i64 4, .string nm, .slice none 0 0, .slice none 0 0, .slice none 0 0] 44)
    have hn1 := mark_l pb a cap T ar dep r3 ⟨#[61]⟩ [61] rfl _ (HS3.out.ext xa)
    have hX1 := HX.out
    rcases hq : pMark (lastL T) [61] r3 with ⟨u, r4⟩ | ⟨ln, er⟩ <;> rw [hq] at hn1 hX1 <;> clear hq HX
    · rw [PR.bind_ok] at hX1
      have HX := Lib.hid hX1
      clear hX1
      refine hn1.mono ?_
      rintro e w4 ⟨⟨_, rfl, rfl, hs4⟩, x4⟩
      clear hn1
      have hl3 := X03.out.size
      have hlp := HLT.out
      have hl30 := (Array.getElem?_eq_some_iff.1 HH3.out).1
      have hne5 : w3.heap.size ≠ pb := by omega
      have HNE5 := Lib.hid hne5
      have X04 := Lib.hid ((X03.out.ext xa).trans x4)
      have HH4 := Lib.hid (but_heap x4 (xa.block _ (Array.getElem?_eq_some_iff.1 HH3.out).1 |>.trans HH3.out) (by omega))
      have H54 := Lib.hid (but_heap x4 ha5 hne5)
      have hl4 := x4.size
      rw [World.size_alloc] at hl4
      clear X03 HH3 HS3 x4 xa ha5 hne5
      go_wp2_with fail
      have hn1 := value_any pb a cap T ar dep r4 w4 hs4
      have hX1 := HX.out
      rcases hq : pVal (lastL T) r4 with ⟨v, r5⟩ | ⟨ln, er⟩ <;> rw [hq] at hn1 hX1 <;> clear hq HX hs4
      · rw [PR.bind_ok] at hX1
        have HX := Lib.hid hX1
        clear hX1
        refine hn1.mono ?_
        rintro e w5 ⟨⟨_, rfl, rfl, hs5⟩, x5⟩
        clear hn1
        have hl5 := x5.size
        have X05 := Lib.hid (X04.out.trans x5)
        have HH5 := Lib.hid (but_heap x5 HH4.out (by omega))
        have h55 := but_heap x5 H54.out HNE5.out
        clear X04 HH4 H54 x5
        have ya := (Ext.refl w5).alloc (.cells #[.string ⟨#[]⟩, .string v] 61)
        have hya := heap_alloc_new w5 (.cells #[.string ⟨#[]⟩, .string v] 61)
        have h55a := ya.block _ (Array.getElem?_eq_some_iff.1 h55).1 |>.trans h55
        obtain ⟨z0, z1, z2, z3, z4, g0, g1, g2, g3, g4⟩ := five_cells h55a
        have HYA := Lib.hid hya
        have H55A := Lib.hid h55a
        have HS5 := Lib.hid hs5
        have YA := Lib.hid ya
        clear h55 ya hya h55a hs5
        go_wp2_with fail
        clear z0 z1 z2 z3 z4 g0 g1 g2 g3 g4
        have b5 := setOne H55A.out 3 (.slice (some ⟨w5.heap.size, 0, none⟩) 1 1)
        have b0 := (Below.heap_setCell (w5.alloc (.cells #[.string ⟨#[]⟩, .string v] 61)) ⟨w3.heap.size, 3, none⟩ (.slice (some ⟨w5.heap.size, 0, none⟩) 1 1) w.heap.size (by show w.heap.size ≠ w3.heap.size; omega)).trans ((YA.out.block _ (Array.getElem?_eq_some_iff.1 HH5.out).1).trans HH5.out)
        have ba := (Below.heap_setCell (w5.alloc (.cells #[.string ⟨#[]⟩, .string v] 61)) ⟨w3.heap.size, 3, none⟩ (.slice (some ⟨w5.heap.size, 0, none⟩) 1 1) w5.heap.size (by show w5.heap.size ≠ w3.heap.size; omega)).trans HYA.out
        have hs5' := (HS5.out.ext YA.out).far (p := ⟨w3.heap.size, 3, none⟩) (by show pb < w3.heap.size; omega) (.slice (some ⟨w5.heap.size, 0, none⟩) 1 1)
        have x05' := but_far (X05.out.ext YA.out) (p := ⟨w3.heap.size, 3, none⟩) (by show w.heap.size ≤ w3.heap.size; omega) (.slice (some ⟨w5.heap.size, 0, none⟩) 1 1)
        have hn1 := mark_l pb a cap T ar dep r5 ⟨#[59]⟩ [59] rfl _ hs5'
        have hX1 := HX.out
        rcases hq : pMark (lastL T) [59] r5 with ⟨u, r6⟩ | ⟨ln, er⟩ <;> rw [hq] at hn1 hX1 <;> clear hq HX hs5' HS5
        · rw [PR.bind_ok] at hX1
          have HX := Lib.hid hX1
          clear hX1
          refine hn1.mono ?_
          rintro e w6 ⟨⟨_, rfl, rfl, hs6⟩, x6⟩
          clear hn1
          have k5 := but_heap x6 b5 HNE5.out
          have k0 := but_heap x6 b0 (by omega)
          have KA := Lib.hid (but_heap x6 ba (by omega))
          have X06 := Lib.hid (x05'.trans x6)
          have HS6 := Lib.hid hs6
          have hl6 := x6.size
          have HZ := Lib.hid (set_five k0 (.int .i64 4) (.string nm) (.slice none 0 0) (.slice (some ⟨w5.heap.size, 0, none⟩) 1 1) (.slice none 0 0))
          obtain ⟨z0, z1, z2, z3, z4, g0, g1, g2, g3, g4⟩ := five_cells k5
          obtain ⟨y0, y1, y2, y3, y4, f0, f1, f2, f3, f4⟩ := five_cells k0
          have hlw := X05.out.size
          clear k5 k0 b5 b0 ba x05' x6 hs6 X05 HH5 HYA H55A YA hl6
          have z0' : w6.cell? ⟨w3.heap.size, 0, none⟩ = some (.int .i64 4) := z0
          have z1' : w6.cell? ⟨w3.heap.size, 1, none⟩ = some (.string nm) := z1
          have z2' : w6.cell? ⟨w3.heap.size, 2, none⟩ = some (.slice none 0 0) := z2
          have z3' : w6.cell? ⟨w3.heap.size, 3, none⟩ = some (.slice (some ⟨w5.heap.size, 0, none⟩) 1 1) := z3
          have z4' : w6.cell? ⟨w3.heap.size, 4, none⟩ = some (.slice none 0 0) := z4
          clear z0 z1 z2 z3 z4
          go_wp2
          refine bodyPost_ret (results_cell_row rfl _ _ w.heap.size 44 #[.int .i64 4, .string nm, .slice none 0 0, .slice (some ⟨w5.heap.size, 0, none⟩) 1 1, .slice none 0 0] (0, 0) _ rfl HZ.out Tryz.underlying44 rfl size_stm) rfl ?_
          obtain ⟨F1, F2, F3⟩ := fin_five HS6.out X06.out w.heap.size hlp (Nat.le_refl _) (.int .i64 4) (.string nm) (.slice none 0 0) (.slice (some ⟨w5.heap.size, 0, none⟩) 1 1) (.slice none 0 0)
          have kz := (F3 w5.heap.size (by omega)).trans KA.out
          rw [HX.out]
          refine ⟨⟨_, rfl, ⟨[.int .i64 4, .string nm, .slice none 0 0, .slice (some ⟨w5.heap.size, 0, none⟩) 1 1, .slice none 0 0], rfl, ?_⟩, F1⟩, F2⟩
          rw [StmP]
          refine ⟨none, 0, some ⟨w5.heap.size, 0, none⟩, 1, none, 0, rfl, fun k hk => absurd hk (by simp), fun k hk => ?_, by rw [StmsP]; trivial, by simp, by simp, by simp, by decide, by simp⟩
          have hk0 : k = 0 := by simpa using hk
          subst hk0
          refine ⟨w5.heap.size, 0, rfl, by show w.heap.size ≤ w5.heap.size; omega, ?_, ?_⟩ <;> rw [Lib.cell_of_heap kz] <;> rfl
        · rw [PR.bind_err] at hX1
          have HX := Lib.hid hX1
          clear hX1
          refine hn1.mono ?_
          rintro e w6 ⟨rfl, x6⟩
          clear hn1
          unfold failE
          go_wp2
          exact ⟨rfl, by rw [HX.out]; exact rfl, x05'.trans x6⟩
      · rw [PR.bind_err] at hX1
        have HX := Lib.hid hX1
        clear hX1
        refine hn1.mono ?_
        rintro e w5 ⟨rfl, x5⟩
        clear hn1
        unfold failE
        go_wp2
        exact ⟨rfl, by rw [HX.out]; exact rfl, X04.out.trans x5⟩
    · rw [PR.bind_err] at hX1
      have HX := Lib.hid hX1
      clear hX1
      refine hn1.mono ?_
      rintro e w4 ⟨rfl, x4⟩
      clear hn1
      unfold failE
      go_wp2
      exact ⟨rfl, by rw [HX.out]; exact rfl, (X03.out.ext xa).trans x4⟩
  · rw [PR.bind_err] at hX1
    have HX := Lib.hid hX1
    have X02 := Lib.hid x02
    clear hX1 x02 hh2
    refine hn1.mono ?_
    rintro e w3 ⟨rfl, x3⟩
    clear hn1
    unfold failE
    go_wp2
    exact ⟨rfl, by rw [HX.out]; exact rfl, X02.out.trans x3⟩
end Go.Proofs.YtmallladeidkpaaGreatDoor.Pa

/- The parser's statement, where it begins with cluster. -/
namespace Go.Proofs.YtmallladeidkpaaGreatDoor.Pa
open Go.RowKit Go.Sort Go.Lib Go.Shelf Fx Lx Tr

theorem isT_other {x y : List UInt8} {r : List Tok} (h : isT 2 x r = true) (hxy : x ≠ y) : isT 2 y r = false := by
  obtain ⟨e1, e2⟩ := isT_true h
  rw [isT_peek 2 y r (by decide), e2, decide_eq_false hxy, Bool.and_false]
set_option maxHeartbeats 4000000 in
set_option maxRecDepth 100000 in
theorem stm_clus (pb : Nat) (a : Option Addr) (cap : Nat) (T : List Tok) (ar : ByteArray) (f : Nat) (hB : BlockC pb a cap T ar f) (dep : Nat) (hdep : dep ≤ 6) (r : List Tok) (hf : 2 * r.length ≤ f + 1) (w : World) (h : PSt pb a cap T ar dep r w) (hi : isT 2 kClus r = true) :
    Calls Tryz.prog 51 #[.pointer (some ⟨pb, 0, none⟩)] w fun e w' =>
      POut pb a cap T ar dep (fun s u w' => StmV (w.heap.size ≤ ·) s u w') ((pName (lastL T) r.tail).bind fun n r => (pBlock (lastL T) ar.data.toList f (dep + 1) r).bind fun b r => PR.ok (Stm.mk 5 n [] [] b) r) e w' ∧ But pb w w' := by
  obtain ⟨X, hX⟩ : ∃ X, X = (pName (lastL T) r.tail).bind fun n r => (pBlock (lastL T) ar.data.toList f (dep + 1) r).bind fun b r => PR.ok (Stm.mk 5 n [] [] b) r := ⟨_, rfl⟩
  rw [← hX]
  have hx0 := (Ext.refl w).alloc (.cells #[.int .i64 0, .string ⟨#[]⟩, .slice none 0 0, .slice none 0 0, .slice none 0 0] 44)
  have hw0 := heap_alloc_new w (.cells #[.int .i64 0, .string ⟨#[]⟩, .slice none 0 0, .slice none 0 0, .slice none 0 0] 44)
  have hpk := peek_st pb a cap T ar dep r _ (h.ext hx0)
  obtain ⟨e1, e2⟩ := isT_true hi
  have htk := fun w1 (x : PSt pb a cap T ar dep r w1) => take_l pb a cap T ar dep r 2 (by decide) ⟨#[99, 108, 117, 115, 116, 101, 114]⟩ kClus rfl w1 x
  rw [hi, if_pos rfl] at htk
  have hts := fun w1 (x : PSt pb a cap T ar dep r w1) => take_l pb a cap T ar dep r 2 (by decide) ⟨#[115, 101, 116]⟩ kSet rfl w1 x
  rw [isT_other hi (by decide), if_neg (by decide)] at hts
  have hl0 := isT_cons hi
  generalize hpt : peekT r = t at *
  obtain ⟨tk, tx, tn, tl⟩ := t
  dsimp only at e1 e2
  subst e1; subst e2
  unfold tokV at hpk
  dsimp only at hpk
  have HS := Lib.hid h; have HLT := Lib.hid h.lt; have HPK := Lib.hid hpk; have HTK := Lib.hid htk; have HTS := Lib.hid hts; have HX := Lib.hid hX; have HX0 := Lib.hid hx0; have HW0 := Lib.hid hw0; have HB := Lib.hid hB
  clear hpt h hpk htk hts hX hx0 hw0 hi hB
  unfold kClus at HPK
  go_enter Tryz.func51, Tryz.ntmps51
  go_wp2_with (first
    | (go_at_call 50; refine HPK.out.mono ?_; rintro e w1 ⟨rfl, x1⟩; have hcl := tok_cells w1 2 ⟨#[99, 108, 117, 115, 116, 101, 114]⟩ tn tl; have x1' := Lib.hid x1)
    | (go_at_call 34; refine (HTK.out _ hs2.out).mono ?_; rintro e w3 ⟨rfl, hs3, x3⟩; replace hs3 := Lib.hid hs3; replace x3 := Lib.hid x3)
    | (go_at_call 34; refine (HTS.out _ (HS.out.ext (HX0.out.trans (x1'.out.alloc _)))).mono ?_; rintro e w2 ⟨rfl, hs2, x2⟩; clear hcl; replace hs2 := Lib.hid hs2; replace x2 := Lib.hid x2))
  have x23 := x2.out.trans x3.out
  have x03 := (But.of (HX0.out.trans (x1'.out.alloc (.cells #[.int .i64 2, .string ⟨#[99, 108, 117, 115, 116, 101, 114]⟩, .int .i64 tn, .int .i64 tl] 86)))).trans x23
  have hh3 := but_heap x23 ((x1'.out.alloc (.cells #[.int .i64 2, .string ⟨#[99, 108, 117, 115, 116, 101, 114]⟩, .int .i64 tn, .int .i64 tl] 86)).block _ (by simp) |>.trans HW0.out) (by have := HLT.out; omega)
  have hs3' := hs3.out
  clear x1 x1' x2 x3 x23 HTK HTS HPK HX0 HW0 HS hs2 hs3
  have hX1 := HX.out
  have hn1 := name_any pb a cap T ar dep r.tail w3 hs3'
  rcases hq : pName (lastL T) r.tail with ⟨nm, r4⟩ | ⟨ln, er⟩ <;> rw [hq] at hn1 hX1
  · have hl4 := pName_len hq
    clear hq HX hs3'
    rw [PR.bind_ok] at hX1
    have HX := Lib.hid hX1
    clear hX1
    refine hn1.mono ?_
    rintro e w4 ⟨⟨_, rfl, rfl, hs4⟩, x4⟩
    clear hn1
    have hlp := HLT.out
    have X04 := Lib.hid (x03.trans x4)
    have HH4 := Lib.hid (but_heap x4 hh3 (by omega))
    have hl40 := (Array.getElem?_eq_some_iff.1 HH4.out).1
    have hbk : Calls Tryz.prog 36 #[.pointer (some ⟨pb, 0, none⟩), .int .i64 1] w4 fun e w' =>
        POut pb a cap T ar dep (fun L u w' => StmsV (w4.heap.size ≤ ·) L u w') (pBlock (lastL T) ar.data.toList f (dep + 1) r4) e w' ∧ But pb w4 w' := HB.out dep 1 r4 w4 hdep (Nat.le_refl _) (by omega) hs4
    clear x03 hh3 x4 hs4
    go_wp2_with fail
    have hX1 := HX.out
    rcases hq : pBlock (lastL T) ar.data.toList f (dep + 1) r4 with ⟨L, r5⟩ | ⟨ln, er⟩ <;> rw [hq] at hbk hX1 <;> clear hq HX
    · rw [PR.bind_ok] at hX1
      have HX := Lib.hid hX1
      clear hX1
      refine hbk.mono ?_
      rintro e w5 ⟨⟨_, rfl, ⟨lb, lc, rfl, hsp, hlc1, hlc2⟩, hs5⟩, x5⟩
      clear hbk
      have hl5 := x5.size
      have X05 := Lib.hid (X04.out.trans x5)
      have k0 := but_heap x5 HH4.out (by omega)
      have HS5 := Lib.hid hs5
      have HSP := Lib.hid hsp
      have hlc1' := Lib.hid hlc1
      have hlc2' := Lib.hid hlc2
      have HZ := Lib.hid (set_five k0 (.int .i64 5) (.string nm) (.slice none 0 0) (.slice none 0 0) (.slice lb L.length lc))
      obtain ⟨y0, y1, y2, y3, y4, f0, f1, f2, f3, f4⟩ := five_cells k0
      clear k0 X04 HH4 x5 hs5 hsp hlc1 hlc2
      go_wp2
      refine bodyPost_ret (results_cell_row rfl _ _ w.heap.size 44 #[.int .i64 5, .string nm, .slice none 0 0, .slice none 0 0, .slice lb L.length lc] (0, 0) _ rfl HZ.out Tryz.underlying44 rfl size_stm) rfl ?_
      obtain ⟨F1, F2, F3⟩ := fin_five HS5.out X05.out w.heap.size hlp (Nat.le_refl _) (.int .i64 5) (.string nm) (.slice none 0 0) (.slice none 0 0) (.slice lb L.length lc)
      rw [HX.out]
      refine ⟨⟨_, rfl, ⟨[.int .i64 5, .string nm, .slice none 0 0, .slice none 0 0, .slice lb L.length lc], rfl, ?_⟩, F1⟩, F2⟩
      have hsp' := StmsP.keep (ok' := (w.heap.size ≤ ·)) (fun g hg _ => F3 g (by have hg : w4.heap.size ≤ g := hg; omega)) (fun g hg _ => by have hg : w4.heap.size ≤ g := hg; show w.heap.size ≤ g; omega) L lb HSP.out
      rw [StmP]
      exact ⟨none, 0, none, 0, lb, lc, rfl, fun k hk => absurd hk (by simp), fun k hk => absurd hk (by simp), hsp', by simp, by simp, by simp, by simp, by have := hlc1'.out; have := hlc2'.out; omega⟩
    · rw [PR.bind_err] at hX1
      have HX := Lib.hid hX1
      clear hX1
      refine hbk.mono ?_
      rintro e w5 ⟨rfl, x5⟩
      clear hbk
      unfold failE
      go_wp2
      exact ⟨rfl, by rw [HX.out]; exact rfl, X04.out.trans x5⟩
  · clear hq HX
    rw [PR.bind_err] at hX1
    have HX := Lib.hid hX1
    clear hX1
    refine hn1.mono ?_
    rintro e w4 ⟨rfl, x4⟩
    clear hn1
    unfold failE
    go_wp2
    exact ⟨rfl, by rw [HX.out]; exact rfl, x03.trans x4⟩
end Go.Proofs.YtmallladeidkpaaGreatDoor.Pa

/- The parser's source: a whole tree. -/
namespace Go.Proofs.YtmallladeidkpaaGreatDoor.Pa
open Go.RowKit Go.Sort Go.Lib Go.Shelf Fx Lx Tr

def zero3 : Obj := .cells #[.string ⟨#[]⟩, .bool false, .slice none 0 0] 24
theorem size_tree : (Tryz.prog.info? 24).map (·.size) = some 3 := by kernel_rfl
theorem three_cells {w : World} {c0 c1 c2 : Value} {b : Nat} {T : TypeId} (h : w.heap[b]? = some (.cells #[c0, c1, c2] T (0, 0))) :
    w.cell? ⟨b, 0, none⟩ = some c0 ∧ w.cell? ⟨b, 1, none⟩ = some c1 ∧ w.cell? ⟨b, 2, none⟩ = some c2 ∧
      w.frozen? ⟨b, 0, none⟩ = false ∧ w.frozen? ⟨b, 1, none⟩ = false ∧ w.frozen? ⟨b, 2, none⟩ = false := by
  refine ⟨?_, ?_, ?_, Lib.frozen_of_heap h 0, Lib.frozen_of_heap h 1, Lib.frozen_of_heap h 2⟩ <;> rw [Lib.cell_of_heap h] <;> rfl
theorem set_three {w : World} {c0 c1 c2 : Value} {b : Nat} {T : TypeId} (h : w.heap[b]? = some (.cells #[c0, c1, c2] T (0, 0))) (d0 d1 d2 : Value) :
    (((w.setCell ⟨b, 0, none⟩ d0).setCell ⟨b, 1, none⟩ d1).setCell ⟨b, 2, none⟩ d2).heap[b]? = some (.cells #[d0, d1, d2] T (0, 0)) :=
  setOne (setOne (setOne h 0 d0) 1 d1) 2 d2
theorem fin_three {pb : Nat} {a : Option Addr} {cap : Nat} {T : List Tok} {ar : ByteArray} {dep : Int} {r : List Tok} {w w6 : World} (hs : PSt pb a cap T ar dep r w6) (x : But pb w w6) (b : Nat) (hp : pb < b) (hw : w.heap.size ≤ b) (d0 d1 d2 : Value) :
    PSt pb a cap T ar dep r (((w6.setCell ⟨b, 0, none⟩ d0).setCell ⟨b, 1, none⟩ d1).setCell ⟨b, 2, none⟩ d2) ∧
    But pb w (((w6.setCell ⟨b, 0, none⟩ d0).setCell ⟨b, 1, none⟩ d1).setCell ⟨b, 2, none⟩ d2) ∧
    ∀ g, g ≠ b → (((w6.setCell ⟨b, 0, none⟩ d0).setCell ⟨b, 1, none⟩ d1).setCell ⟨b, 2, none⟩ d2).heap[g]? = w6.heap[g]? := by
  refine ⟨(((hs.far (p := ⟨b, 0, none⟩) hp d0).far (p := ⟨b, 1, none⟩) hp d1).far (p := ⟨b, 2, none⟩) hp d2),
    but_far (but_far (but_far x (p := ⟨b, 0, none⟩) hw d0) (p := ⟨b, 1, none⟩) hw d1) (p := ⟨b, 2, none⟩) hw d2, fun g hg => ?_⟩
  rw [Below.heap_setCell _ _ _ _ hg, Below.heap_setCell _ _ _ _ hg, Below.heap_setCell _ _ _ _ hg]
theorem PSt.arrow {pb : Nat} {a : Option Addr} {cap : Nat} {T : List Tok} {ar : ByteArray} {dep : Int} {r : List Tok} {w : World} (h : PSt pb a cap T ar dep r w) (ar' : ByteArray) :
    w.frozen? ⟨pb, 2, none⟩ = false ∧ PSt pb a cap T ar' dep r (w.setCell ⟨pb, 2, none⟩ (.string ar')) ∧ But pb w (w.setCell ⟨pb, 2, none⟩ (.string ar')) := by
  obtain ⟨k, hk, hn, hd, hc, ht, he, hm⟩ := h
  have hb : But pb w (w.setCell ⟨pb, 2, none⟩ (.string ar')) := (But.refl pb w).setCell ⟨pb, 2, none⟩ rfl _
  exact ⟨hc.cells.2.2.2.2 2, ⟨k, hk, hn, hd, hc.arrow ar', ht.but hb, he.but hb, hm⟩, hb⟩
/-- A tree's three cells, and what they lead to. -/
def TreeV (ok : Nat → Prop) (t : Bool × ByteArray × List Stm) (u : Value) (w : World) : Prop :=
  ∃ b cap, u = .agg #[.string t.2.1, .bool t.1, .slice b t.2.2.length cap] ∧ StmsP ok w b t.2.2 ∧ t.2.2.length ≤ cap ∧ cap ≤ maxLen
def SOut (pb : Nat) (a : Option Addr) (cap : Nat) (T : List Tok) {α : Type} (V : α → Value → World → Prop) (x : PR α) (e : Ending) (w' : World) : Prop := match x with
  | .ok v r => ∃ u, e = .returned u ∧ V v u w' ∧ ∃ ar, PSt pb a cap T ar 0 r w'
  | .err ln er => e = failE ln er
/-- The tree's variable, and the parser behind the word at its head. -/
def SrcAt (pb : Nat) (a : Option Addr) (cap : Nat) (T : List Tok) (ar : ByteArray) (r : List Tok) (w : World) (b : Nat) (nm : ByteArray) (d : Bool) (wx : World) : Prop :=
  PSt pb a cap T ar 0 r wx ∧ But pb w wx ∧ wx.heap[w.heap.size]? = some zero3 ∧ w.heap.size < b ∧ wx.heap[b]? = some (.cells #[.string nm, .bool d, .slice none 0 0] 24 (0, 0))
theorem SrcAt.but {pb : Nat} {a : Option Addr} {cap : Nat} {T : List Tok} {ar : ByteArray} {r r' : List Tok} {w : World} {b : Nat} {nm : ByteArray} {d : Bool} {w1 w2 : World} (h : SrcAt pb a cap T ar r w b nm d w1) (hp : pb < w.heap.size) (hs : PSt pb a cap T ar 0 r' w2) (x : But pb w1 w2) : SrcAt pb a cap T ar r' w b nm d w2 :=
  ⟨hs, h.2.1.trans x, but_heap x h.2.2.1 (by omega), h.2.2.2.1, but_heap x h.2.2.2.2 (by have := h.2.2.2.1; omega)⟩
theorem SrcAt.name {pb : Nat} {a : Option Addr} {cap : Nat} {T : List Tok} {ar : ByteArray} {r : List Tok} {w : World} {b : Nat} {nm : ByteArray} {d : Bool} {w1 : World} (h : SrcAt pb a cap T ar r w b nm d w1) (hp : pb < w.heap.size) (nm' : ByteArray) : SrcAt pb a cap T ar r w b nm' d (w1.setCell ⟨b, 0, none⟩ (.string nm')) := by
  obtain ⟨h1, h2, h3, h4, h5⟩ := h
  exact ⟨h1.far (p := ⟨b, 0, none⟩) (by show pb < b; omega) _, but_far h2 (p := ⟨b, 0, none⟩) (by show w.heap.size ≤ b; omega) _, (Below.heap_setCell w1 ⟨b, 0, none⟩ _ _ (by show w.heap.size ≠ b; omega)).trans h3, h4, setOne h5 0 _⟩
/-- Behind the head: the name, the block. -/
def srcTail (last : Int) (d : Bool) (ar : List UInt8) (f : Nat) (r : List Tok) : PR (Bool × ByteArray × List Stm) := (pName last r).bind fun n r => (pBlock last ar f 0 r).bind fun b r => .ok (d, n, b) r
theorem src_start {pb : Nat} {a : Option Addr} {cap : Nat} {T : List Tok} {ar ar' : ByteArray} {r : List Tok} {w w1 : World} {d : Bool} (hlp : pb < w.heap.size) (hs : PSt pb a cap T ar 0 r w1) (x : But pb (w.alloc zero3) w1) :
    w.heap.size < w1.heap.size ∧ SrcAt pb a cap T ar' r w w1.heap.size ⟨#[]⟩ d ((w1.setCell ⟨pb, 2, none⟩ (.string ar')).alloc (.cells #[.string ⟨#[]⟩, .bool d, .slice none 0 0] 24)) := by
  have hl := x.size
  rw [World.size_alloc] at hl
  obtain ⟨_, hs', xb⟩ := hs.arrow ar'
  have hx := (Ext.refl (w1.setCell ⟨pb, 2, none⟩ (.string ar'))).alloc (.cells #[.string ⟨#[]⟩, .bool d, .slice none 0 0] 24)
  have k := but_heap (x.trans xb) (heap_alloc_new w zero3) (by omega)
  have h2 := heap_alloc_new (w1.setCell ⟨pb, 2, none⟩ (.string ar')) (.cells #[.string ⟨#[]⟩, .bool d, .slice none 0 0] 24)
  have hz : (w1.setCell ⟨pb, 2, none⟩ (.string ar')).heap.size = w1.heap.size := by simp
  rw [hz] at h2
  exact ⟨by omega, hs'.ext hx, (But.of ((Ext.refl w).alloc zero3)).trans ((x.trans xb).trans (But.of hx)), (hx.block _ (by rw [hz]; omega)).trans k, by omega, h2⟩
theorem SrcAt.arrow {pb : Nat} {a : Option Addr} {cap : Nat} {T : List Tok} {ar : ByteArray} {r : List Tok} {w : World} {b : Nat} {nm : ByteArray} {d : Bool} {w1 : World} (h : SrcAt pb a cap T ar r w b nm d w1) (hp : pb < w.heap.size) (ar' : ByteArray) : SrcAt pb a cap T ar' r w b nm d (w1.setCell ⟨pb, 2, none⟩ (.string ar')) := by
  obtain ⟨g1, g2, g3, g4, g5⟩ := h
  obtain ⟨_, h2, h3⟩ := g1.arrow ar'
  exact ⟨h2, g2.trans h3, but_heap h3 g3 (by omega), g4, but_heap h3 g5 (by omega)⟩
set_option maxHeartbeats 4000000 in
set_option maxRecDepth 100000 in
theorem source_any (pb : Nat) (a : Option Addr) (cap : Nat) (T : List Tok) (hB : ∀ ar f, BlockC pb a cap T ar f) (f : Nat) (r : List Tok) (hf : 2 * r.length + 3 ≤ f) (ar : ByteArray) (w : World) (h : PSt pb a cap T ar 0 r w) :
    Calls Tryz.prog 22 #[.pointer (some ⟨pb, 0, none⟩)] w fun e w' =>
      SOut pb a cap T (fun t u w' => TreeV (w.heap.size ≤ ·) t u w') (pTree (lastL T) f r) e w' ∧ But pb w w' := by
  obtain ⟨X, hX⟩ : ∃ X, X = pTree (lastL T) f r := ⟨_, rfl⟩
  rw [← hX]
  have hlp := h.lt
  have htk := take_l pb a cap T ar 0 r 2 (by decide) ⟨#[100, 105, 103, 114, 97, 112, 104]⟩ [100, 105, 103, 114, 97, 112, 104] rfl _ (h.ext ((Ext.refl w).alloc zero3))
  unfold pTree at hX
  unfold zero3 at htk
  cases hi : isT 2 [100, 105, 103, 114, 97, 112, 104] r
  · rw [hi, if_neg (by decide)] at htk
    rw [if_neg (by rw [hi]; decide)] at hX
    have hth := fun w1 (x : PSt pb a cap T ⟨#[45, 62]⟩ 0 r w1) => take_l pb a cap T ⟨#[45, 62]⟩ 0 r 2 (by decide) ⟨#[103, 114, 97, 112, 104]⟩ [103, 114, 97, 112, 104] rfl w1 x
    have HLT := Lib.hid hlp; have HTK := Lib.hid htk; have HB := Lib.hid hB
    cases hj : isT 2 [103, 114, 97, 112, 104] r
    · rw [hj, if_neg (by decide)] at hth
      rw [if_neg (by rw [hj]; decide)] at hX
      have HX := Lib.hid hX; have HTH := Lib.hid hth
      clear h htk hX hi hB hlp hth hj
      go_enter Tryz.func22, Tryz.ntmps22
      go_wp2_with (first
        | (go_at_call 33; refine (fail_any pb a cap T ⟨#[45, 62]⟩ 0 r 4 w2 hs2.out).mono ?_; rintro e w3 ⟨rfl, x3⟩; unfold failE)
        | (go_at_call 34; refine (HTH.out _ HA.out.1).mono ?_; rintro e w2 ⟨rfl, hs2, x2⟩; replace hs2 := Lib.hid hs2; replace x2 := Lib.hid x2)
        | (go_at_call 34; refine HTK.out.mono ?_; rintro e w1 ⟨rfl, hs1, x1⟩; obtain ⟨hlt1, hA⟩ := src_start (d := false) (ar' := ⟨#[45, 62]⟩) HLT.out hs1 x1; have hpw : pb < w1.heap.size := Nat.lt_trans HLT.out hlt1; have p2 := hs1.dep_cell.2.2; have p3 := (hs1.arrow ⟨#[45, 62]⟩).1; obtain ⟨y0, y1, y2, f0, f1, f2⟩ := three_cells hA.2.2.2.2; have HA := Lib.hid hA; clear hA hs1 x1 HTK))
      go_wp2
      exact ⟨rfl, by rw [HX.out]; exact rfl, (HA.out.2.1.trans x2.out).ext x3⟩
    · rw [hj, if_pos rfl] at hth
      rw [if_pos hj] at hX
      have hl0 := isT_cons hj
      have HX := Lib.hid hX; have HTH := Lib.hid hth
      clear h htk hX hi hB hlp hth hj
      go_enter Tryz.func22, Tryz.ntmps22
      go_wp2_with (first
        | (go_at_call 34; refine (HTH.out _ HA.out.1).mono ?_; rintro e w2 ⟨rfl, hs2, x2⟩; have hA2 := HA.out.but HLT.out hs2 x2; have q2 := hA2.1.dep_cell.2.2; have q3 := (hA2.1.arrow ⟨#[45, 45]⟩).1; replace HA := Lib.hid (hA2.arrow HLT.out ⟨#[45, 45]⟩); clear hA2 hs2 x2)
        | (go_at_call 34; refine HTK.out.mono ?_; rintro e w1 ⟨rfl, hs1, x1⟩; obtain ⟨hlt1, hA⟩ := src_start (d := false) (ar' := ⟨#[45, 62]⟩) HLT.out hs1 x1; have hpw : pb < w1.heap.size := Nat.lt_trans HLT.out hlt1; have p2 := hs1.dep_cell.2.2; have p3 := (hs1.arrow ⟨#[45, 62]⟩).1; obtain ⟨y0, y1, y2, f0, f1, f2⟩ := three_cells hA.2.2.2.2; have HA := Lib.hid hA; clear hA hs1 x1 HTK))
      have hX1 := HX.out
      have hA := HA.out
      have hn1 := name_any pb a cap T ⟨#[45, 45]⟩ 0 r.tail _ hA.1
      rcases hq : pName (lastL T) r.tail with ⟨nm, r4⟩ | ⟨ln, er⟩ <;> rw [hq] at hn1 hX1
      · have hl4 := pName_len hq
        rw [PR.bind_ok] at hX1
        refine hn1.mono ?_
        rintro e w4 ⟨⟨_, rfl, rfl, hs4⟩, x4⟩
        have hlp := HLT.out
        have hA4 := hA.but hlp hs4 x4
        have HA4 := Lib.hid (hA4.name hlp nm)
        obtain ⟨y0, y1, y2, f0, f1, f2⟩ := three_cells hA4.2.2.2.2
        obtain ⟨W4, hW4⟩ : ∃ W4, W4 = w4.setCell ⟨w1.heap.size, 0, none⟩ (.string nm) := ⟨_, rfl⟩
        have hbk : Calls Tryz.prog 36 #[.pointer (some ⟨pb, 0, none⟩), .int .i64 0] W4 fun e w' =>
            POut pb a cap T ⟨#[45, 45]⟩ 0 (fun L u w' => StmsV (W4.heap.size ≤ ·) L u w') (pBlock (lastL T) [45, 45] f (0 + 0) r4) e w' ∧ But pb W4 w' := HB.out ⟨#[45, 45]⟩ f 0 0 r4 W4 (by omega) (by omega) (by omega) (by rw [hW4]; exact HA4.out.1)
        rw [hW4] at hbk
        have hl44 := hA4.2.2.2.1
        have hl45 := (Array.getElem?_eq_some_iff.1 HA4.out.2.2.2.2).1
        clear hq HX hA HA hn1 hA4 x4 hs4 hW4 W4
        go_wp2_with fail
        rcases hq : pBlock (lastL T) [45, 45] f (0 + 0) r4 with ⟨L, r5⟩ | ⟨ln, er⟩ <;> rw [hq] at hbk hX1 <;> clear hq
        · rw [PR.bind_ok] at hX1
          refine hbk.mono ?_
          rintro e w5 ⟨⟨_, rfl, ⟨lb, lc, rfl, hsp, hlc1, hlc2⟩, hs5⟩, x5⟩
          have hl5 := x5.size
          have hA5 := HA4.out.but hlp hs5 x5
          have hX5 := HA4.out.2.1.trans x5
          have k0 := hA5.2.2.1
          have k1 := hA5.2.2.2.2
          have hbw : w.heap.size ≠ w1.heap.size := by omega
          unfold zero3 at k0
          have b1 := setOne k1 2 (.slice lb L.length lc)
          have b0 := (Below.heap_setCell w5 ⟨w1.heap.size, 2, none⟩ (.slice lb L.length lc) w.heap.size hbw).trans k0
          have HZ := Lib.hid (set_three b0 (.string nm) (.bool false) (.slice lb L.length lc))
          obtain ⟨y0, y1, y2, f0, f1, f2⟩ := three_cells k1
          obtain ⟨z0, z1, z2, g0, g1, g2⟩ := three_cells b0
          obtain ⟨v0, v1, v2, e0, e1, e2⟩ := three_cells b1
          have HX := Lib.hid hX1; have HS5 := Lib.hid hs5; have HX5 := Lib.hid hX5; have HSP := Lib.hid hsp
          have HL1 := Lib.hid hlc1; have HL2 := Lib.hid hlc2
          clear hbk hX1 hs5 x5 hA5 hX5 k0 k1 b0 b1 hsp hlc1 hlc2
          go_wp2
          refine bodyPost_ret (results_cell_row rfl _ _ w.heap.size 24 #[.string nm, .bool false, .slice lb L.length lc] (0, 0) _ rfl HZ.out Tryz.underlying24 rfl size_tree) rfl ?_
          have hs' := HS5.out.far (p := ⟨w1.heap.size, 2, none⟩) (by show pb < w1.heap.size; omega) (.slice lb L.length lc)
          have x' := but_far HX5.out (p := ⟨w1.heap.size, 2, none⟩) (by show w.heap.size ≤ w1.heap.size; omega) (.slice lb L.length lc)
          obtain ⟨F1, F2, F3⟩ := fin_three hs' x' w.heap.size hlp (Nat.le_refl _) (.string nm) (.bool false) (.slice lb L.length lc)
          rw [HX.out]
          refine ⟨⟨_, rfl, ⟨lb, lc, rfl, ?_, HL1.out, HL2.out⟩, _, F1⟩, F2⟩
          have hz : (w4.setCell ⟨w1.heap.size, 0, none⟩ (.string nm)).heap.size = w4.heap.size := by simp
          rw [hz] at hl5 hl45
          exact StmsP.keep (ok' := (w.heap.size ≤ ·)) (fun g hg _ => by
            have hg : (w4.setCell ⟨w1.heap.size, 0, none⟩ (.string nm)).heap.size ≤ g := hg
            rw [hz] at hg
            exact (F3 g (by omega)).trans (Below.heap_setCell w5 ⟨w1.heap.size, 2, none⟩ _ g (by show g ≠ w1.heap.size; omega))) (fun g hg _ => by
            have hg : (w4.setCell ⟨w1.heap.size, 0, none⟩ (.string nm)).heap.size ≤ g := hg
            rw [hz] at hg
            show w.heap.size ≤ g; omega) L lb HSP.out
        · rw [PR.bind_err] at hX1
          have HX := Lib.hid hX1
          clear hX1
          refine hbk.mono ?_
          rintro e w5 ⟨rfl, x5⟩
          clear hbk
          unfold failE
          go_wp2
          exact ⟨rfl, by rw [HX.out]; exact rfl, HA4.out.2.1.trans x5⟩
      · rw [PR.bind_err] at hX1
        have HX := Lib.hid hX1
        have X0 := hA.2.1
        clear hX1 hq
        refine hn1.mono ?_
        rintro e w4 ⟨rfl, x4⟩
        clear hn1
        unfold failE
        go_wp2
        exact ⟨rfl, by rw [HX.out]; exact rfl, X0.trans x4⟩
  · rw [hi, if_pos rfl] at htk
    rw [if_pos hi] at hX
    have hl0 := isT_cons hi
    have HLT := Lib.hid hlp; have HTK := Lib.hid htk; have HX := Lib.hid hX; have HB := Lib.hid hB
    clear h htk hX hi hB hlp
    go_enter Tryz.func22, Tryz.ntmps22
    go_wp2_with (go_at_call 34; refine HTK.out.mono ?_; rintro e w1 ⟨rfl, hs1, x1⟩; obtain ⟨hlt1, hA⟩ := src_start (d := true) (ar' := ⟨#[45, 62]⟩) HLT.out hs1 x1; have hpw : pb < w1.heap.size := Nat.lt_trans HLT.out hlt1; have p2 := hs1.dep_cell.2.2; have p3 := (hs1.arrow ⟨#[45, 62]⟩).1; obtain ⟨y0, y1, y2, f0, f1, f2⟩ := three_cells hA.2.2.2.2; have HA := Lib.hid hA; clear hA hs1 x1 HTK)
    have hX1 := HX.out
    have hA := HA.out
    have hn1 := name_any pb a cap T ⟨#[45, 62]⟩ 0 r.tail _ hA.1
    rcases hq : pName (lastL T) r.tail with ⟨nm, r4⟩ | ⟨ln, er⟩ <;> rw [hq] at hn1 hX1
    · have hl4 := pName_len hq
      rw [PR.bind_ok] at hX1
      refine hn1.mono ?_
      rintro e w4 ⟨⟨_, rfl, rfl, hs4⟩, x4⟩
      have hlp := HLT.out
      have hA4 := hA.but hlp hs4 x4
      have HA4 := Lib.hid (hA4.name hlp nm)
      obtain ⟨y0, y1, y2, f0, f1, f2⟩ := three_cells hA4.2.2.2.2
      obtain ⟨W4, hW4⟩ : ∃ W4, W4 = w4.setCell ⟨w1.heap.size, 0, none⟩ (.string nm) := ⟨_, rfl⟩
      have hbk : Calls Tryz.prog 36 #[.pointer (some ⟨pb, 0, none⟩), .int .i64 0] W4 fun e w' =>
          POut pb a cap T ⟨#[45, 62]⟩ 0 (fun L u w' => StmsV (W4.heap.size ≤ ·) L u w') (pBlock (lastL T) [45, 62] f (0 + 0) r4) e w' ∧ But pb W4 w' := HB.out ⟨#[45, 62]⟩ f 0 0 r4 W4 (by omega) (by omega) (by omega) (by rw [hW4]; exact HA4.out.1)
      rw [hW4] at hbk
      have hl44 := hA4.2.2.2.1
      have hl45 := (Array.getElem?_eq_some_iff.1 HA4.out.2.2.2.2).1
      clear hq HX hA HA hn1 hA4 x4 hs4 hW4 W4
      go_wp2_with fail
      rcases hq : pBlock (lastL T) [45, 62] f (0 + 0) r4 with ⟨L, r5⟩ | ⟨ln, er⟩ <;> rw [hq] at hbk hX1 <;> clear hq
      · rw [PR.bind_ok] at hX1
        refine hbk.mono ?_
        rintro e w5 ⟨⟨_, rfl, ⟨lb, lc, rfl, hsp, hlc1, hlc2⟩, hs5⟩, x5⟩
        have hl5 := x5.size
        have hA5 := HA4.out.but hlp hs5 x5
        have hX5 := HA4.out.2.1.trans x5
        have k0 := hA5.2.2.1
        have k1 := hA5.2.2.2.2
        have hbw : w.heap.size ≠ w1.heap.size := by omega
        unfold zero3 at k0
        have b1 := setOne k1 2 (.slice lb L.length lc)
        have b0 := (Below.heap_setCell w5 ⟨w1.heap.size, 2, none⟩ (.slice lb L.length lc) w.heap.size hbw).trans k0
        have HZ := Lib.hid (set_three b0 (.string nm) (.bool true) (.slice lb L.length lc))
        obtain ⟨y0, y1, y2, f0, f1, f2⟩ := three_cells k1
        obtain ⟨z0, z1, z2, g0, g1, g2⟩ := three_cells b0
        obtain ⟨v0, v1, v2, e0, e1, e2⟩ := three_cells b1
        have HX := Lib.hid hX1; have HS5 := Lib.hid hs5; have HX5 := Lib.hid hX5; have HSP := Lib.hid hsp
        have HL1 := Lib.hid hlc1; have HL2 := Lib.hid hlc2
        clear hbk hX1 hs5 x5 hA5 hX5 k0 k1 b0 b1 hsp hlc1 hlc2
        go_wp2
        refine bodyPost_ret (results_cell_row rfl _ _ w.heap.size 24 #[.string nm, .bool true, .slice lb L.length lc] (0, 0) _ rfl HZ.out Tryz.underlying24 rfl size_tree) rfl ?_
        have hs' := HS5.out.far (p := ⟨w1.heap.size, 2, none⟩) (by show pb < w1.heap.size; omega) (.slice lb L.length lc)
        have x' := but_far HX5.out (p := ⟨w1.heap.size, 2, none⟩) (by show w.heap.size ≤ w1.heap.size; omega) (.slice lb L.length lc)
        obtain ⟨F1, F2, F3⟩ := fin_three hs' x' w.heap.size hlp (Nat.le_refl _) (.string nm) (.bool true) (.slice lb L.length lc)
        rw [HX.out]
        refine ⟨⟨_, rfl, ⟨lb, lc, rfl, ?_, HL1.out, HL2.out⟩, _, F1⟩, F2⟩
        have hz : (w4.setCell ⟨w1.heap.size, 0, none⟩ (.string nm)).heap.size = w4.heap.size := by simp
        rw [hz] at hl5 hl45
        exact StmsP.keep (ok' := (w.heap.size ≤ ·)) (fun g hg _ => by
          have hg : (w4.setCell ⟨w1.heap.size, 0, none⟩ (.string nm)).heap.size ≤ g := hg
          rw [hz] at hg
          exact (F3 g (by omega)).trans (Below.heap_setCell w5 ⟨w1.heap.size, 2, none⟩ _ g (by show g ≠ w1.heap.size; omega))) (fun g hg _ => by
          have hg : (w4.setCell ⟨w1.heap.size, 0, none⟩ (.string nm)).heap.size ≤ g := hg
          rw [hz] at hg
          show w.heap.size ≤ g; omega) L lb HSP.out
      · rw [PR.bind_err] at hX1
        have HX := Lib.hid hX1
        clear hX1
        refine hbk.mono ?_
        rintro e w5 ⟨rfl, x5⟩
        clear hbk
        unfold failE
        go_wp2
        exact ⟨rfl, by rw [HX.out]; exact rfl, HA4.out.2.1.trans x5⟩
    · rw [PR.bind_err] at hX1
      have HX := Lib.hid hX1
      have X0 := hA.2.1
      clear hX1 hq
      refine hn1.mono ?_
      rintro e w4 ⟨rfl, x4⟩
      clear hn1
      unfold failE
      go_wp2
      exact ⟨rfl, by rw [HX.out]; exact rfl, X0.trans x4⟩
end Go.Proofs.YtmallladeidkpaaGreatDoor.Pa
