/- Packed texts: NorLawV, FixPost, NorDoc, NorKeyR -/
import Derived.Test.YtnancphlkbfglaaGreatDoorPn36
import Derived.BigQuiet
import Derived.Lib.QuietBelow
import Derived.Test.YtnancphlkbfglaaGreatDoorPn02
import Derived.ProofKit
import Derived.Test.YtnancphlkbfglaaGreatDoorPn15
set_option linter.unusedVariables false
set_option linter.unusedSimpArgs false
/- NormalizeValid, walked; an argument that is options, opened. -/
namespace Go.Proofs.YtnancphlkbfglaaGreatDoor.Nm
open Go.RowKit Go.Sort Go.Lib Go.Shelf Fx Lx Tr At Go.ChangeShapes Go.WideShapes Go.Deep

theorem regrown_extN {P : Program} {f : FuncId} {args : Array Value} {w wb : World} {T : Value} (hx : Ext w wb) (h : ∀ w', Ext w w' → Calls P f args w' fun e w'' => e = .returned T ∧ Ext w' w'') (d : Nat) (os : Array Obj) :
    Calls P f args (grow (redrawn wb d) os) fun e w'' => e = .returned T ∧ ∃ p : Regrown, w'' = grow (redrawn wb p.d) p.os :=
  Calls.regrown_of (h _ (hx.trans (below_regrown wb d os)))
def OpArg (_ : World) (v : Value) : Prop := ∃ o, v = opV o
theorem cOp : Tryz.prog.cellsOf 48 = 5 := by kernel_rfl
theorem cIntN : Tryz.prog.cellsOf 3 = 1 := by kernel_rfl
set_option maxRecDepth 100000 in
theorem op_list {H : Type} {enc : TypeId × Value → H} {W : World} {base : Nat} {sp : Nat → Bool} {held : Bool} {cs' : List Value} {y : DataW H × List MemPlace} {n : Nat} (h : DataW.trod enc Tryz.prog W base sp held n 48 cs' = some y) : ∃ a b c d e : Int, cs' = [.int .i64 a, .int .i64 b, .int .i64 c, .int .i64 d, .int .i64 e] := by
  obtain ⟨xs, n', _, rfl, hlen, hxl, hg⟩ := DataW.trod_struct Tryz.underlying48 h
  rw [cOp] at hlen
  have hxl5 : xs.length = 5 := hxl
  clear hxl
  match cs', hlen with
  | [p0, p1, p2, p3, p4], _ =>
    obtain ⟨y0, y1, y2, y3, y4, rfl⟩ : ∃ y0 y1 y2 y3 y4, xs = [y0, y1, y2, y3, y4] := by
      match xs, hxl5 with
      | [y0, y1, y2, y3, y4], _ => exact ⟨y0, y1, y2, y3, y4, rfl⟩
    have g0 : DataW.trod enc Tryz.prog W base sp held n' 3 [p0] = some y0 := by simpa [cIntN] using hg 0 _ rfl
    have g1 : DataW.trod enc Tryz.prog W base sp held n' 3 [p1] = some y1 := by simpa [cIntN] using hg 1 _ rfl
    have g2 : DataW.trod enc Tryz.prog W base sp held n' 3 [p2] = some y2 := by simpa [cIntN] using hg 2 _ rfl
    have g3 : DataW.trod enc Tryz.prog W base sp held n' 3 [p3] = some y3 := by simpa [cIntN] using hg 3 _ rfl
    have g4 : DataW.trod enc Tryz.prog W base sp held n' 3 [p4] = some y4 := by simpa [cIntN] using hg 4 _ rfl
    obtain ⟨a, e0, _, _⟩ := DataW.trod_int Tryz.underlying3 g0
    obtain ⟨b, e1, _, _⟩ := DataW.trod_int Tryz.underlying3 g1
    obtain ⟨c, e2, _, _⟩ := DataW.trod_int Tryz.underlying3 g2
    obtain ⟨d, e3, _, _⟩ := DataW.trod_int Tryz.underlying3 g3
    obtain ⟨e, e4, _, _⟩ := DataW.trod_int Tryz.underlying3 g4
    simp only [List.cons.injEq, and_true] at e0 e1 e2 e3 e4
    exact ⟨a, b, c, d, e, by rw [e0, e1, e2, e3, e4]⟩
set_option maxRecDepth 100000 in
theorem op_arg {H : Type} {enc : TypeId × Value → H} {W : World} {r : Reach} {b base : Nat} {sp : Nat → Bool} {held : Bool} {v : Value} {d : DataW H} {p : List MemPlace}
    (hv : Value.okWide Tryz.prog W r b 48 v) (h : DataW.Trod enc Tryz.prog W base sp held 48 v d p) : OpArg W v := by
  obtain ⟨cs, rfl, hsz⟩ := okWide_struct Tryz.underlying48 hv
  obtain ⟨fuel, hf⟩ := h
  obtain ⟨a, b, c, d, e, hc⟩ := op_list hf
  have hcs : cs.toList = [.int .i64 a, .int .i64 b, .int .i64 c, .int .i64 d, .int .i64 e] := by simpa [Value.cells] using hc
  refine ⟨⟨a, b, c, d, e⟩, ?_⟩
  unfold opV
  congr 1
  exact Array.toList_inj.1 hcs
set_option maxHeartbeats 2000000 in
set_option maxRecDepth 100000 in
/-- NormalizeValid is true. -/
theorem valid_card (v : Value) (w : World) (hv : OpArg w v) (he : Env w) :
    Calls Tryz.prog 7 #[v] w fun e w' => e = .returned (.bool true) ∧ Ext w w' := by
  obtain ⟨o, rfl⟩ := hv
  have h1 := fun w5 => vopP_any o w5
  have h2 := fun w5 => vopD_any o w5
  have h3 := fun (w5 : World) (x : Ext w w5) => awake_any w5 (he.ext x)
  obtain ⟨R, hR⟩ : ∃ R, R = okOb o := ⟨_, rfl⟩
  simp only [← hR] at h1 h2
  obtain ⟨m, a, b, c, d⟩ := o
  unfold opV at h1 h2 ⊢
  dsimp only at h1 h2 ⊢
  have H1 := Lib.hid h1; have H2 := Lib.hid h2; have H3 := Lib.hid h3
  clear h1 h2 h3 he hR
  have f1 : (R == R) = true := by rw [beq_self_eq_true]
  go_enter Tryz.func7, Tryz.ntmps7
  go_wp2_with fail
  have x0 : Ext w (w.alloc (.cells #[.int .i64 m, .int .i64 a, .int .i64 b, .int .i64 c, .int .i64 d] 48)) := (Ext.refl _).alloc _
  have hb := heap_alloc_new w (.cells #[.int .i64 m, .int .i64 a, .int .i64 b, .int .i64 c, .int .i64 d] 48)
  obtain ⟨w1, hw1⟩ : ∃ w1, w1 = w.alloc (.cells #[.int .i64 m, .int .i64 a, .int .i64 b, .int .i64 c, .int .i64 d] 48) := ⟨_, rfl⟩
  rw [← hw1] at x0 hb ⊢
  have X0 := Lib.hid x0
  obtain ⟨q0, q1, q2, q3, q4⟩ := cells5g hb
  have k0 := fun d os => Ext.cell (w := w1) (below_regrown w1 d os) q0
  have k1 := fun d os => Ext.cell (w := w1) (below_regrown w1 d os) q1
  have k2 := fun d os => Ext.cell (w := w1) (below_regrown w1 d os) q2
  have k3 := fun d os => Ext.cell (w := w1) (below_regrown w1 d os) q3
  have k4 := fun d os => Ext.cell (w := w1) (below_regrown w1 d os) q4
  have C0 := Lib.hid (fun dd os => regrown_extN X0.out (fun w5 (_ : Ext w w5) => H1.out w5) dd os)
  have C1 := Lib.hid (fun dd os => regrown_extN X0.out (fun w5 (_ : Ext w w5) => H2.out w5) dd os)
  have C2 := Lib.hid (fun dd os => regrown_extN X0.out H3.out dd os)
  clear hw1 x0 hb q0 q1 q2 q3 q4
  refine wp_region_quiet_below (by kernel_rfl) (by kernel_rfl) ?_
  repeat (go_big_quiet_step ((first | (go_at_call 21; exact C0.out _ _) | (go_at_call 22; exact C1.out _ _) | (go_at_call 9; exact C2.out _ _))))
  refine wpQuiet_nil ?_
  intro _ hw'
  obtain ⟨⟨dq, osq⟩, hw''⟩ := hw'
  subst hw''
  go_wp2_with fail
  go_returns
  exact ⟨rfl, X0.out.trans (below_regrown w1 _ _)⟩
end Go.Proofs.YtnancphlkbfglaaGreatDoor.Nm

/- From a walk that leaves all old memory as it was to what a row asks behind the call. -/
namespace Go.Proofs.YtnancphlkbfglaaGreatDoor.Fx
open Go.ChangeShapes Go.WideShapes Go.ChangeAt Go.RowKit
section
variable {H : Type} {enc : TypeId × Value → H} {P : Program}
theorem post_ext {f : Func} {s : ChangeSpec} {apart fresh handsOn again : Bool} {W W' : World} {args : Array Value} {v : Value} {ds gs : List (DataW H)} {places pa pv : List MemPlace}
    (hW : DataW.Whole enc P f.params.toList s.vars apart W args.toList ds gs places)
    (results : ∀ (b : Nat) (sp : Nat → Bool) (hd : Bool), DataW.TrodAll enc P W' b sp hd f.resultTypes.toList (v.resultList f.resultTypes.size) (s.fn H (ds ++ gs)).results [])
    (arguments : ∀ sp : Nat → Bool, (∀ x ∈ places, sp x.block = true) → DataW.TrodAll enc P W' 0 sp true f.params.toList args.toList (s.fn H (ds ++ gs)).args pa)
    (variables : ∀ sp : Nat → Bool, (∀ x ∈ places, sp x.block = true) → DataW.TrodVars enc P W' sp s.vars (s.fn H (ds ++ gs)).vars pv)
    (split : places = pa ++ pv) (ext : Ext W W')
    (ok : ∀ (j : Nat) (t : TypeId) (r : Value), f.resultTypes[j]? = some t → (v.resultList f.resultTypes.size)[j]? = some r → Value.okWide P W' .any 0 t r) :
    s.post enc P f apart fresh handsOn again W args v W' := by
  subst split
  have low : ∀ x ∈ pa ++ pv, x.block < W.heap.size := fun x hx => hW.lt x hx
  have mark : ∀ x ∈ pa ++ pv, (fun b => decide (b < W.heap.size)) x.block = true := fun x hx => decide_eq_true (low x hx)
  have whole := hW
  obtain ⟨_, _, _, _, _, cold, once⟩ := hW
  refine ⟨ds, gs, pa ++ pv, [], pa, pv, whole, results _ _ _, arguments _ mark, variables _ mark, World.keptBut_mono (fun x hx => ⟨hx, by simpa using hx⟩) (Below.frame ext (· ∈ pa ++ pv)), fun _ => ⟨ok, _, _, [] ++ pa ++ pv, ⟨[] ++ pa, pv, trodAll_append (arguments _ fun _ _ => rfl) (results _ _ _), variables _ fun _ _ => rfl, rfl, fun b off hb => ?_, fun ha => ?_⟩, fun x hx _ => ?_⟩⟩
  · have at' : MemPlace.cell b off ∈ pa ++ pv := by simpa using hb
    rw [Below.frozen ext (low _ at')]
    exact cold b off at'
  · have := once ha; simpa using this
  · simpa using hx
end
end Go.Proofs.YtnancphlkbfglaaGreatDoor.Fx

/- The document's state in memory, and what each step does to it. -/
namespace Go.Proofs.YtnancphlkbfglaaGreatDoor.Nm
open Go.RowKit Go.Sort Go.Lib Fx Lx Tr At

def enC (x : Lk × Value) : List Value := [.int .i64 x.1.a, .int .i64 x.1.b, .string x.1.ap, .string x.1.bp, x.2]
def ensC (L : List (Lk × Value)) : List Value := L.flatMap enC
theorem ensC_snoc (L : List (Lk × Value)) (q : Lk × Value) : ensC (L ++ [q]) = ensC L ++ enC q := by unfold ensC; simp
/-- The state: its block, its rows, its error. -/
structure Doc (w0 : World) (bb B : Nat) (nm : ByteArray) (dir : Bool) (w : World) (nv av cv lv : Value) (aw : List Value) (ks : List (Lk × Value)) (S : St) (E : Int) : Prop where
  blk : w.heap[bb]? = some (.cells #[.string nm, .bool dir, nv, .slice none 0 0, cv, av, lv, .int .i64 E] 88 (0, 0))
  N : w.ownsRow B 40 6 nv S.N.length (ndsC S.N)
  A : w.ownsRow B 54 1 av S.A.length aw
  C : w.ownsRow B 42 2 cv S.C.length (clsC S.C)
  K : w.ownsRow B 142 5 lv S.K.length (ensC ks)
  At : AtLs w aw S.A
  Kl : ks.map Prod.fst = S.K
  Kt : AtLs w (ks.map Prod.snd) (S.K.map Lk.at')
  X : Ext w0 w
  Z : B ≤ w.heap.size
  lo : w0.heap.size ≤ bb ∧ bb < B
variable {w0 w w2 : World} {bb B : Nat} {nm : ByteArray} {dir : Bool} {nv av cv lv : Value} {aw : List Value} {ks : List (Lk × Value)} {S : St} {E : Int}
theorem Doc.ext (h : Doc w0 bb B nm dir w nv av cv lv aw ks S E) (x : Ext w w2) : Doc w0 bb B nm dir w2 nv av cv lv aw ks S E :=
  ⟨At.heap_ext h.blk x, At.own_ext h.N x, At.own_ext h.A x, At.own_ext h.C x, At.own_ext h.K x, h.At.ext x, h.Kl, h.Kt.ext x, h.X.trans x, Nat.le_trans h.Z x.size, h.lo⟩
theorem Doc.cells (h : Doc w0 bb B nm dir w nv av cv lv aw ks S E) : w.cell? ⟨bb, 0, none⟩ = some (.string nm) ∧ w.cell? ⟨bb, 1, none⟩ = some (.bool dir) ∧ w.cell? ⟨bb, 2, none⟩ = some nv ∧ w.cell? ⟨bb, 4, none⟩ = some cv ∧ w.cell? ⟨bb, 5, none⟩ = some av ∧ w.cell? ⟨bb, 6, none⟩ = some lv ∧ w.cell? ⟨bb, 7, none⟩ = some (.int .i64 E) := by
  refine ⟨?_, ?_, ?_, ?_, ?_, ?_, ?_⟩ <;> (rw [Lib.cell_of_heap h.blk]; rfl)
theorem Doc.fz (h : Doc w0 bb B nm dir w nv av cv lv aw ks S E) (j : Nat) : w.frozen? ⟨bb, j, none⟩ = false := Lib.frozen_of_heap h.blk j
/-- Nothing has turned but the state's own blocks. -/
structure KeepD (w w' : World) : Prop where
  size : w.heap.size ≤ w'.heap.size
  blk : ∀ (k : Nat) (cs : Array Value) (E : TypeId) (fl : Nat × Nat), w.heap[k]? = some (.cells cs E fl) → E ≠ 88 → E ≠ 40 → E ≠ 54 → E ≠ 42 → E ≠ 142 → w'.heap[k]? = some (.cells cs E fl)
theorem KeepD.refl (w : World) : KeepD w w := ⟨Nat.le_refl _, fun _ _ _ _ h _ _ _ _ _ => h⟩
theorem KeepD.of {w w' : World} (x : Ext w w') : KeepD w w' := ⟨x.size, fun _ _ _ _ h _ _ _ _ _ => At.heap_ext h x⟩
theorem KeepD.trans {a b c : World} (h : KeepD a b) (k : KeepD b c) : KeepD a c := ⟨Nat.le_trans h.size k.size, fun i cs E fl e h1 h2 h3 h4 h5 => k.blk i cs E fl (h.blk i cs E fl e h1 h2 h3 h4 h5) h1 h2 h3 h4 h5⟩
theorem KeepD.ext {a b c : World} (h : KeepD a b) (x : Ext b c) : KeepD a c := h.trans (.of x)
theorem KeepD.grown {w w' : World} {row : Option Nat} {t : Option TypeId} (hg : w.grownBy w' row) (ht : TyOf w row t) (hne : t = none ∨ t = some 88 ∨ t = some 40 ∨ t = some 54 ∨ t = some 42 ∨ t = some 142) : KeepD w w' :=
  ⟨hg.size, fun k cs E fl e h1 h2 h3 h4 h5 => blk_keep e hg ht (by
    rcases hne with rfl | rfl | rfl | rfl | rfl | rfl <;> simp only [tyO] <;> (intro e; first | (cases e; done) | (cases e; first | exact h1 rfl | exact h2 rfl | exact h3 rfl | exact h4 rfl | exact h5 rfl)))⟩
theorem KeepD.atL {w w' : World} (h : KeepD w w') {v : Value} {L : List Two} (a : AtL w v L) : AtL w' v L := by
  obtain ⟨p, c, h1, h2, h3⟩ := a
  have hb : ∀ q, p = some q → ∃ cs, w.heap[q.block]? = some (.cells cs 109 (0, 0)) ∧ w'.heap[q.block]? = some (.cells cs 109 (0, 0)) := fun q e => by
    obtain ⟨cs, hc⟩ := h3.2 q e
    exact ⟨cs, hc, h.blk _ _ _ _ hc (by decide) (by decide) (by decide) (by decide) (by decide)⟩
  refine ⟨p, c, h1, fun k hk => ?_, h3.1, fun q e => ?_⟩
  · obtain ⟨g, o, ha, c0, c1⟩ := h2 k hk
    obtain ⟨cs, hx, hy⟩ := hb _ ha
    refine ⟨g, o, ha, ?_, ?_⟩
    · rw [Lib.cell_of_heap hy]; rw [Lib.cell_of_heap hx] at c0; exact c0
    · rw [Lib.cell_of_heap hy]; rw [Lib.cell_of_heap hx] at c1; exact c1
  · obtain ⟨cs, _, hy⟩ := hb q e
    exact ⟨cs, hy⟩
theorem row_ownD {w w2 : World} {row : Option Nat} {t : TypeId} {cs : Array Value} {B' : Nat} {E : TypeId} {sz : Nat} {v : Value} {n : Nat} {xs : List Value} (h : w.ownsRow B' E sz v n xs) (hg : w.grownBy w2 row) (ht : TyOf w row (some t)) (hne : E ≠ t)
    (hS : w2.heap[bb]? = some (.cells cs 88 (0, 0))) (hE : E ≠ 88) (j : Nat) (u : Value) : (w2.setCell ⟨bb, j, none⟩ u).ownsRow B' E sz v n xs :=
  row_keep (row_keep h hg ht (nope hne)) (set_grown w2 bb j u) (cel_ty hS) (nope hE)
theorem atLs_ownD {w w2 : World} {row : Option Nat} {t : TypeId} {cs : Array Value} {aw : List Value} {A : List (List Two)} (h : AtLs w aw A) (hg : w.grownBy w2 row) (ht : TyOf w row (some t)) (hne : 109 ≠ t)
    (hS : w2.heap[bb]? = some (.cells cs 88 (0, 0))) (j : Nat) (u : Value) : AtLs (w2.setCell ⟨bb, j, none⟩ u) aw A :=
  (h.keep hg ht (nope hne)).keep (set_grown w2 bb j u) (cel_ty hS) (by decide)
theorem Doc.lo' {v : Value} {T : TypeId} {sz n : Nat} {xs : List Value} (h : Doc w0 bb B nm dir w nv av cv lv aw ks S E) (ho : w.ownsRow B T sz v n xs) : ∀ k, v.ownBlock = some k → w0.heap.size ≤ k := fun k e => by
  have := (ho.lt k e).1; have := h.lo; omega
/-- A node is appended. -/
theorem Doc.appN (h : Doc w0 bb B nm dir w nv av cv lv aw ks S E) {v' : Value} {n' : Nat} (q : ByteArray × Int) (hn : n' = S.N.length + 1) (ho : w2.ownsRow B 40 6 v' n' (ndsC S.N ++ ndC q)) (hg : w.grownBy w2 nv.ownBlock) :
    Doc w0 bb B nm dir (w2.setCell ⟨bb, 2, none⟩ v') v' av cv lv (aw) (ks) { S with N := S.N ++ [q] } E ∧ KeepD w (w2.setCell ⟨bb, 2, none⟩ v') := by
  have ht := row_ty h.N
  have hS : w2.heap[bb]? = some (.cells #[.string nm, .bool dir, nv, .slice none 0 0, cv, av, lv, .int .i64 E] 88 (0, 0)) := cel_keep h.blk hg ht (nope (by decide))
  have hs := set_grown w2 bb 2 v'
  have hst := cel_ty hS
  subst hn
  refine ⟨⟨by rw [blk_set hS]; rfl, ?_, row_ownD h.A hg ht (by decide) hS (by decide) _ _, row_ownD h.C hg ht (by decide) hS (by decide) _ _, row_ownD h.K hg ht (by decide) hS (by decide) _ _, atLs_ownD h.At hg ht (by decide) hS _ _, h.Kl, atLs_ownD h.Kt hg ht (by decide) hS _ _, ext_grown (ext_grown h.X hg (h.lo' h.N)) hs (fun k e => by injection e with e; subst e; exact h.lo.1), Nat.le_trans h.Z (Nat.le_trans hg.size hs.size), h.lo⟩, (KeepD.grown hg ht (by simp)).trans (KeepD.grown hs hst (by simp))⟩
  · have := row_keep ho hs hst (by decide)
    rw [ndsC_snoc]; simpa using this
/-- The attributes of a node are appended. -/
theorem Doc.appA (h : Doc w0 bb B nm dir w nv av cv lv aw ks S E) {v' : Value} {n' : Nat} {v : Value} {L : List Two} (hv : AtL w v L) (hn : n' = S.A.length + 1) (ho : w2.ownsRow B 54 1 v' n' (aw ++ [v])) (hg : w.grownBy w2 av.ownBlock) :
    Doc w0 bb B nm dir (w2.setCell ⟨bb, 5, none⟩ v') nv v' cv lv (aw ++ [v]) (ks) { S with A := S.A ++ [L] } E ∧ KeepD w (w2.setCell ⟨bb, 5, none⟩ v') := by
  have ht := row_ty h.A
  have hS : w2.heap[bb]? = some (.cells #[.string nm, .bool dir, nv, .slice none 0 0, cv, av, lv, .int .i64 E] 88 (0, 0)) := cel_keep h.blk hg ht (nope (by decide))
  have hs := set_grown w2 bb 5 v'
  have hst := cel_ty hS
  subst hn
  refine ⟨⟨by rw [blk_set hS]; rfl, row_ownD h.N hg ht (by decide) hS (by decide) _ _, ?_, row_ownD h.C hg ht (by decide) hS (by decide) _ _, row_ownD h.K hg ht (by decide) hS (by decide) _ _, atLs_ownD (h.At.snoc hv) hg ht (by decide) hS _ _, h.Kl, atLs_ownD h.Kt hg ht (by decide) hS _ _, ext_grown (ext_grown h.X hg (h.lo' h.A)) hs (fun k e => by injection e with e; subst e; exact h.lo.1), Nat.le_trans h.Z (Nat.le_trans hg.size hs.size), h.lo⟩, (KeepD.grown hg ht (by simp)).trans (KeepD.grown hs hst (by simp))⟩
  · have := row_keep ho hs hst (by decide)
    simpa using this
/-- A cluster is appended. -/
theorem Doc.appC (h : Doc w0 bb B nm dir w nv av cv lv aw ks S E) {v' : Value} {n' : Nat} (q : ByteArray × Int) (hn : n' = S.C.length + 1) (ho : w2.ownsRow B 42 2 v' n' (clsC S.C ++ clC q)) (hg : w.grownBy w2 cv.ownBlock) :
    Doc w0 bb B nm dir (w2.setCell ⟨bb, 4, none⟩ v') nv av v' lv (aw) (ks) { S with C := S.C ++ [q] } E ∧ KeepD w (w2.setCell ⟨bb, 4, none⟩ v') := by
  have ht := row_ty h.C
  have hS : w2.heap[bb]? = some (.cells #[.string nm, .bool dir, nv, .slice none 0 0, cv, av, lv, .int .i64 E] 88 (0, 0)) := cel_keep h.blk hg ht (nope (by decide))
  have hs := set_grown w2 bb 4 v'
  have hst := cel_ty hS
  subst hn
  refine ⟨⟨by rw [blk_set hS]; rfl, row_ownD h.N hg ht (by decide) hS (by decide) _ _, row_ownD h.A hg ht (by decide) hS (by decide) _ _, ?_, row_ownD h.K hg ht (by decide) hS (by decide) _ _, atLs_ownD h.At hg ht (by decide) hS _ _, h.Kl, atLs_ownD h.Kt hg ht (by decide) hS _ _, ext_grown (ext_grown h.X hg (h.lo' h.C)) hs (fun k e => by injection e with e; subst e; exact h.lo.1), Nat.le_trans h.Z (Nat.le_trans hg.size hs.size), h.lo⟩, (KeepD.grown hg ht (by simp)).trans (KeepD.grown hs hst (by simp))⟩
  · have := row_keep ho hs hst (by decide)
    rw [clsC_snoc]; simpa using this
/-- An edge is appended. -/
theorem Doc.appK (h : Doc w0 bb B nm dir w nv av cv lv aw ks S E) {v' : Value} {n' : Nat} {v : Value} (x : Lk) (hv : AtL w v x.at') (hn : n' = S.K.length + 1) (ho : w2.ownsRow B 142 5 v' n' (ensC ks ++ enC (x, v))) (hg : w.grownBy w2 lv.ownBlock) :
    Doc w0 bb B nm dir (w2.setCell ⟨bb, 6, none⟩ v') nv av cv v' (aw) (ks ++ [(x, v)]) { S with K := S.K ++ [x] } E ∧ KeepD w (w2.setCell ⟨bb, 6, none⟩ v') := by
  have ht := row_ty h.K
  have hS : w2.heap[bb]? = some (.cells #[.string nm, .bool dir, nv, .slice none 0 0, cv, av, lv, .int .i64 E] 88 (0, 0)) := cel_keep h.blk hg ht (nope (by decide))
  have hs := set_grown w2 bb 6 v'
  have hst := cel_ty hS
  subst hn
  refine ⟨⟨by rw [blk_set hS]; rfl, row_ownD h.N hg ht (by decide) hS (by decide) _ _, row_ownD h.A hg ht (by decide) hS (by decide) _ _, row_ownD h.C hg ht (by decide) hS (by decide) _ _, ?_, atLs_ownD h.At hg ht (by decide) hS _ _, by rw [List.map_append, h.Kl]; rfl, ?_, ext_grown (ext_grown h.X hg (h.lo' h.K)) hs (fun k e => by injection e with e; subst e; exact h.lo.1), Nat.le_trans h.Z (Nat.le_trans hg.size hs.size), h.lo⟩, (KeepD.grown hg ht (by simp)).trans (KeepD.grown hs hst (by simp))⟩
  · have := row_keep ho hs hst (by decide)
    rw [ensC_snoc]; simpa using this
  · rw [List.map_append, List.map_append]
    exact atLs_ownD (h.Kt.snoc hv) hg ht (by decide) hS _ _
/-- The error is set. -/
theorem Doc.setE (h : Doc w0 bb B nm dir w nv av cv lv aw ks S E) (E' : Int) : Doc w0 bb B nm dir (w.setCell ⟨bb, 7, none⟩ (.int .i64 E')) nv av cv lv aw ks S E' ∧ KeepD w (w.setCell ⟨bb, 7, none⟩ (.int .i64 E')) := by
  have hs := set_grown w bb 7 (.int .i64 E')
  have ht := cel_ty h.blk
  exact ⟨⟨by rw [blk_set h.blk]; rfl, row_keep h.N hs ht (by decide), row_keep h.A hs ht (by decide), row_keep h.C hs ht (by decide), row_keep h.K hs ht (by decide), h.At.keep hs ht (by decide), h.Kl, h.Kt.keep hs ht (by decide), ext_grown h.X hs (fun k e => by injection e with e; subst e; exact h.lo.1), Nat.le_trans h.Z hs.size, h.lo⟩, KeepD.grown hs ht (by simp)⟩
/-- The attributes of all nodes are replaced by another row. -/
theorem Doc.setA (h : Doc w0 bb B nm dir w nv av cv lv aw ks S E) {v' : Value} {aw' : List Value} {A' : List (List Two)} (ho : w.ownsRow B 54 1 v' A'.length aw') (ha : AtLs w aw' A') :
    Doc w0 bb B nm dir (w.setCell ⟨bb, 5, none⟩ v') nv v' cv lv aw' ks { S with A := A' } E ∧ KeepD w (w.setCell ⟨bb, 5, none⟩ v') := by
  have hs := set_grown w bb 5 v'
  have ht := cel_ty h.blk
  exact ⟨⟨by rw [blk_set h.blk]; rfl, row_keep h.N hs ht (by decide), row_keep ho hs ht (by decide), row_keep h.C hs ht (by decide), row_keep h.K hs ht (by decide), ha.keep hs ht (by decide), h.Kl, h.Kt.keep hs ht (by decide), ext_grown h.X hs (fun k e => by injection e with e; subst e; exact h.lo.1), Nat.le_trans h.Z hs.size, h.lo⟩, KeepD.grown hs ht (by simp)⟩
theorem info_end : (Tryz.prog.info? 142).map (fun i => (i.zero, i.size, i.bytes)) = some (some (.agg #[.int .i64 0, .int .i64 0, .string ⟨#[]⟩, .string ⟨#[]⟩, .slice none 0 0]), 5, 72) := by kernel_rfl
/-- Some state that holds the parts. -/
def DocE (w0 : World) (bb B : Nat) (nm : ByteArray) (dir : Bool) (w : World) (S : St) (E : Int) : Prop := ∃ nv av cv lv aw ks, Doc w0 bb B nm dir w nv av cv lv aw ks S E
end Go.Proofs.YtnancphlkbfglaaGreatDoor.Nm

/- The document's Keyed: the one attribute of a setting, under the setting's name. -/
namespace Go.Proofs.YtnancphlkbfglaaGreatDoor.Nm
open Go.RowKit Go.Sort Go.Lib Go.Shelf Fx Lx Tr At

set_option maxHeartbeats 4000000 in
set_option maxRecDepth 100000 in
theorem keyed_any (kd : Int) (nm : ByteArray) (q : Two) (r a b : Option Addr) (R B rc ac bc : Nat) (w : World) (ha : AtrIn w a [q]) :
    Calls Tryz.prog 76 #[.agg #[.int .i64 kd, .string nm, .slice r R rc, .slice a 1 ac, .slice b B bc]] w fun e w' => e = .returned (.agg #[.string nm, .string q.2]) ∧ Ext w w' := by
  obtain ⟨g, o, rfl, -, c1⟩ := ha 0 (by simp)
  simp only [List.getElem_cons_zero] at c1
  have c1' : w.cell? ⟨g, o + 1, none⟩ = some (.string q.2) := by simpa using c1
  have k1 := fun (o1 o2 : Obj) => (((Ext.refl w).alloc o1).alloc o2).cell c1'
  clear c1 ha
  go_enter Tryz.func76, Tryz.ntmps76
  go_wp2_with fail
  go_region
  all_goals go_wp2
  all_goals go_returns
  all_goals exact ⟨rfl, (((Ext.refl w).alloc _).alloc _).drew⟩
end Go.Proofs.YtnancphlkbfglaaGreatDoor.Nm
