/- Packed texts: NorLnk -/
import Derived.Test.YtnancphlkbfglaaGreatDoorPn31
import Derived.Test.YtnancphlkbfglaaGreatDoorPn23
set_option linter.unusedVariables false
set_option linter.unusedSimpArgs false
/- The edges under way: one more. -/
namespace Go.Proofs.YtnancphlkbfglaaGreatDoor.Nm
open Go.RowKit Go.Sort Go.Lib Fx Lx Tr At

variable {w0 w w2 : World} {bb m1 m2 B gg gb : Nat} {G : Obj} {nm : ByteArray} {dir : Bool} {nv av cv lv : Value} {aw : List Value} {ks : List (Lk × Value)} {S : St} {NV : List (Nd × Value)} {FE : Option (List Ed)} {j : Nat} {E : List Ed} {ev : Value}
theorem LnkAt.ext (h : LnkAt w0 bb m1 m2 B gg gb G nm dir nv av cv lv aw ks S NV FE j E ev w) (x : Ext w w2) : LnkAt w0 bb m1 m2 B gg gb G nm dir nv av cv lv aw ks S NV FE j E ev w2 :=
  ⟨h.f.ext x, At.heap_ext h.g x, At.heap_ext h.gr x, At.own_ext h.e x, h.acc, h.el⟩
theorem finEs_cons (L : List Nd) (x : Lk) (r : List Lk) : finEs L (x :: r) = match finE L x with | none => none | some e => (finEs L r).map (e :: ·) := by rw [finEs]; rfl
theorem LnkAt.app {cs : Array Value} (h : LnkAt w0 bb m1 m2 B gg gb (.cells cs 31 (0, 0)) nm dir nv av cv lv aw ks S NV FE j E ev w) (hgb : gg < gb) (hgw : w0.heap.size ≤ gb) {ev' : Value} {n' : Nat} (q : Ed) (hn : n' = E.length + 1) (ho : w2.ownsRow B 60 7 ev' n' (edsC E ++ edC q)) (hg : w.grownBy w2 ev.ownBlock) (hj : j < S.K.length) (hq : finE (NV.map Prod.fst) S.K[j] = some q) :
    LnkAt w0 bb m1 m2 B gg gb (.cells cs 31 (0, 0)) nm dir nv av cv lv aw ks S NV FE (j + 1) (E ++ [q]) ev' (w2.setCell ⟨gb, 3, none⟩ ev') := by
  have ht := row_ty h.e
  have hs := set_grown w2 gb 3 ev'
  have hr2 := cel_keep h.gr hg ht (nope (by decide))
  have hst := cel_ty hr2
  have hlo : ∀ k, ev.ownBlock = some k → w0.heap.size ≤ k := fun k e => by have := (h.e.lt k e).1; have := h.f.lo; omega
  subst hn
  refine ⟨(h.f.keep hg ht hlo (by decide) (by decide) (by decide) (by decide) (by decide) (by decide) (by decide)).keep hs hst (fun k e => by injection e with e; subst e; exact hgw) (by decide) (by decide) (by decide) (by decide) (by decide) (by decide) (by decide), (Below.heap_setCell _ _ _ _ (show gg ≠ gb by omega)).trans (cel_keep h.g hg ht (nope (by decide))), by rw [blk_set hr2]; rfl, ?_, ?_, by rw [List.length_append, h.el]; rfl⟩
  · have := row_keep ho hs hst (nope (by decide))
    rw [edsC_snoc]
    simpa using this
  · rw [h.acc, List.drop_eq_getElem_cons hj]
    rw [finEs_cons, hq]
    cases finEs (NV.map Prod.fst) (S.K.drop (j + 1)) <;> simp
theorem LnkAt.none' (h : LnkAt w0 bb m1 m2 B gg gb G nm dir nv av cv lv aw ks S NV FE j E ev w) (hj : j < S.K.length) (hq : finE (NV.map Prod.fst) S.K[j] = none) : FE = none := by
  rw [h.acc, List.drop_eq_getElem_cons hj]
  rw [finEs_cons, hq]
  rfl
theorem finNs_ports {m k : Nat} {S : St} (h : Sml m k S) : ∀ x ∈ finNs S.N S.A, x.ports.length ≤ 1000000 := fun x hx => by
  obtain ⟨q, hq, l, hl, rfl⟩ := finNs_mem hx
  have e2 := (h.at' l hl).2
  have e4 := portsV_len (getT l kPorts).1
  show (portsV (getT l kPorts).1).1.length ≤ _
  omega
theorem port_dec (L : List Prt) (n : ByteArray) : decide (0 ≤ ixP (portT L n) ∨ n.size = 0) = !decide (portT L n = -2) := by
  unfold ixP
  rcases portT_cases L n with ⟨h, h2⟩ | ⟨h, h2⟩ | h
  · rw [h]; simp [h2]
  · rw [h]; simp [h2]
  · have : portT L n ≠ -2 := by omega
    simp [this, h]
theorem ixP_ne {y : Int} (h : y ≠ -2) : ixP y = y := by unfold ixP; rw [if_neg h]
theorem finE_at {NV : List (Nd × Value)} {x : Lk} (ha : x.a < NV.length) (hb : x.b < NV.length) : finE (NV.map Prod.fst) x = if portT NV[x.a].1.ports x.ap = -2 ∨ portT NV[x.b].1.ports x.bp = -2 then none else some ⟨x.a, x.b, portT NV[x.a].1.ports x.ap, portT NV[x.b].1.ports x.bp, labelT x.at' ⟨#[]⟩, numK 2 x.at' kWeight, numK 2 x.at' kLen⟩ := by
  have e1 : ((NV.map Prod.fst)[x.a]?.map Nd.ports).getD [] = NV[x.a].1.ports := by rw [List.getElem?_map, List.getElem?_eq_getElem ha]; rfl
  have e2 : ((NV.map Prod.fst)[x.b]?.map Nd.ports).getD [] = NV[x.b].1.ports := by rw [List.getElem?_map, List.getElem?_eq_getElem hb]; rfl
  unfold finE
  rw [e1, e2]
/-- The graph that is made. -/
theorem gr_of (f : FinAt w0 bb m1 m2 B w nv av cv lv aw ks S NV) (e : w.ownsRow B 60 7 ev E.length (edsC E)) : GrIn w (.agg #[.string nm, .bool dir, nv, ev, cv]) ⟨nm, dir, NV.map Prod.fst, E, S.C⟩ ∧ GrCp w (.agg #[.string nm, .bool dir, nv, ev, cv]) ⟨nm, dir, NV.map Prod.fst, E, S.C⟩ := by
  obtain ⟨na, nc, rfl, h1, h2⟩ := row_nd f.N f.P
  obtain ⟨ea, ec, rfl, h3⟩ := row_ed e
  obtain ⟨ca, cc, rfl, h4, h5, h6⟩ := row_cl f.C
  exact ⟨⟨na, nc, ea, ec, ca, cc, rfl, h1, h3, h4⟩, ⟨na, nc, ea, ec, ca, cc, rfl, h2, h5, h6⟩⟩
/-- A store into the result's cell leaves the graph. -/
theorem gr_set {cs : Array Value} (f : FinAt w0 bb m1 m2 B w nv av cv lv aw ks S NV) (e : w.ownsRow B 60 7 ev E.length (edsC E)) (hg : w.heap[gg]? = some (.cells cs 31 (0, 0))) (hgg : w0.heap.size ≤ gg) (k : Nat) (u : Value) :
    FinAt w0 bb m1 m2 B (w.setCell ⟨gg, k, none⟩ u) nv av cv lv aw ks S NV ∧ (w.setCell ⟨gg, k, none⟩ u).ownsRow B 60 7 ev E.length (edsC E) ∧ (w.setCell ⟨gg, k, none⟩ u).heap[gg]? = some (.cells (cs.setIfInBounds k u) 31 (0, 0)) :=
  ⟨f.keep (set_grown w gg k u) (cel_ty hg) (fun k e => by injection e with e; subst e; exact hgg) (by decide) (by decide) (by decide) (by decide) (by decide) (by decide) (by decide), row_keep e (set_grown w gg k u) (cel_ty hg) (nope (by decide)), blk_set hg k u⟩
theorem gr_set5 {cs : Array Value} (f : FinAt w0 bb m1 m2 B w nv av cv lv aw ks S NV) (e : w.ownsRow B 60 7 ev E.length (edsC E)) (hg : w.heap[gg]? = some (.cells cs 31 (0, 0))) (hgg : w0.heap.size ≤ gg) (v0 v1 v2 v3 v4 : Value) :
    FinAt w0 bb m1 m2 B (((((w.setCell ⟨gg, 0, none⟩ v0).setCell ⟨gg, 1, none⟩ v1).setCell ⟨gg, 2, none⟩ v2).setCell ⟨gg, 3, none⟩ v3).setCell ⟨gg, 4, none⟩ v4) nv av cv lv aw ks S NV ∧ (((((w.setCell ⟨gg, 0, none⟩ v0).setCell ⟨gg, 1, none⟩ v1).setCell ⟨gg, 2, none⟩ v2).setCell ⟨gg, 3, none⟩ v3).setCell ⟨gg, 4, none⟩ v4).ownsRow B 60 7 ev E.length (edsC E) := by
  obtain ⟨f, e, hg⟩ := gr_set f e hg hgg 0 v0
  obtain ⟨f, e, hg⟩ := gr_set f e hg hgg 1 v1
  obtain ⟨f, e, hg⟩ := gr_set f e hg hgg 2 v2
  obtain ⟨f, e, hg⟩ := gr_set f e hg hgg 3 v3
  obtain ⟨f, e, hg⟩ := gr_set f e hg hgg 4 v4
  exact ⟨f, e⟩
theorem cells7v {w : World} {g : Nat} {T : TypeId} {c0 c1 c2 c3 c4 c5 c6 : Value} (h : w.heap[g]? = some (.cells #[c0, c1, c2, c3, c4, c5, c6] T (0, 0))) :
    w.cell? ⟨g, 0, none⟩ = some c0 ∧ w.cell? ⟨g, 1, none⟩ = some c1 ∧ w.cell? ⟨g, 2, none⟩ = some c2 ∧ w.cell? ⟨g, 3, none⟩ = some c3 ∧ w.cell? ⟨g, 4, none⟩ = some c4 ∧ w.cell? ⟨g, 5, none⟩ = some c5 ∧ w.cell? ⟨g, 6, none⟩ = some c6 ∧ ∀ j, w.frozen? ⟨g, j, none⟩ = false := by
  refine ⟨?_, ?_, ?_, ?_, ?_, ?_, ?_, fun j => Lib.frozen_of_heap h j⟩ <;> (rw [Lib.cell_of_heap h]; rfl)
theorem set23 {w : World} {g : Nat} {T : TypeId} {c0 c1 c2 c3 c4 c5 c6 : Value} (h : w.heap[g]? = some (.cells #[c0, c1, c2, c3, c4, c5, c6] T (0, 0))) (v2 v3 : Value) :
    ((w.setCell ⟨g, 2, none⟩ v2).setCell ⟨g, 3, none⟩ v3).heap[g]? = some (.cells #[c0, c1, v2, v3, c4, c5, c6] T (0, 0)) := by
  have h1 : (w.setCell ⟨g, 2, none⟩ v2).heap[g]? = some (.cells #[c0, c1, v2, c3, c4, c5, c6] T (0, 0)) := blk_set h 2 v2
  exact blk_set h1 3 v3
end Go.Proofs.YtnancphlkbfglaaGreatDoor.Nm
