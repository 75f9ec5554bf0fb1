/- Packed texts: NorSiz, NorLnk, NorFinD, NorFns -/
import Derived.Test.YtnancphlkbfglaaGreatDoorPb22
import Derived.Test.YtnancphlkbfglaaGreatDoorPb19
import Derived.Test.YtnancphlkbfglaaGreatDoorPb18
import Derived.Test.YtnancphlkbfglaaGreatDoorPb13
import Derived.Test.YtnancphlkbfglaaGreatDoorPb12
import Derived.Laws.ResultCell
set_option linter.unusedVariables false
set_option linter.unusedSimpArgs false
namespace Go.Proofs.YtnancphlkbfglaaGreatDoor.Nm
open Go.Lib Fx Lx Tr At
theorem portsGo_nm : ∀ (l : List ByteArray) (out : List Prt), (∀ q ∈ out, q.1.size ≤ 16) → ∀ q ∈ (portsGo l out).1, q.1.size ≤ 16
  | [], out, h, q, hq => h q hq
  | p :: r, out, h, q, hq => by
    unfold portsGo at hq
    split at hq
    · cases hq
    split at hq
    · cases hq
    split at hq
    · cases hq
    rename_i hn
    split at hq
    · cases hq
    split at hq
    · cases hq
    refine portsGo_nm r _ (fun y hy => ?_) q hq
    rcases List.mem_append.1 hy with hy | hy
    · exact h y hy
    · rw [List.mem_singleton.1 hy]
      exact name16 (by cases hb : nameB (nmOf p).data.toList; exact absurd hb hn; rfl)
theorem portsV_nm (s : ByteArray) : ∀ q ∈ (portsV s).1, q.1.size ≤ 16 := fun q hq => by
  unfold portsV at hq
  split at hq
  · cases hq
  · exact portsGo_nm _ _ (fun y hy => by cases hy) q hq
theorem getT_sz {L : List Two} {x : ByteArray} (h : ∀ r ∈ L, r.2.size ≤ 64) : (getT L x).1.size ≤ 64 := by
  cases hg : (getT L x).2
  · rw [getT_false hg]; decide
  · have hm := (mrgT_iff x (getT L x).1 L).2 (Prod.ext rfl hg)
    exact h _ (mrgT_mem hm)
theorem labelT_sz {L : List Two} {o : ByteArray} (h : ∀ r ∈ L, r.2.size ≤ 64) (ho : o.size ≤ 64) : (labelT L o).size ≤ 64 := by
  unfold labelT
  split
  · exact getT_sz h
  · exact ho
theorem finNs_mem : ∀ {N : List (ByteArray × Int)} {A : List (List Two)} {x : Nd}, x ∈ finNs N A → ∃ q ∈ N, ∃ l ∈ A, x = finN q l
  | [], _, x, h => by unfold finNs at h; cases h
  | q :: r, [], x, h => by unfold finNs at h; cases h
  | q :: r, l :: s, x, h => by
    unfold finNs at h
    rcases List.mem_cons.1 h with rfl | h
    · exact ⟨q, by simp, l, by simp, rfl⟩
    · obtain ⟨q', h1, l', h2, h3⟩ := finNs_mem h
      exact ⟨q', by simp [h1], l', by simp [h2], h3⟩
theorem finNs_len : ∀ (N : List (ByteArray × Int)) (A : List (List Two)), A.length = N.length → (finNs N A).length = N.length
  | [], _, _ => by unfold finNs; rfl
  | q :: r, [], h => by cases h
  | q :: r, l :: s, h => by
    unfold finNs
    rw [List.length_cons, List.length_cons, finNs_len r s (by simpa using h)]
theorem finEs_mem : ∀ {L : List Nd} {K : List Lk} {E : List Ed}, finEs L K = some E → E.length = K.length ∧ ∀ e ∈ E, ∃ x ∈ K, finE L x = some e
  | L, [], E, h => by
    unfold finEs at h
    injection h with h
    subst h
    exact ⟨rfl, fun e he => by cases he⟩
  | L, x :: r, E, h => by
    unfold finEs at h
    split at h
    · cases h
    · rename_i e he
      cases hr : finEs L r with
      | none => rw [hr] at h; cases h
      | some F =>
        rw [hr] at h
        injection h with h
        subst h
        obtain ⟨h1, h2⟩ := finEs_mem hr
        refine ⟨by simp [h1], fun y hy => ?_⟩
        rcases List.mem_cons.1 hy with rfl | hy
        · exact ⟨x, by simp, he⟩
        · obtain ⟨z, hz, hze⟩ := h2 y hy
          exact ⟨z, by simp [hz], hze⟩
theorem finE_label {L : List Nd} {x : Lk} {e : Ed} (h : finE L x = some e) : e.label = labelT x.at' ⟨#[]⟩ := by
  unfold finE at h
  dsimp only at h
  split at h
  · cases h
  · injection h with h
    rw [← h]
theorem grSm_of {nm : ByteArray} {dir : Bool} {m k : Nat} {S : St} {E : List Ed} (hn : nm.size ≤ 64) (h : Sml m k S) (hm : m ≤ 10000) (hk : k ≤ 10000) (he : finEs (finNs S.N S.A) S.K = some E) : GrSm ⟨nm, dir, finNs S.N S.A, E, S.C⟩ := by
  obtain ⟨h1, h2⟩ := finEs_mem he
  have h3 := h.n; have h4 := h.c; have h5 := h.l
  refine ⟨by show nm.size ≤ _; omega, ?_, ?_, by show S.C.length ≤ _; omega, fun x hx => ?_, fun x hx => ?_, fun x hx => ?_⟩
  · show (finNs S.N S.A).length ≤ _
    rw [finNs_len _ _ h.a]; omega
  · show E.length ≤ _; omega
  · obtain ⟨q, hq, l, hl, rfl⟩ := finNs_mem hx
    have e1 := (h.nn q hq).1
    have e2 := (h.at' l hl).2
    have e3 := labelT_sz (L := l) (o := q.1) (fun r hr => (e2 r hr).2) e1
    have e4 := portsV_len (getT l kPorts).1
    refine ⟨by show q.1.size ≤ _; omega, by show (labelT l q.1).size ≤ _; omega, by show (portsV (getT l kPorts).1).1.length ≤ _; omega, fun p hp => ?_⟩
    have := portsV_nm _ p hp
    omega
  · have := (h.cc x hx).1; omega
  · obtain ⟨y, hy, he⟩ := h2 x hx
    rw [finE_label he]
    have e2 := (h.kt y hy).1.2
    have := labelT_sz (L := y.at') (o := ⟨#[]⟩) (fun r hr => (e2 r hr).2) (by decide)
    omega
theorem portGo_ge (n : ByteArray) : ∀ (L : List Prt) (k : Int), portGo n k L = -2 ∨ k ≤ portGo n k L
  | [], k => .inl rfl
  | q :: r, k => by
    unfold portGo
    split
    · exact .inr (Int.le_refl _)
    · rcases portGo_ge n r (k + 1) with h | h
      · exact .inl h
      · exact .inr (by omega)
theorem portT_cases (L : List Prt) (n : ByteArray) : (portT L n = -2 ∧ n.size ≠ 0) ∨ (portT L n = -1 ∧ n.size = 0) ∨ 0 ≤ portT L n := by
  unfold portT
  split
  · rename_i h; exact .inr (.inl ⟨rfl, h⟩)
  · rename_i h
    rcases portGo_ge n L 0 with e | e
    · exact .inl ⟨e, h⟩
    · exact .inr (.inr e)
end Go.Proofs.YtnancphlkbfglaaGreatDoor.Nm

namespace Go.Proofs.YtnancphlkbfglaaGreatDoor.Nm
open Go.RowKit Go.Sort Go.Lib Fx Lx Tr At
variable {w0 w w2 : World} {bb m1 m2 B gg gb : Nat} {G : Obj} {nm : ByteArray} {dir : Bool} {nv av cv lv : Value} {aw : List Value} {ks : List (Lk × Value)} {S : St} {NV : List (Nd × Value)} {FE : Option (List Ed)} {j : Nat} {E : List Ed} {ev : Value}
theorem LnkAt.ext (h : LnkAt w0 bb m1 m2 B gg gb G nm dir nv av cv lv aw ks S NV FE j E ev w) (x : Ext w w2) : LnkAt w0 bb m1 m2 B gg gb G nm dir nv av cv lv aw ks S NV FE j E ev w2 :=
  ⟨h.f.ext x, At.heap_ext h.g x, At.heap_ext h.gr x, At.own_ext h.e x, h.acc, h.el⟩
theorem finEs_cons (L : List Nd) (x : Lk) (r : List Lk) : finEs L (x :: r) = match finE L x with | none => none | some e => (finEs L r).map (e :: ·) := by rw [finEs]; rfl
theorem LnkAt.app {cs : Array Value} (h : LnkAt w0 bb m1 m2 B gg gb (.cells cs 31 (0, 0)) nm dir nv av cv lv aw ks S NV FE j E ev w) (hgb : gg < gb) (hgw : w0.heap.size ≤ gb) {ev' : Value} {n' : Nat} (q : Ed) (hn : n' = E.length + 1) (ho : w2.ownsRow B 60 7 ev' n' (edsC E ++ edC q)) (hg : w.grownBy w2 ev.ownBlock) (hj : j < S.K.length) (hq : finE (NV.map Prod.fst) S.K[j] = some q) :
    LnkAt w0 bb m1 m2 B gg gb (.cells cs 31 (0, 0)) nm dir nv av cv lv aw ks S NV FE (j + 1) (E ++ [q]) ev' (w2.setCell ⟨gb, 3, none⟩ ev') := by
  have ht := row_ty h.e
  have hs := set_grown w2 gb 3 ev'
  have hr2 := cel_keep h.gr hg ht (nope (by decide))
  have hst := cel_ty hr2
  have hlo : ∀ k, ev.ownBlock = some k → w0.heap.size ≤ k := fun k e => by have := (h.e.lt k e).1; have := h.f.lo; omega
  subst hn
  refine ⟨(h.f.keep hg ht hlo (by decide) (by decide) (by decide) (by decide) (by decide) (by decide) (by decide)).keep hs hst (fun k e => by injection e with e; subst e; exact hgw) (by decide) (by decide) (by decide) (by decide) (by decide) (by decide) (by decide), (Below.heap_setCell _ _ _ _ (show gg ≠ gb by omega)).trans (cel_keep h.g hg ht (nope (by decide))), by rw [blk_set hr2]; rfl, ?_, ?_, by rw [List.length_append, h.el]; rfl⟩
  · have := row_keep ho hs hst (nope (by decide))
    rw [edsC_snoc]
    simpa using this
  · rw [h.acc, List.drop_eq_getElem_cons hj]
    rw [finEs_cons, hq]
    cases finEs (NV.map Prod.fst) (S.K.drop (j + 1)) <;> simp
theorem LnkAt.none' (h : LnkAt w0 bb m1 m2 B gg gb G nm dir nv av cv lv aw ks S NV FE j E ev w) (hj : j < S.K.length) (hq : finE (NV.map Prod.fst) S.K[j] = none) : FE = none := by
  rw [h.acc, List.drop_eq_getElem_cons hj]
  rw [finEs_cons, hq]
  rfl
theorem finNs_ports {m k : Nat} {S : St} (h : Sml m k S) : ∀ x ∈ finNs S.N S.A, x.ports.length ≤ 1000000 := fun x hx => by
  obtain ⟨q, hq, l, hl, rfl⟩ := finNs_mem hx
  have e2 := (h.at' l hl).2
  have e4 := portsV_len (getT l kPorts).1
  show (portsV (getT l kPorts).1).1.length ≤ _
  omega
theorem port_dec (L : List Prt) (n : ByteArray) : decide (0 ≤ ixP (portT L n) ∨ n.size = 0) = !decide (portT L n = -2) := by
  unfold ixP
  rcases portT_cases L n with ⟨h, h2⟩ | ⟨h, h2⟩ | h
  · rw [h]; simp [h2]
  · rw [h]; simp [h2]
  · have : portT L n ≠ -2 := by omega
    simp [this, h]
theorem ixP_ne {y : Int} (h : y ≠ -2) : ixP y = y := by unfold ixP; rw [if_neg h]
theorem finE_at {NV : List (Nd × Value)} {x : Lk} (ha : x.a < NV.length) (hb : x.b < NV.length) : finE (NV.map Prod.fst) x = if portT NV[x.a].1.ports x.ap = -2 ∨ portT NV[x.b].1.ports x.bp = -2 then none else some ⟨x.a, x.b, portT NV[x.a].1.ports x.ap, portT NV[x.b].1.ports x.bp, labelT x.at' ⟨#[]⟩, numK 2 x.at' kWeight, numK 2 x.at' kLen⟩ := by
  have e1 : ((NV.map Prod.fst)[x.a]?.map Nd.ports).getD [] = NV[x.a].1.ports := by rw [List.getElem?_map, List.getElem?_eq_getElem ha]; rfl
  have e2 : ((NV.map Prod.fst)[x.b]?.map Nd.ports).getD [] = NV[x.b].1.ports := by rw [List.getElem?_map, List.getElem?_eq_getElem hb]; rfl
  unfold finE
  rw [e1, e2]
theorem gr_of (f : FinAt w0 bb m1 m2 B w nv av cv lv aw ks S NV) (e : w.ownsRow B 60 7 ev E.length (edsC E)) : GrIn w (.agg #[.string nm, .bool dir, nv, ev, cv]) ⟨nm, dir, NV.map Prod.fst, E, S.C⟩ ∧ GrCp w (.agg #[.string nm, .bool dir, nv, ev, cv]) ⟨nm, dir, NV.map Prod.fst, E, S.C⟩ := by
  obtain ⟨na, nc, rfl, h1, h2⟩ := row_nd f.N f.P
  obtain ⟨ea, ec, rfl, h3⟩ := row_ed e
  obtain ⟨ca, cc, rfl, h4, h5, h6⟩ := row_cl f.C
  exact ⟨⟨na, nc, ea, ec, ca, cc, rfl, h1, h3, h4⟩, ⟨na, nc, ea, ec, ca, cc, rfl, h2, h5, h6⟩⟩
theorem gr_set {cs : Array Value} (f : FinAt w0 bb m1 m2 B w nv av cv lv aw ks S NV) (e : w.ownsRow B 60 7 ev E.length (edsC E)) (hg : w.heap[gg]? = some (.cells cs 31 (0, 0))) (hgg : w0.heap.size ≤ gg) (k : Nat) (u : Value) :
    FinAt w0 bb m1 m2 B (w.setCell ⟨gg, k, none⟩ u) nv av cv lv aw ks S NV ∧ (w.setCell ⟨gg, k, none⟩ u).ownsRow B 60 7 ev E.length (edsC E) ∧ (w.setCell ⟨gg, k, none⟩ u).heap[gg]? = some (.cells (cs.setIfInBounds k u) 31 (0, 0)) :=
  ⟨f.keep (set_grown w gg k u) (cel_ty hg) (fun k e => by injection e with e; subst e; exact hgg) (by decide) (by decide) (by decide) (by decide) (by decide) (by decide) (by decide), row_keep e (set_grown w gg k u) (cel_ty hg) (nope (by decide)), blk_set hg k u⟩
theorem gr_set5 {cs : Array Value} (f : FinAt w0 bb m1 m2 B w nv av cv lv aw ks S NV) (e : w.ownsRow B 60 7 ev E.length (edsC E)) (hg : w.heap[gg]? = some (.cells cs 31 (0, 0))) (hgg : w0.heap.size ≤ gg) (v0 v1 v2 v3 v4 : Value) :
    FinAt w0 bb m1 m2 B (((((w.setCell ⟨gg, 0, none⟩ v0).setCell ⟨gg, 1, none⟩ v1).setCell ⟨gg, 2, none⟩ v2).setCell ⟨gg, 3, none⟩ v3).setCell ⟨gg, 4, none⟩ v4) nv av cv lv aw ks S NV ∧ (((((w.setCell ⟨gg, 0, none⟩ v0).setCell ⟨gg, 1, none⟩ v1).setCell ⟨gg, 2, none⟩ v2).setCell ⟨gg, 3, none⟩ v3).setCell ⟨gg, 4, none⟩ v4).ownsRow B 60 7 ev E.length (edsC E) := by
  obtain ⟨f, e, hg⟩ := gr_set f e hg hgg 0 v0
  obtain ⟨f, e, hg⟩ := gr_set f e hg hgg 1 v1
  obtain ⟨f, e, hg⟩ := gr_set f e hg hgg 2 v2
  obtain ⟨f, e, hg⟩ := gr_set f e hg hgg 3 v3
  obtain ⟨f, e, hg⟩ := gr_set f e hg hgg 4 v4
  exact ⟨f, e⟩
theorem cells7v {w : World} {g : Nat} {T : TypeId} {c0 c1 c2 c3 c4 c5 c6 : Value} (h : w.heap[g]? = some (.cells #[c0, c1, c2, c3, c4, c5, c6] T (0, 0))) :
    w.cell? ⟨g, 0, none⟩ = some c0 ∧ w.cell? ⟨g, 1, none⟩ = some c1 ∧ w.cell? ⟨g, 2, none⟩ = some c2 ∧ w.cell? ⟨g, 3, none⟩ = some c3 ∧ w.cell? ⟨g, 4, none⟩ = some c4 ∧ w.cell? ⟨g, 5, none⟩ = some c5 ∧ w.cell? ⟨g, 6, none⟩ = some c6 ∧ ∀ j, w.frozen? ⟨g, j, none⟩ = false := by
  refine ⟨?_, ?_, ?_, ?_, ?_, ?_, ?_, fun j => Lib.frozen_of_heap h j⟩ <;> (rw [Lib.cell_of_heap h]; rfl)
theorem set23 {w : World} {g : Nat} {T : TypeId} {c0 c1 c2 c3 c4 c5 c6 : Value} (h : w.heap[g]? = some (.cells #[c0, c1, c2, c3, c4, c5, c6] T (0, 0))) (v2 v3 : Value) :
    ((w.setCell ⟨g, 2, none⟩ v2).setCell ⟨g, 3, none⟩ v3).heap[g]? = some (.cells #[c0, c1, v2, v3, c4, c5, c6] T (0, 0)) := by
  have h1 : (w.setCell ⟨g, 2, none⟩ v2).heap[g]? = some (.cells #[c0, c1, v2, c3, c4, c5, c6] T (0, 0)) := blk_set h 2 v2
  exact blk_set h1 3 v3
end Go.Proofs.YtnancphlkbfglaaGreatDoor.Nm

namespace Go.Proofs.YtnancphlkbfglaaGreatDoor.Nm
open Go.RowKit Go.Sort Go.Lib Go.Shelf Fx Lx Tr At
theorem size_nd : (Tryz.prog.info? 40).map (·.size) = some 6 := by kernel_rfl
structure NB (w : World) (gb gr : Nat) (a0 a1 a2 a3 a4 a5 : Value) (wr : World) : Prop where
  b : wr.heap[gb]? = some (.cells #[a0, a1, a2, a3, a4, a5] 40 (0, 0))
  r : ∃ z0 z1 z2 z3 z4 z5, wr.heap[gr]? = some (.cells #[z0, z1, z2, z3, z4, z5] 40 (0, 0))
  x : Ext w wr
  l : w.heap.size ≤ gb ∧ gb < gr
section
variable {w wr w2 : World} {gb gr : Nat} {a0 a1 a2 a3 a4 a5 : Value}
theorem NB.ext (h : NB w gb gr a0 a1 a2 a3 a4 a5 wr) (x : Ext wr w2) : NB w gb gr a0 a1 a2 a3 a4 a5 w2 :=
  ⟨At.heap_ext h.b x, by obtain ⟨z0, z1, z2, z3, z4, z5, hz⟩ := h.r; exact ⟨z0, z1, z2, z3, z4, z5, At.heap_ext hz x⟩, h.x.trans x, h.l⟩
theorem NB.set (h : NB w gb gr a0 a1 a2 a3 a4 a5 wr) (j : Nat) (u b0 b1 b2 b3 b4 b5 : Value) (e : (#[a0, a1, a2, a3, a4, a5] : Array Value).setIfInBounds j u = #[b0, b1, b2, b3, b4, b5]) : NB w gb gr b0 b1 b2 b3 b4 b5 (wr.setCell ⟨gb, j, none⟩ u) := by
  obtain ⟨z0, z1, z2, z3, z4, z5, hz⟩ := h.r
  exact ⟨by rw [blk_set h.b, e], ⟨z0, z1, z2, z3, z4, z5, by rw [Below.heap_setCell _ _ _ _ (show gr ≠ gb by have := h.l; omega)]; exact hz⟩, h.x.setCell h.l.1 _, h.l⟩
theorem NB.cells (h : NB w gb gr a0 a1 a2 a3 a4 a5 wr) : wr.cell? ⟨gb, 0, none⟩ = some a0 ∧ wr.cell? ⟨gb, 1, none⟩ = some a1 ∧ wr.cell? ⟨gb, 2, none⟩ = some a2 ∧ wr.cell? ⟨gb, 3, none⟩ = some a3 ∧ wr.cell? ⟨gb, 4, none⟩ = some a4 ∧ wr.cell? ⟨gb, 5, none⟩ = some a5 ∧ (∀ j, wr.frozen? ⟨gb, j, none⟩ = false) := by
  refine ⟨?_, ?_, ?_, ?_, ?_, ?_, fun j => Lib.frozen_of_heap h.b j⟩ <;> (rw [Lib.cell_of_heap h.b]; rfl)
set_option maxHeartbeats 2000000 in
theorem NB.rset (h : NB w gb gr a0 a1 a2 a3 a4 a5 wr) : (∀ j, wr.frozen? ⟨gr, j, none⟩ = false) ∧ (∀ j, j < 6 → ∃ u, wr.cell? ⟨gr, j, none⟩ = some u) ∧ ∀ v0 v1 v2 v3 v4 v5 : Value, ((((((wr.setCell ⟨gr, 0, none⟩ v0).setCell ⟨gr, 1, none⟩ v1).setCell ⟨gr, 2, none⟩ v2).setCell ⟨gr, 3, none⟩ v3).setCell ⟨gr, 4, none⟩ v4).setCell ⟨gr, 5, none⟩ v5).heap[gr]? = some (.cells #[v0, v1, v2, v3, v4, v5] 40 (0, 0)) ∧
    Ext w ((((((wr.setCell ⟨gr, 0, none⟩ v0).setCell ⟨gr, 1, none⟩ v1).setCell ⟨gr, 2, none⟩ v2).setCell ⟨gr, 3, none⟩ v3).setCell ⟨gr, 4, none⟩ v4).setCell ⟨gr, 5, none⟩ v5) ∧
    wr.grownBy ((((((wr.setCell ⟨gr, 0, none⟩ v0).setCell ⟨gr, 1, none⟩ v1).setCell ⟨gr, 2, none⟩ v2).setCell ⟨gr, 3, none⟩ v3).setCell ⟨gr, 4, none⟩ v4).setCell ⟨gr, 5, none⟩ v5) (some gr) ∧ TyOf wr (some gr) (some 40) := by
  obtain ⟨z0, z1, z2, z3, z4, z5, hz⟩ := h.r
  have hl : w.heap.size ≤ gr := by have := h.l; omega
  refine ⟨fun j => Lib.frozen_of_heap hz j, fun j hj => ?_, fun v0 v1 v2 v3 v4 v5 => ⟨?_, ?_, ?_, cel_ty hz⟩⟩
  · rw [Lib.cell_of_heap hz]
    match j, hj with
    | 0, _ => exact ⟨_, rfl⟩
    | 1, _ => exact ⟨_, rfl⟩
    | 2, _ => exact ⟨_, rfl⟩
    | 3, _ => exact ⟨_, rfl⟩
    | 4, _ => exact ⟨_, rfl⟩
    | 5, _ => exact ⟨_, rfl⟩
  · have h0 : (wr.setCell ⟨gr, 0, none⟩ v0).heap[gr]? = some (.cells #[v0, z1, z2, z3, z4, z5] 40 (0, 0)) := blk_set hz 0 v0
    have h1 : ((wr.setCell ⟨gr, 0, none⟩ v0).setCell ⟨gr, 1, none⟩ v1).heap[gr]? = some (.cells #[v0, v1, z2, z3, z4, z5] 40 (0, 0)) := blk_set h0 1 v1
    have h2 : (((wr.setCell ⟨gr, 0, none⟩ v0).setCell ⟨gr, 1, none⟩ v1).setCell ⟨gr, 2, none⟩ v2).heap[gr]? = some (.cells #[v0, v1, v2, z3, z4, z5] 40 (0, 0)) := blk_set h1 2 v2
    have h3 : ((((wr.setCell ⟨gr, 0, none⟩ v0).setCell ⟨gr, 1, none⟩ v1).setCell ⟨gr, 2, none⟩ v2).setCell ⟨gr, 3, none⟩ v3).heap[gr]? = some (.cells #[v0, v1, v2, v3, z4, z5] 40 (0, 0)) := blk_set h2 3 v3
    have h4 : (((((wr.setCell ⟨gr, 0, none⟩ v0).setCell ⟨gr, 1, none⟩ v1).setCell ⟨gr, 2, none⟩ v2).setCell ⟨gr, 3, none⟩ v3).setCell ⟨gr, 4, none⟩ v4).heap[gr]? = some (.cells #[v0, v1, v2, v3, v4, z5] 40 (0, 0)) := blk_set h3 4 v4
    have h5 : ((((((wr.setCell ⟨gr, 0, none⟩ v0).setCell ⟨gr, 1, none⟩ v1).setCell ⟨gr, 2, none⟩ v2).setCell ⟨gr, 3, none⟩ v3).setCell ⟨gr, 4, none⟩ v4).setCell ⟨gr, 5, none⟩ v5).heap[gr]? = some (.cells #[v0, v1, v2, v3, v4, v5] 40 (0, 0)) := blk_set h4 5 v5
    exact h5
  · exact (((((h.x.setCell hl _).setCell hl _).setCell hl _).setCell hl _).setCell hl _).setCell hl _
  · refine ⟨by simp [World.setCell], by simp [World.setCell], by simp [World.setCell], by simp [World.setCell], fun k _ hk => ?_⟩
    have hne : k ≠ gr := fun e => hk (by rw [e])
    rw [Below.heap_setCell _ _ _ _ (show k ≠ gr from hne), Below.heap_setCell _ _ _ _ (show k ≠ gr from hne), Below.heap_setCell _ _ _ _ (show k ≠ gr from hne), Below.heap_setCell _ _ _ _ (show k ≠ gr from hne), Below.heap_setCell _ _ _ _ (show k ≠ gr from hne), Below.heap_setCell _ _ _ _ (show k ≠ gr from hne)]
end
set_option maxHeartbeats 4000000 in
set_option maxRecDepth 100000 in
theorem finD_any (nm : ByteArray) (c : Int) (a : Option Addr) (l : List Two) (cap : Nat) (w : World) (h : AtrIn w a l) (hs : ∀ q ∈ l, q.2.size ≤ 64) (hL : l.length ≤ 1000000) :
    Calls Tryz.prog 81 #[.agg #[.string nm, .string ⟨#[]⟩, .int .i64 0, .int .i64 0, .int .i64 c, .slice none 0 0], .slice a l.length cap] w fun e w' => (∃ pv, e = .returned (.agg #[.string nm, .string (labelT l nm), .int .i64 (numK 1 l kWidth), .int .i64 (numK 1 l kHeight), .int .i64 c, pv]) ∧ PtL w' pv (finN (nm, c) l).ports) ∧ Ext w w' := by
  have hg1 := fun (w5 : World) (x : Ext w w5) => getR_any a l cap kLabel w5 (h.ext x) (by omega)
  have hg2 := fun (w5 : World) (x : Ext w w5) => getR_any a l cap kPorts w5 (h.ext x) (by omega)
  have hn1 := fun (w5 : World) (x : Ext w w5) => numR_any 1 a l cap kWidth w5 (h.ext x) (by omega) (fun q hq => by have := hs q hq; omega)
  have hn2 := fun (w5 : World) (x : Ext w w5) => numR_any 1 a l cap kHeight w5 (h.ext x) (by omega) (fun q hq => by have := hs q hq; omega)
  simp only [← num_same] at hn1 hn2
  have hpr := fun (w5 : World) => portsR_any (getT l kPorts).1 w5 (by have := getT_sz (x := kPorts) hs; omega)
  obtain ⟨LB, hLB⟩ : ∃ v, v = labelT l nm := ⟨_, rfl⟩
  obtain ⟨WD, hWD⟩ : ∃ v, v = numK 1 l kWidth := ⟨_, rfl⟩
  obtain ⟨HG, hHG⟩ : ∃ v, v = numK 1 l kHeight := ⟨_, rfl⟩
  obtain ⟨PV, hPV⟩ : ∃ v, v = portsV (getT l kPorts).1 := ⟨_, rfl⟩
  have hfp : (finN (nm, c) l).ports = PV.1 := by rw [hPV]; rfl
  rw [hfp, ← hLB, ← hWD, ← hHG]
  unfold numK at hWD hHG
  rw [← hWD] at hn1; rw [← hHG] at hn2
  simp only [← hPV] at hpr
  unfold labelT at hLB
  obtain ⟨⟨s1, b1⟩, hG1⟩ : ∃ G, G = getT l kLabel := ⟨_, rfl⟩
  obtain ⟨⟨s2, b2⟩, hG2⟩ : ∃ G, G = getT l kPorts := ⟨_, rfl⟩
  simp only [← hG1] at hg1 hLB
  simp only [← hG2] at hg2 hpr hPV
  have hp0 : b2 = false → PV.1 = [] := fun e => by
    subst e
    have := getT_false (L := l) (x := kPorts) (by rw [← hG2])
    rw [← hG2] at this
    injection this with this _
    rw [hPV, this]; rfl
  obtain ⟨LN, hLN⟩ : ∃ n, n = l.length := ⟨_, rfl⟩
  simp only [← hLN] at hg1 hg2 hn1 hn2
  rw [← hLN]
  unfold kLabel at hg1; unfold kPorts at hg2; unfold kWidth at hn1; unfold kHeight at hn2
  have HG1 := Lib.hid hg1; have HG2 := Lib.hid hg2; have HN1 := Lib.hid hn1; have HN2 := Lib.hid hn2; have HPR := Lib.hid hpr; have HLB := Lib.hid hLB; have HP0 := Lib.hid hp0
  clear hg1 hg2 hn1 hn2 hpr hLB hp0 hWD hHG hPV hG1 hG2 hLN hfp h hs hL
  go_enter Tryz.func81, Tryz.ntmps81
  go_wp2_with fail
  obtain ⟨gb, hgb⟩ : ∃ g, g = w.heap.size := ⟨_, rfl⟩
  obtain ⟨gr, hgr⟩ : ∃ g, g = w.heap.size + 1 := ⟨_, rfl⟩
  obtain ⟨w2, hw2⟩ : ∃ w2, w2 = (w.alloc (.cells #[.string nm, .string nm, .int .i64 0, .int .i64 0, .int .i64 c, .slice none 0 0] 40)).alloc (.cells #[.string ⟨#[]⟩, .string ⟨#[]⟩, .int .i64 0, .int .i64 0, .int .i64 0, .slice none 0 0] 40) := ⟨_, rfl⟩
  have B2 : Hid (NB w gb gr (.string nm) (.string nm) (.int .i64 0) (.int .i64 0) (.int .i64 c) (.slice none 0 0) w2) := Lib.hid (by
    rw [hgb, hgr, hw2]
    refine ⟨At.heap_ext (heap_alloc_new w _) ((Ext.refl _).alloc _), ⟨.string ⟨#[]⟩, .string ⟨#[]⟩, .int .i64 0, .int .i64 0, .int .i64 0, .slice none 0 0, ?_⟩, ((Ext.refl _).alloc _).alloc _, by omega⟩
    have h := heap_alloc_new (w.alloc (.cells #[.string nm, .string nm, .int .i64 0, .int .i64 0, .int .i64 c, .slice none 0 0] 40)) (.cells #[.string ⟨#[]⟩, .string ⟨#[]⟩, .int .i64 0, .int .i64 0, .int .i64 0, .slice none 0 0] 40)
    rw [World.size_alloc] at h
    exact h)
  rw [← hw2, ← hgr, ← hgb]
  clear hw2 hgr hgb
  refine (HG1.out _ B2.out.x).mono ?_
  rintro e w3 ⟨rfl, rfl⟩
  obtain ⟨c0, c1, c2, c3, c4, c5, cf⟩ := B2.out.cells
  have HL : Hid (∃ wL, (wL = w2 ∧ b1 = false ∨ wL = w2.setCell ⟨gb, 1, none⟩ (.string s1) ∧ b1 = true) ∧ NB w gb gr (.string nm) (.string LB) (.int .i64 0) (.int .i64 0) (.int .i64 c) (.slice none 0 0) wL) := Lib.hid (by
    cases b1 with
    | true => exact ⟨_, .inr ⟨rfl, rfl⟩, by rw [HLB.out, if_pos rfl]; exact B2.out.set 1 _ _ _ _ _ _ _ rfl⟩
    | false => exact ⟨_, .inl ⟨rfl, rfl⟩, by rw [HLB.out, if_neg (by decide)]; exact B2.out⟩)
  obtain ⟨wL, hwL, hBL⟩ := HL.out
  have BL := Lib.hid hBL
  clear HL hBL
  cases b1 with
  | true =>
    have hwL : wL = w2.setCell ⟨gb, 1, none⟩ (.string s1) := by rcases hwL with h | h; exact absurd h.2 (by decide); exact h.1
    have HWL := Lib.hid hwL
    clear hwL
    go_wp2_with fail
    rw [← HWL.out]
    clear HWL c0 c1 c2 c3 c4 c5 cf B2
    refine (HN1.out _ BL.out.x).mono ?_
    rintro e w4 ⟨rfl, x4⟩
    go_wp2_with fail
    refine (HN2.out _ (BL.out.ext x4).x).mono ?_
    rintro e w5 ⟨rfl, x5⟩
    have B5 := Lib.hid ((BL.out.ext x4).ext x5)
    clear BL x4 x5
    obtain ⟨d0, d1, d2, d3, d4, d5, df⟩ := B5.out.cells
    have B6 := Lib.hid ((B5.out.set 2 (.int .i64 WD) _ _ _ _ _ _ rfl).set 3 (.int .i64 HG) _ _ _ _ _ _ rfl)
    go_wp2_with fail
    obtain ⟨w6, hw6⟩ : ∃ w6, w6 = (w5.setCell ⟨gb, 2, none⟩ (.int .i64 WD)).setCell ⟨gb, 3, none⟩ (.int .i64 HG) := ⟨_, rfl⟩
    rw [← hw6] at B6 ⊢
    clear hw6 B5 d0 d1 d2 d3 d4 d5 df
    refine (HG2.out _ B6.out.x).mono ?_
    rintro e w7 ⟨rfl, rfl⟩
    cases b2 with
    | true =>
      go_wp2_with fail
      refine (HPR.out _).mono ?_
      rintro e w8 ⟨⟨pv, rfl, hown⟩, x8⟩
      obtain ⟨pp, pc, rfl, hpi, hpl, hpm, hpb⟩ := own_ptL hown
      have B8 := Lib.hid (B6.out.ext x8)
      have HPT := Lib.hid ((show PtL w8 (.slice pp PV.1.length pc) PV.1 from ⟨pp, pc, rfl, hpi, hpl, hpm, hpb⟩).keep (set_grown w8 gb 5 (.slice pp PV.1.length pc)) (cel_ty B8.out.b) (by decide))
      clear hpi hpl hpm hpb hown B6 x8
      obtain ⟨d0, d1, d2, d3, d4, d5, df⟩ := B8.out.cells
      have B9 := Lib.hid (B8.out.set 5 (.slice pp PV.1.length pc) _ _ _ _ _ _ rfl)
      have HR := B9.out.rset
      obtain ⟨k0, k1, k2, k3, k4, k5, -⟩ := B9.out.cells
      have kf := HR.1
      obtain ⟨r0, hr0⟩ := HR.2.1 0 (by decide)
      obtain ⟨r1, hr1⟩ := HR.2.1 1 (by decide)
      obtain ⟨r2, hr2⟩ := HR.2.1 2 (by decide)
      obtain ⟨r3, hr3⟩ := HR.2.1 3 (by decide)
      obtain ⟨r4, hr4⟩ := HR.2.1 4 (by decide)
      obtain ⟨r5, hr5⟩ := HR.2.1 5 (by decide)
      go_wp2
      (try simp only [Exit.inBlock, Exit.then])
      have HZ := HR.2.2 (.string nm) (.string LB) (.int .i64 WD) (.int .i64 HG) (.int .i64 c) (.slice pp PV.1.length pc)
      refine bodyPost_ret (results_cell_row rfl _ _ gr 40 #[.string nm, .string LB, .int .i64 WD, .int .i64 HG, .int .i64 c, .slice pp PV.1.length pc] (0, 0) _ rfl HZ.1 Tryz.underlying40 rfl size_nd) rfl ?_
      exact ⟨⟨_, rfl, HPT.out.keep HZ.2.2.1 HZ.2.2.2 (by decide)⟩, HZ.2.1⟩
    | false =>
      have B9 := B6
      have HR := B9.out.rset
      obtain ⟨k0, k1, k2, k3, k4, k5, -⟩ := B9.out.cells
      have kf := HR.1
      obtain ⟨r0, hr0⟩ := HR.2.1 0 (by decide)
      obtain ⟨r1, hr1⟩ := HR.2.1 1 (by decide)
      obtain ⟨r2, hr2⟩ := HR.2.1 2 (by decide)
      obtain ⟨r3, hr3⟩ := HR.2.1 3 (by decide)
      obtain ⟨r4, hr4⟩ := HR.2.1 4 (by decide)
      obtain ⟨r5, hr5⟩ := HR.2.1 5 (by decide)
      go_wp2
      (try simp only [Exit.inBlock, Exit.then])
      have HZ := HR.2.2 (.string nm) (.string LB) (.int .i64 WD) (.int .i64 HG) (.int .i64 c) (.slice none 0 0)
      refine bodyPost_ret (results_cell_row rfl _ _ gr 40 #[.string nm, .string LB, .int .i64 WD, .int .i64 HG, .int .i64 c, .slice none 0 0] (0, 0) _ rfl HZ.1 Tryz.underlying40 rfl size_nd) rfl ?_
      exact ⟨⟨_, rfl, by rw [HP0.out (by trivial)]; exact PtL.nil _⟩, HZ.2.1⟩
  | false =>
    have hwL : wL = w2 := by rcases hwL with h | h; exact h.1; exact absurd h.2 (by decide)
    subst hwL
    go_wp2_with fail
    clear c0 c1 c2 c3 c4 c5 cf B2
    refine (HN1.out _ BL.out.x).mono ?_
    rintro e w4 ⟨rfl, x4⟩
    go_wp2_with fail
    refine (HN2.out _ (BL.out.ext x4).x).mono ?_
    rintro e w5 ⟨rfl, x5⟩
    have B5 := Lib.hid ((BL.out.ext x4).ext x5)
    clear BL x4 x5
    obtain ⟨d0, d1, d2, d3, d4, d5, df⟩ := B5.out.cells
    have B6 := Lib.hid ((B5.out.set 2 (.int .i64 WD) _ _ _ _ _ _ rfl).set 3 (.int .i64 HG) _ _ _ _ _ _ rfl)
    go_wp2_with fail
    obtain ⟨w6, hw6⟩ : ∃ w6, w6 = (w5.setCell ⟨gb, 2, none⟩ (.int .i64 WD)).setCell ⟨gb, 3, none⟩ (.int .i64 HG) := ⟨_, rfl⟩
    rw [← hw6] at B6 ⊢
    clear hw6 B5 d0 d1 d2 d3 d4 d5 df
    refine (HG2.out _ B6.out.x).mono ?_
    rintro e w7 ⟨rfl, rfl⟩
    cases b2 with
    | true =>
      go_wp2_with fail
      refine (HPR.out _).mono ?_
      rintro e w8 ⟨⟨pv, rfl, hown⟩, x8⟩
      obtain ⟨pp, pc, rfl, hpi, hpl, hpm, hpb⟩ := own_ptL hown
      have B8 := Lib.hid (B6.out.ext x8)
      have HPT := Lib.hid ((show PtL w8 (.slice pp PV.1.length pc) PV.1 from ⟨pp, pc, rfl, hpi, hpl, hpm, hpb⟩).keep (set_grown w8 gb 5 (.slice pp PV.1.length pc)) (cel_ty B8.out.b) (by decide))
      clear hpi hpl hpm hpb hown B6 x8
      obtain ⟨d0, d1, d2, d3, d4, d5, df⟩ := B8.out.cells
      have B9 := Lib.hid (B8.out.set 5 (.slice pp PV.1.length pc) _ _ _ _ _ _ rfl)
      have HR := B9.out.rset
      obtain ⟨k0, k1, k2, k3, k4, k5, -⟩ := B9.out.cells
      have kf := HR.1
      obtain ⟨r0, hr0⟩ := HR.2.1 0 (by decide)
      obtain ⟨r1, hr1⟩ := HR.2.1 1 (by decide)
      obtain ⟨r2, hr2⟩ := HR.2.1 2 (by decide)
      obtain ⟨r3, hr3⟩ := HR.2.1 3 (by decide)
      obtain ⟨r4, hr4⟩ := HR.2.1 4 (by decide)
      obtain ⟨r5, hr5⟩ := HR.2.1 5 (by decide)
      go_wp2
      (try simp only [Exit.inBlock, Exit.then])
      have HZ := HR.2.2 (.string nm) (.string LB) (.int .i64 WD) (.int .i64 HG) (.int .i64 c) (.slice pp PV.1.length pc)
      refine bodyPost_ret (results_cell_row rfl _ _ gr 40 #[.string nm, .string LB, .int .i64 WD, .int .i64 HG, .int .i64 c, .slice pp PV.1.length pc] (0, 0) _ rfl HZ.1 Tryz.underlying40 rfl size_nd) rfl ?_
      exact ⟨⟨_, rfl, HPT.out.keep HZ.2.2.1 HZ.2.2.2 (by decide)⟩, HZ.2.1⟩
    | false =>
      have B9 := B6
      have HR := B9.out.rset
      obtain ⟨k0, k1, k2, k3, k4, k5, -⟩ := B9.out.cells
      have kf := HR.1
      obtain ⟨r0, hr0⟩ := HR.2.1 0 (by decide)
      obtain ⟨r1, hr1⟩ := HR.2.1 1 (by decide)
      obtain ⟨r2, hr2⟩ := HR.2.1 2 (by decide)
      obtain ⟨r3, hr3⟩ := HR.2.1 3 (by decide)
      obtain ⟨r4, hr4⟩ := HR.2.1 4 (by decide)
      obtain ⟨r5, hr5⟩ := HR.2.1 5 (by decide)
      go_wp2
      (try simp only [Exit.inBlock, Exit.then])
      have HZ := HR.2.2 (.string nm) (.string LB) (.int .i64 WD) (.int .i64 HG) (.int .i64 c) (.slice none 0 0)
      refine bodyPost_ret (results_cell_row rfl _ _ gr 40 #[.string nm, .string LB, .int .i64 WD, .int .i64 HG, .int .i64 c, .slice none 0 0] (0, 0) _ rfl HZ.1 Tryz.underlying40 rfl size_nd) rfl ?_
      exact ⟨⟨_, rfl, by rw [HP0.out (by trivial)]; exact PtL.nil _⟩, HZ.2.1⟩
end Go.Proofs.YtnancphlkbfglaaGreatDoor.Nm

namespace Go.Proofs.YtnancphlkbfglaaGreatDoor.Nm
open Go.RowKit Go.Sort Go.Lib Fx Lx Tr At
theorem nvsC_snoc (L : List (Nd × Value)) (q : Nd × Value) : nvsC (L ++ [q]) = nvsC L ++ nvC q := by unfold nvsC; simp
theorem PtLs.snoc {w : World} {NV : List (Nd × Value)} (h : PtLs w NV) {y : Nd × Value} (hy : PtL w y.2 y.1.ports) : PtLs w (NV ++ [y]) := fun j x e => by
  by_cases hj : j < NV.length
  · rw [List.getElem?_append_left hj] at e
    exact h j x e
  · rw [List.getElem?_append_right (by omega)] at e
    have e2 := (List.getElem?_eq_some_iff.1 e).1
    have e3 : j - NV.length = 0 := by simpa using e2
    rw [e3] at e
    injection e with e
    subst e
    exact hy
structure FnD (ws : World) (gr gb : Nat) (nm : ByteArray) (dir : Bool) (cv : Value) (NV : List (Nd × Value)) (nv : Value) (E : List Ed) (ev : Value) (w : World) : Prop where
  rs : w.heap[gr]? = some (.cells #[.string ⟨#[]⟩, .bool false, .slice none 0 0, .slice none 0 0, .slice none 0 0] 31 (0, 0))
  gr' : w.heap[gb]? = some (.cells #[.string nm, .bool dir, nv, ev, cv] 31 (0, 0))
  N : w.ownsRow ws.heap.size 40 6 nv NV.length (nvsC NV)
  P : PtLs w NV
  E : w.ownsRow ws.heap.size 60 7 ev E.length (edsC E)
  X : Ext ws w
  lo : ws.heap.size ≤ gr ∧ gr < gb
variable {ws w wA w2 : World} {gr gb : Nat} {nm : ByteArray} {dir : Bool} {cv nv ev : Value} {NV : List (Nd × Value)} {E : List Ed}
theorem FnD.ext (h : FnD ws gr gb nm dir cv NV nv E ev w) (x : Ext w w2) : FnD ws gr gb nm dir cv NV nv E ev w2 :=
  ⟨At.heap_ext h.rs x, At.heap_ext h.gr' x, At.own_ext h.N x, h.P.ext x, At.own_ext h.E x, h.X.trans x, h.lo⟩
theorem FnD.appN (h : FnD ws gr gb nm dir cv NV nv E ev w) (x : Ext w wA) {v' : Value} {n' : Nat} (q : Nd × Value) (hq : PtL wA q.2 q.1.ports) (hn : n' = NV.length + 1) (ho : w2.ownsRow ws.heap.size 40 6 v' n' (nvsC NV ++ nvC q)) (hg : wA.grownBy w2 nv.ownBlock) :
    FnD ws gr gb nm dir cv (NV ++ [q]) v' E ev (w2.setCell ⟨gb, 2, none⟩ v') := by
  have h2 := h.ext x
  have ht := row_ty h2.N
  have hgr2 := cel_keep h2.gr' hg ht (nope (by decide))
  have hs := set_grown w2 gb 2 v'
  have hst := cel_ty hgr2
  have hlo := h.lo
  subst hn
  refine ⟨(Below.heap_setCell _ _ _ _ (show gr ≠ gb by omega)).trans (cel_keep h2.rs hg ht (nope (by decide))), by rw [blk_set hgr2]; rfl, ?_, ((h2.P.keep hg ht (nope (by decide))).snoc (hq.keep hg ht (nope (by decide)))).keep hs hst (nope (by decide)), row_keep (row_keep h2.E hg ht (nope (by decide))) hs hst (nope (by decide)), (ext_grown h2.X hg (fun k e => (h2.N.lt k e).1)).setCell (show ws.heap.size ≤ gb by omega) _, h.lo⟩
  have := row_keep ho hs hst (nope (by decide))
  rw [nvsC_snoc]
  simpa using this
theorem FnD.appE (h : FnD ws gr gb nm dir cv NV nv E ev w) (x : Ext w wA) {v' : Value} {n' : Nat} (q : Ed) (hn : n' = E.length + 1) (ho : w2.ownsRow ws.heap.size 60 7 v' n' (edsC E ++ edC q)) (hg : wA.grownBy w2 ev.ownBlock) :
    FnD ws gr gb nm dir cv NV nv (E ++ [q]) v' (w2.setCell ⟨gb, 3, none⟩ v') := by
  have h2 := h.ext x
  have ht := row_ty h2.E
  have hgr2 := cel_keep h2.gr' hg ht (nope (by decide))
  have hs := set_grown w2 gb 3 v'
  have hst := cel_ty hgr2
  have hlo := h.lo
  subst hn
  refine ⟨(Below.heap_setCell _ _ _ _ (show gr ≠ gb by omega)).trans (cel_keep h2.rs hg ht (nope (by decide))), by rw [blk_set hgr2]; rfl, row_keep (row_keep h2.N hg ht (nope (by decide))) hs hst (nope (by decide)), (h2.P.keep hg ht (nope (by decide))).keep hs hst (nope (by decide)), ?_, (ext_grown h2.X hg (fun k e => (h2.E.lt k e).1)).setCell (show ws.heap.size ≤ gb by omega) _, h.lo⟩
  have := row_keep ho hs hst (nope (by decide))
  rw [edsC_snoc]
  simpa using this
theorem FnD.made (h : FnD ws gr gb nm dir cv NV nv E ev w) {C : List (ByteArray × Int)} {B : Nat} (hc : w.ownsRow B 42 2 cv C.length (clsC C)) : GrIn w (.agg #[.string nm, .bool dir, nv, ev, cv]) ⟨nm, dir, NV.map Prod.fst, E, C⟩ := by
  obtain ⟨na, nc, rfl, h1, h2⟩ := row_nd h.N h.P
  obtain ⟨ea, ec, rfl, h3⟩ := row_ed h.E
  obtain ⟨ca, cc, rfl, h4, h5, h6⟩ := row_cl hc
  exact ⟨na, nc, ea, ec, ca, cc, rfl, h1, h3, h4⟩
end Go.Proofs.YtnancphlkbfglaaGreatDoor.Nm
