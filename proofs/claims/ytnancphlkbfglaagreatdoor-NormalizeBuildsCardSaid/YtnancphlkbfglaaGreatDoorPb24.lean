/- Packed texts: NorTail, NorBox, NorClus, TreFormB -/
import Derived.Deep.RegionHeld
import Derived.Deep.RegionHeld3
import Derived.Test.YtnancphlkbfglaaGreatDoorPb22
import Derived.Test.YtnancphlkbfglaaGreatDoorPb18
import Derived.BigQuiet
import Derived.Deep.CutRange
import Derived.Test.YtnancphlkbfglaaGreatDoorPb19
set_option linter.unusedVariables false
set_option linter.unusedSimpArgs false
namespace Go.Proofs.YtnancphlkbfglaaGreatDoor.Nm
open Go
section
variable {P : Program} {ops : Array Oper} {Q : Exit → Act → World → Prop} {md : Region.Mode} {S : World → Prop} {n : Nat}
def wpAnyK (P : Program) (md : Region.Mode) (ops : Array Oper) (Q : Exit → Act → World → Prop) (S : World → Prop) (n : Nat) : Nat → Array Bool → Act → World → Prop
  | 0, listed, a, w => Region.ready md ops listed = [] ∧ Q .normal a w
  | fuel + 1, listed, a, w =>
    (Region.ready md ops listed = [] → Q .normal a w) ∧
    ∀ i ∈ Region.ready md ops listed, wpOp P ops Q i (fun a' w' => (i ≠ n → S w') ∧ wpAnyK P md ops Q S n fuel (listed.setIfInBounds i true) a' w') a w
theorem wpAny_of_K : ∀ (fuel : Nat) (listed : Array Bool) (a : Act) (w : World), wpAnyK P md ops Q S n fuel listed a w → wpAny P md ops Q fuel listed a w
  | 0, _, _, _, h => h
  | fuel + 1, _, _, _, h => ⟨h.1, fun i hi => wpOp_mono (fun a' w' h' => wpAny_of_K fuel _ a' w' h'.2) (h.2 i hi)⟩
def waitsB (md : Region.Mode) (ops : Array Oper) (n i : Nat) : Bool :=
  match ops[n]? with
  | some on => on.after.any fun e => Region.binds md e && e.on == i
  | none => false
theorem waits_not {i : Nat} {listed : Array Bool} (hw : waitsB md ops n i = true) (hi : i ∈ Region.ready md ops listed) : n ∉ Region.ready md ops listed := fun hn => by
  obtain ⟨_, on, hon, hall⟩ := mem_ready.1 hn
  unfold waitsB at hw
  rw [hon] at hw
  obtain ⟨e, he, hb⟩ := Array.any_eq_true'.1 hw
  simp only [Bool.and_eq_true, beq_iff_eq] at hb
  have h1 := hall e he hb.1
  have h0 := (mem_ready.1 hi).1
  rw [hb.2] at h1
  rcases Nat.lt_or_ge i listed.size with h' | h'
  · simp [h'] at h0 h1; rw [h0] at h1; cases h1
  · simp [Array.getElem?_eq_none h'] at h1
theorem wpAnyK_first {i : Nat} {oi : Oper} {v : Value} (hi : ops[i]? = some oi) (hsel : ∀ (j : Nat) (o : Oper) cs b, ops[j]? = some o → o.op ≠ .select cs b) (hin : i ≠ n) (hw : waitsB md ops n i = true)
    (hQ : ∀ c a w, Q (.panic c) (a.put oi.dst v) w → Q (.panic c) a w) :
    ∀ (fuel : Nat) (listed : Array Bool) (a : Act) (w : World),
      (∀ j oj, ops[j]? = some oj → j ≠ i → listed.getD j true = false → (∀ e ∈ oj.after, Region.binds md e = true → e.on ≠ i) → oi.apart ops oj = true) →
      i ∈ Region.ready md ops listed → YieldsIf P ops S oi v a → S w →
      wpAnyK P md ops Q S n fuel (listed.setIfInBounds i true) (a.put oi.dst v) w → wpAnyK P md ops Q S n (fuel + 1) listed a w := by
  intro fuel
  induction fuel with
  | zero =>
    intro listed a w _ hr hy hS H
    refine ⟨fun h => (by rw [h] at hr; cases hr), fun j hj => ?_⟩
    by_cases hji : j = i
    · subst hji; exact hy.wpOp hi hS ⟨fun _ => hS, H⟩
    · have := ready_mono hj hji
      rw [H.1] at this
      cases this
  | succ fuel ih =>
    intro listed a w hfree hr hy hS H
    refine ⟨fun h => (by rw [h] at hr; cases hr), fun j hj => ?_⟩
    by_cases hji : j = i
    · subst hji; exact hy.wpOp hi hS ⟨fun _ => hS, H⟩
    · have h1 := H.2 j (ready_mono hj hji)
      have hjn : j ≠ n := fun e => waits_not hw hr (e ▸ hj)
      obtain ⟨hjun, oj, hoj, hall⟩ := mem_ready.1 hj
      have hnot : ∀ e ∈ oj.after, Region.binds md e = true → e.on ≠ i := fun e he hb heq => by
        have h1 := hall e he hb
        have h0 := (mem_ready.1 hr).1
        rw [heq] at h1
        rcases Nat.lt_or_ge i listed.size with h' | h'
        · simp [h'] at h0 h1; rw [h0] at h1; cases h1
        · simp [Array.getElem?_eq_none h'] at h1
      have h2 := wpOp_putIf hoj (hfree j oj hoj hji hjun hnot) (fun cs b => hsel i oi cs b hi) (fun cs b => hsel j oj cs b hoj) hQ hy h1
      have hfree' : ∀ k ok, ops[k]? = some ok → k ≠ i → (listed.setIfInBounds j true).getD k true = false →
          (∀ e ∈ ok.after, Region.binds md e = true → e.on ≠ i) → oi.apart ops ok = true := fun k ok hk hki hun hno => by
        refine hfree k ok hk hki ?_ hno
        by_cases hjk : j = k
        · subst hjk; exact hjun
        · rw [getD_set_ne true hjk] at hun; exact hun
      refine wpOp_mono (fun a' w' h3 => ⟨fun _ => h3.2.1 hjn, ih (listed.setIfInBounds j true) a' w' hfree' (ready_mono hr (Ne.symm hji)) h3.1 (h3.2.1 hjn) ?_⟩) h2
      rw [Array.setIfInBounds_comm _ _ hji]
      exact h3.2.2
theorem wpAnyK_take {i : Nat} {oi : Oper} {v : Value} {fuel : Nat} {listed : Array Bool} {a : Act} {w : World} (hi : ops[i]? = some oi)
    (hs : Region.noSelect ops = true) (hf : Region.free md ops listed i = true) (hr : (Region.ready md ops listed).contains i = true) (hw : (decide (i ≠ n) && waitsB md ops n i) = true)
    (hQ : ∀ c a w, Q (.panic c) (a.put oi.dst v) w → Q (.panic c) a w) (hy : YieldsIf P ops S oi v a) (hS : S w)
    (h : wpAnyK P md ops Q S n fuel (listed.setIfInBounds i true) (a.put oi.dst v) w) : wpAnyK P md ops Q S n (fuel + 1) listed a w := by
  rw [Bool.and_eq_true, decide_eq_true_eq] at hw
  exact wpAnyK_first hi (Region.noSelect_spec hs) hw.1 hw.2 hQ fuel listed a w (Region.free_spec hi hf) (by simpa using hr) hy hS h
theorem wpAnyK_step {i : Nat} {o : Oper} {fuel : Nat} {listed : Array Bool} {a : Act} {w : World} (ho : ops[i]? = some o) (hr : Region.ready md ops listed = [i])
    (h : ∀ K' : Act → World → Prop, Shut (∀ a w, (i ≠ n → S w) → ((i ≠ n → S w) → wpAnyK P md ops Q S n fuel (listed.setIfInBounds i true) a w) → K' a w) → if Region.wanted o (yielded ops a.tmps) = true then Oper.wp P o a w K' Q else K' (a.put o.dst undef) w) :
    wpAnyK P md ops Q S n (fuel + 1) listed a w := by
  refine ⟨fun h0 => absurd (hr ▸ h0) (by simp), fun j hj => ?_⟩
  rw [hr] at hj
  have hj' := List.mem_singleton.1 hj
  subst hj'
  exact wpOp_step ho (fun K' hK => h K' (fun a w hS hW => hK a w ⟨hS, hW hS⟩))
theorem wpAnyK_done {listed : Array Bool} {a : Act} {w : World} (hr : Region.ready md ops listed = []) (h : Q .normal a w) : ∀ fuel, wpAnyK P md ops Q S n fuel listed a w
  | 0 => ⟨hr, h⟩
  | _ + 1 => ⟨fun _ => h, by rw [hr]; simp⟩
theorem wp_region_K {id : Nat} {a : Act} {w : World} (hm : P.follows .mixedOrders = true) (hS : S w.drew)
    (h : S w.drew → wpAnyK P .any ops Q S n ops.size (Array.replicate ops.size false) a w.drew) : (Code.region id ops true).wp P Q a w :=
  wp_region_any hm (wpAny_of_K _ _ _ _ (h hS))
end
end Go.Proofs.YtnancphlkbfglaaGreatDoor.Nm

namespace Go.Proofs.YtnancphlkbfglaaGreatDoor.Nm
open Go.RowKit Go.Lib Fx Lx At
theorem noint {w : World} {gb : Nat} (hb : w.heap[gb]? = some (.cells #[.string ⟨#[]⟩, .bool false, .slice none 0 0, .slice none 0 0, .slice none 0 0] 31 (0, 0))) {g j : Nat} {x : Int} (h : w.cell? ⟨g, j, none⟩ = some (.int .i64 x)) : g ≠ gb := by
  rintro rfl
  rw [Lib.cell_of_heap hb] at h
  rcases j with _ | _ | _ | _ | _ | j <;> simp at h
theorem cell_set5 {w : World} {gb g j : Nat} {x : Value} (hg : g ≠ gb) (h : w.cell? ⟨g, j, none⟩ = some x) (v0 v1 v2 v3 v4 : Value) :
    (((((w.setCell ⟨gb, 0, none⟩ v0).setCell ⟨gb, 1, none⟩ v1).setCell ⟨gb, 2, none⟩ v2).setCell ⟨gb, 3, none⟩ v3).setCell ⟨gb, 4, none⟩ v4).cell? ⟨g, j, none⟩ = some x := by
  have key : ∀ (w : World) (i : Nat) (v : Value), w.cell? ⟨g, j, none⟩ = some x → (w.setCell ⟨gb, i, none⟩ v).cell? ⟨g, j, none⟩ = some x := fun w i v h => by
    rw [World.cell?_of_block (w := w) (a := ⟨g, j, none⟩) (Below.heap_setCell _ _ _ _ (fun e => hg (by simpa using e)))]
    exact h
  exact key _ _ _ (key _ _ _ (key _ _ _ (key _ _ _ (key _ _ _ h))))
theorem GrIn.box {w : World} {gb : Nat} {v : Value} {g : Gr} (h : GrIn w v g) (hb : w.heap[gb]? = some (.cells #[.string ⟨#[]⟩, .bool false, .slice none 0 0, .slice none 0 0, .slice none 0 0] 31 (0, 0))) (v0 v1 v2 v3 v4 : Value) :
    GrIn (((((w.setCell ⟨gb, 0, none⟩ v0).setCell ⟨gb, 1, none⟩ v1).setCell ⟨gb, 2, none⟩ v2).setCell ⟨gb, 3, none⟩ v3).setCell ⟨gb, 4, none⟩ v4) v g := by
  obtain ⟨n, nc, e, ec, c, cc, hv, h1, h2, h3⟩ := h
  refine ⟨n, nc, e, ec, c, cc, hv, fun k hk => ?_, fun k hk => ?_, fun k hk => ?_⟩
  · obtain ⟨g', o, p, c', ha, k0, k1, k2, k3, k4, k5, k6⟩ := h1 k hk
    have hn := noint hb k2
    refine ⟨g', o, p, c', ha, cell_set5 hn k0 _ _ _ _ _, cell_set5 hn k1 _ _ _ _ _, cell_set5 hn k2 _ _ _ _ _, cell_set5 hn k3 _ _ _ _ _, cell_set5 hn k4 _ _ _ _ _, cell_set5 hn k5 _ _ _ _ _, fun i hi => ?_⟩
    obtain ⟨g2, o2, e2, q0, q1⟩ := k6 i hi
    have hn2 := noint hb q1
    exact ⟨g2, o2, e2, cell_set5 hn2 q0 _ _ _ _ _, cell_set5 hn2 q1 _ _ _ _ _⟩
  · obtain ⟨g', o, ha, k0, k1, k2, k3, k4, k5, k6⟩ := h2 k hk
    have hn := noint hb k0
    exact ⟨g', o, ha, cell_set5 hn k0 _ _ _ _ _, cell_set5 hn k1 _ _ _ _ _, cell_set5 hn k2 _ _ _ _ _, cell_set5 hn k3 _ _ _ _ _, cell_set5 hn k4 _ _ _ _ _, cell_set5 hn k5 _ _ _ _ _, cell_set5 hn k6 _ _ _ _ _⟩
  · obtain ⟨g', o, ha, k0, k1⟩ := h3 k hk
    have hn := noint hb k1
    exact ⟨g', o, ha, cell_set5 hn k0 _ _ _ _ _, cell_set5 hn k1 _ _ _ _ _⟩
end Go.Proofs.YtnancphlkbfglaaGreatDoor.Nm

namespace Go.Proofs.YtnancphlkbfglaaGreatDoor.Nm
open Go.RowKit Go.Sort Go.Lib Go.Shelf Fx Lx Tr At
def BlkC (w0 : World) (bb m1 m2 B nn M : Nat) : Prop :=
  ∀ (L : List Stm) (b : Option Addr) (cap : Nat) (p : Pl) (pn pe : Value) (S : St) (k : Nat) (w : World), cntL L ≤ M → StmsAt nn w0 b L → L.length ≤ maxLen → okWL L → Sml (10 * k) k S → SmP k p → k + cntL L ≤ 512 → BldE w0 bb m1 m2 B w S → AtL w pn p.n → AtL w pe p.e →
    Calls Tryz.prog 24 #[.pointer (some ⟨bb, 0, none⟩), .slice b L.length cap, .agg #[.int .i64 p.c, pn, pe]] w fun e w' => BlkR w0 bb m1 m2 B (blkL p S L) e w' ∧ KeepB w w' ∧ Ext w0 w'
theorem BlkR.val {w0 : World} {bb m1 m2 B : Nat} {r : Except Int St} {e : Ending} {w' : World} (h : BlkR w0 bb m1 m2 B r e w') : ∃ v : Int, e = .returned (.int .i64 v) := by
  unfold BlkR at h
  split at h <;> exact ⟨_, h.1⟩
def clusT (p : Pl) (S : St) (n : ByteArray) (b : List Stm) : Except Int St :=
  if (S.idx n).isSome = true ∨ S.taken n = true then .error 6 else blkL { p with c := S.C.length } { S with C := S.C ++ [(n, p.c)] } b
set_option maxHeartbeats 4000000 in
set_option maxRecDepth 100000 in
theorem clus_of (w0 : World) (bb m1 m2 B nn M k : Nat) (hM : BlkC w0 bb m1 m2 B nn M) (nm : ByteArray) (body : List Stm) (p : Pl) (pn pe : Value) (S : St) (r a b : Option Addr) (Rn An rc ac bc : Nat) (w : World) (hb : BldE w0 bb m1 m2 B w S) (hpn : AtL w pn p.n) (hpe : AtL w pe p.e)
    (hbd : StmsAt nn w0 b body) (hbl : body.length ≤ maxLen) (hcm : cntL body ≤ M) (hok : okWL body) (hs : Sml (10 * k) k S) (hp : SmP k p) (hk : k + cntL body + 1 ≤ 512) (hn : nm.size ≤ 64) :
    Calls Tryz.prog 59 #[.pointer (some ⟨bb, 0, none⟩), .agg #[.int .i64 5, .string nm, .slice r Rn rc, .slice a An ac, .slice b body.length bc], .agg #[.int .i64 p.c, pn, pe]] w fun e w' => BlkR w0 bb m1 m2 B (clusT p S nm body) e w' ∧ KeepB w w' ∧ Ext w0 w' := by
  obtain ⟨R, hR⟩ : ∃ R, R = clusT p S nm body := ⟨_, rfl⟩
  rw [← hR]
  unfold clusT at hR
  obtain ⟨nv, av, cv, lv, aw, ks, h⟩ := hb
  obtain ⟨tk, htk⟩ : ∃ t, t = S.taken nm := ⟨_, rfl⟩
  obtain ⟨ix, hix⟩ : ∃ i, i = S.idx nm := ⟨_, rfl⟩
  rw [← htk, ← hix] at hR
  obtain ⟨BL, hBL⟩ : ∃ n, n = body.length := ⟨_, rfl⟩
  have hblk := fun w5 => hM body b bc { p with c := S.C.length } pn pe { S with C := S.C ++ [(nm, p.c)] } (k + 1) w5 hcm hbd hbl hok (by
    have h4 := hs.mono (m' := 10 * (k + 1)) (k' := k + 1) (by omega) (by omega)
    refine ⟨h4.n, h4.a, ?_, h4.l, h4.at', h4.kt, h4.nn, fun q hq => ?_⟩
    · have := hs.c; simp; omega
    · rcases List.mem_append.1 hq with hq | hq
      · exact h4.cc q hq
      · rw [List.mem_singleton.1 hq]; exact ⟨hn, hp.1, by have := hp.2.1; show p.c ≤ _; omega⟩)
    ⟨by show (-1 : Int) ≤ (S.C.length : Int); omega, by have := hs.c; show (S.C.length : Int) ≤ _; omega, hp.2.2.1.mono (by omega), hp.2.2.2.mono (by omega)⟩ (by omega)
  rw [← hBL] at hblk ⊢
  obtain ⟨w2, hw2⟩ : ∃ w2, w2 = (w.alloc (.cells #[.int .i64 5, .string nm, .slice r Rn rc, .slice a An ac, .slice b BL bc] 56)).alloc (.cells #[.int .i64 p.c, pn, pe] 71) := ⟨_, rfl⟩
  have x2 : Ext w w2 := by rw [hw2]; exact ((Ext.refl _).alloc _).alloc _
  have hs2 : w2.heap[w.heap.size]? = some (.cells #[.int .i64 5, .string nm, .slice r Rn rc, .slice a An ac, .slice b BL bc] 56 (0, 0)) := by rw [hw2]; exact At.heap_ext (heap_alloc_new w _) ((Ext.refl _).alloc _)
  have hp2 : w2.heap[w.heap.size + 1]? = some (.cells #[.int .i64 p.c, pn, pe] 71 (0, 0)) := by
    have h := heap_alloc_new (w.alloc (.cells #[.int .i64 5, .string nm, .slice r Rn rc, .slice a An ac, .slice b BL bc] 56)) (.cells #[.int .i64 p.c, pn, pe] 71)
    rw [World.size_alloc] at h
    rw [hw2]; exact h
  have h2 := h.ext x2
  have l2 := fun q => (h2.ext ((Ext.refl w2).drewN q)).look2 nm hn
  have l1 := fun q => (h2.ext ((Ext.refl w2).drewN q)).look1 nm hn
  rw [show (S.C.any fun q => decide (q.1 = nm)) = tk from htk.symm] at l2
  rw [show idxGo nm 0 S.N = ix from hix.symm] at l1
  obtain ⟨-, -, c2, c3, c4, -⟩ := h2.cells
  have s1 : w2.cell? ⟨w.heap.size, 1, none⟩ = some (.string nm) := by rw [Lib.cell_of_heap hs2]; rfl
  have HR := Lib.hid hR; have HB := Lib.hid h2; have HBK := Lib.hid hblk; have HS2 := Lib.hid hs2; have HP2 := Lib.hid hp2; have HX2 := Lib.hid x2; have HPN := Lib.hid (hpn.ext x2); have HPE := Lib.hid (hpe.ext x2); have HW2 := Lib.hid hw2; have HTK := Lib.hid htk
  have hC := hs.c
  have HX := Lib.hid (show w0.heap.size ≤ w.heap.size from h.X.size)
  have hC2 : S.C.length ≤ 512 := by omega
  clear hR h h2 hblk hs2 hp2 x2 hpn hpe hw2 htk hix hBL hM hbd hbl hcm hok hs hp hk hC
  go_enter Tryz.func59, Tryz.ntmps59
  go_wp2_with fail
  rw [← HW2.out]
  clear HW2
  cases ix with
  | some v =>
    have hr : Hid (R = .error 6) := Lib.hid (by rw [HR.out, if_pos (.inl rfl)])
    clear HR HBK
    dsimp only [Option.getD_some, Option.isSome_some] at l1
    go_quiet (fail)
    go_wp2_with fail
    go_quiet (fail)
    go_wp2
    go_ret
    rw [hr.out]
    exact ⟨⟨rfl, by decide⟩, KeepB.of ((HX2.out.drewN _).drewN _), (HB.out.X.drewN _).drewN _⟩
  | none =>
    dsimp only [Option.getD_none, Option.isSome_none] at l1
    go_quiet (fail)
    obtain ⟨w3, hw3⟩ : ∃ w3, w3 = w2.drewN nq := ⟨_, rfl⟩
    rw [← hw3]
    have x3 : Ext w2 w3 := by rw [hw3]; exact (Ext.refl _).drewN _
    have HB3 := Lib.hid (HB.out.ext x3); have HS3 := Lib.hid (At.heap_ext HS2.out x3); have HP3 := Lib.hid (At.heap_ext HP2.out x3); have HX3 := Lib.hid (HX2.out.trans x3)
    have HPN3 := Lib.hid (HPN.out.ext x3); have HPE3 := Lib.hid (HPE.out.ext x3)
    have l3 := fun q => (HB3.out.ext ((Ext.refl w3).drewN q)).look2 nm hn
    rw [show (S.C.any fun q => decide (q.1 = nm)) = tk from HTK.out.symm] at l3
    obtain ⟨-, -, -, c3', c4', -⟩ := HB3.out.cells
    have s1' : w3.cell? ⟨w.heap.size, 1, none⟩ = some (.string nm) := by rw [Lib.cell_of_heap HS3.out]; rfl
    clear hw3 x3 HB HS2 HP2 HX2 HPN HPE l1 l2 c2 c3 c4 s1
    cases tk with
    | true =>
      have hr : Hid (R = .error 6) := Lib.hid (by rw [HR.out, if_pos (.inr rfl)])
      clear HR HBK
      go_wp2_with fail
      go_quiet (fail)
      go_wp2
      go_ret
      rw [hr.out]
      exact ⟨⟨rfl, by decide⟩, KeepB.of (HX3.out.drewN _), HB3.out.X.drewN _⟩
    | false =>
      have hr : Hid (R = blkL { p with c := S.C.length } { S with C := S.C ++ [(nm, p.c)] } body) := Lib.hid (by rw [HR.out, if_neg (by simp)])
      clear HR HTK
      go_wp2_with fail
      go_quiet (fail)
      go_wp2_with fail
      obtain ⟨w4, hw4⟩ : ∃ w4, w4 = w3.drewN nq := ⟨_, rfl⟩
      rw [← hw4]
      have x4 : Ext w3 w4 := by rw [hw4]; exact (Ext.refl _).drewN _
      have HB4 := Lib.hid (HB3.out.ext x4); have HS4 := Lib.hid (At.heap_ext HS3.out x4); have HP4 := Lib.hid (At.heap_ext HP3.out x4); have HX4 := Lib.hid (HX3.out.trans x4)
      have HPN4 := Lib.hid (HPN3.out.ext x4); have HPE4 := Lib.hid (HPE3.out.ext x4)
      obtain ⟨-, -, -, c3, c4, -⟩ := HB4.out.cells
      have s1 : w4.cell? ⟨w.heap.size, 1, none⟩ = some (.string nm) := by rw [Lib.cell_of_heap HS4.out]; rfl
      clear hw4 x4 HB3 HS3 HP3 HX3 HPN3 HPE3 l3 c3' c4' s1'
      have B4 := HB4.out.ext ((Ext.refl w4).drew)
      obtain ⟨n2, D2, h2, h2n, h2d⟩ := B4.M2
      obtain ⟨w5, r5, h5, g5⟩ := h2.update key9 Tryz.underlying64 (by unfold maxLen; omega) (key := .string nm) (val := .bool true) (Go.WideMaps.keyOf_string_mk Tryz.underlying9 (by unfold maxLen; omega)) rfl
      obtain ⟨B5, K5⟩ := B4.putT h5 (by omega) (h2d.put nm p.c) g5
      have HB5 := Lib.hid B5; have HK5 := Lib.hid (KeepB.trans (KeepB.of ((Ext.refl w4).drew)) K5)
      clear B4 h2 h2n h2d h5 g5 B5 K5
      go_cut [29] from 29 to 34 (fun s29 wx => s29 = .pointer (some ⟨bb, 0, none⟩) ∧ Hid (Bld w0 bb m1 m2 B wx nv av cv lv aw ks S S.N (S.C ++ [(nm, p.c)])) ∧ Hid (KeepB w4 wx))
      case first =>
        go_region
        all_goals go_wp2
        all_goals go_meet
        all_goals first
          | exact ⟨rfl, HB5, HK5⟩
          | exact ⟨rfl, Lib.hid (HB5.out.ext ((Ext.refl _).drew)), Lib.hid (HK5.out.ext ((Ext.refl _).drew))⟩
      case rest =>
        obtain ⟨rfl, HB6, HK6⟩ := hcut
        obtain ⟨w6, hw6⟩ : ∃ w6, w6 = wc := ⟨_, rfl⟩
        subst hw6
        have HS6 := Lib.hid (HK6.out.blk _ _ _ _ HS4.out (by decide) (by decide) (by decide) (by decide) (by decide))
        have HP6 := Lib.hid (HK6.out.blk _ _ _ _ HP4.out (by decide) (by decide) (by decide) (by decide) (by decide))
        have HPN6 := Lib.hid (HK6.out.atL HPN4.out); have HPE6 := Lib.hid (HK6.out.atL HPE4.out)
        have HW6 := Lib.hid ((KeepB.of HX4.out).trans HK6.out)
        obtain ⟨ca, cc, rfl, -, -⟩ := row_val HB6.out.C
        clear HB4 HS4 HP4 HX4 HPN4 HPE4 HB5 HK5 HK6 c3 c4 s1 r5
        obtain ⟨-, -, -, c3, -, -⟩ := HB6.out.cells
        have c3a := fun ob => (HB6.out.ext ((Ext.refl w6).alloc ob)).cells.2.2.2.1
        have s1 : w6.cell? ⟨w.heap.size, 1, none⟩ = some (.string nm) := by rw [Lib.cell_of_heap HS6.out]; rfl
        have s1a := fun ob => ((Ext.refl w6).alloc ob).cell s1
        have p0 : w6.cell? ⟨w.heap.size + 1, 0, none⟩ = some (.int .i64 p.c) := by rw [Lib.cell_of_heap HP6.out]; rfl
        have p0a := fun ob => ((Ext.refl w6).alloc ob).cell p0
        obtain ⟨j0, hj, hjz0, hjz1, hjz2⟩ := info_parts info_clu
        go_wp2_with fail
        go_cut [35] from 35 to 48 (fun s35 wx => s35 = .pointer (some ⟨bb, 0, none⟩) ∧ ∃ g7 c7, Hid (Bld w0 bb m1 m2 B wx nv av (.slice (some ⟨g7, 0, none⟩) (S.C.length + 1) c7) lv aw ks { S with C := S.C ++ [(nm, p.c)] } S.N (S.C ++ [(nm, p.c)])) ∧ Hid (KeepB w6 wx))
        case first =>
          go_region_law (first
            | (refine step_append_lies _ (by rfl) _ _ 29 (by rfl) B 42 j0 _ 2 24 Tryz.underlying29 hj hjz0 hjz1 hjz2 rfl (by decide) _ _ _ (by rfl) (At.own_ext HB6.out.C (((Ext.refl w6).alloc _).drew)) ⟨w6.heap.size, 0, none⟩ 1 1 [.string nm, .int .i64 p.c] (by rfl) (by rfl) (World.news_of_block (cs := #[.string nm, .int .i64 p.c]) (t := 42) (fr := (0, 0)) (heap_alloc_new w6 _)) (by intro u hu; simp at hu; rcases hu with rfl | rfl <;> rfl) (by omega) (by unfold maxLen; omega) (by omega) (by have := HB6.out.Z; simp; omega) _ rfl ?_
               intro g7 c7 w7 hown1 hgrow hat2 hlt2
               have HB7 := Lib.hid (HB6.out.ext (((Ext.refl w6).alloc (.cells #[.string nm, .int .i64 p.c] 42)).drew))
               have hS7 := HB7.out.midS hgrow (row_ty (At.own_ext HB6.out.C (((Ext.refl w6).alloc _).drew))) (by decide)
               have e7 : w7.cell? ⟨bb, 3, none⟩ = some (.slice ca S.C.length cc) := by rw [Lib.cell_of_heap hS7]; rfl
               have f7 : w7.frozen? ⟨bb, 3, none⟩ = false := Lib.frozen_of_heap hS7 3
               have FIN := Lib.hid (HB7.out.appC (nm, p.c) rfl hown1 hgrow)
               clear hown1 hgrow hat2 hlt2 hS7))
          all_goals go_wp2
          all_goals go_meet
          all_goals first
            | exact ⟨rfl, g7, c7, Lib.hid FIN.out.1, Lib.hid ((KeepB.of (((Ext.refl w6).alloc _).drew)).trans FIN.out.2)⟩
            | exact ⟨rfl, g7, c7, Lib.hid (FIN.out.1.ext ((Ext.refl _).drew)), Lib.hid (((KeepB.of (((Ext.refl w6).alloc _).drew)).trans FIN.out.2).ext ((Ext.refl _).drew))⟩
        case rest =>
          obtain ⟨rfl, g7, c7, HB8, HK8⟩ := hcut
          have HS8 := Lib.hid (HK8.out.blk _ _ _ _ HS6.out (by decide) (by decide) (by decide) (by decide) (by decide))
          have HP8 := Lib.hid (HK8.out.blk _ _ _ _ HP6.out (by decide) (by decide) (by decide) (by decide) (by decide))
          have HPN8 := Lib.hid (HK8.out.atL HPN6.out); have HPE8 := Lib.hid (HK8.out.atL HPE6.out)
          have HW8 := Lib.hid (HW6.out.trans HK8.out)
          have k3 := HB8.out.cells.2.2.2.1
          have q0 : wc.cell? ⟨w.heap.size + 1, 0, none⟩ = some (.int .i64 p.c) := by rw [Lib.cell_of_heap HP8.out]; rfl
          have qf : wc.frozen? ⟨w.heap.size + 1, 0, none⟩ = false := Lib.frozen_of_heap HP8.out 0
          have hsz := HX.out
          have hp9 := blk_set HP8.out 0 (.int .i64 S.C.length)
          have hs9 : (wc.setCell ⟨w.heap.size + 1, 0, none⟩ (.int .i64 S.C.length)).heap[w.heap.size]? = _ := (Below.heap_setCell _ _ _ _ (show w.heap.size ≠ w.heap.size + 1 by omega)).trans HS8.out
          have HB9 := Lib.hid (HB8.out.other (j := 0) (u := .int .i64 S.C.length) HP8.out (by omega) (by decide) (by decide) (by decide) (by decide) (by decide) (by decide))
          have HPN9 := Lib.hid (HPN8.out.other (j := 0) (u := .int .i64 S.C.length) HP8.out (by decide))
          have HPE9 := Lib.hid (HPE8.out.other (j := 0) (u := .int .i64 S.C.length) HP8.out (by decide))
          have HW9 := Lib.hid (HW8.out.set (g := w.heap.size + 1) (j := 0) (u := .int .i64 S.C.length) (Nat.le_succ _))
          have z4 : (wc.setCell ⟨w.heap.size + 1, 0, none⟩ (.int .i64 S.C.length)).cell? ⟨w.heap.size, 4, none⟩ = some (.slice b BL bc) := by rw [Lib.cell_of_heap hs9]; rfl
          have z0 : (wc.setCell ⟨w.heap.size + 1, 0, none⟩ (.int .i64 S.C.length)).cell? ⟨w.heap.size + 1, 0, none⟩ = some (.int .i64 S.C.length) := by rw [Lib.cell_of_heap hp9]; rfl
          have z1 : (wc.setCell ⟨w.heap.size + 1, 0, none⟩ (.int .i64 S.C.length)).cell? ⟨w.heap.size + 1, 1, none⟩ = some pn := by rw [Lib.cell_of_heap hp9]; rfl
          have z2 : (wc.setCell ⟨w.heap.size + 1, 0, none⟩ (.int .i64 S.C.length)).cell? ⟨w.heap.size + 1, 2, none⟩ = some pe := by rw [Lib.cell_of_heap hp9]; rfl
          clear c3 c3a s1 s1a p0 p0a HB6 HS6 HP6 HPN6 HPE6 HW6 HK8 hp9 hs9 hsz HB8 HS8 HP8 HPN8 HPE8 HW8
          go_wp2_with (go_at_call 24; refine (HBK.out _ ⟨_, _, _, _, _, _, HB9.out⟩ HPN9.out HPE9.out).mono ?_; rintro e w10 ⟨hbr, kb10, x10⟩; obtain ⟨v, rfl⟩ := hbr.val)
          go_ret
          rw [hr.out]
          exact ⟨hbr, HW9.out.trans kb10, x10⟩
end Go.Proofs.YtnancphlkbfglaaGreatDoor.Nm

namespace Go.Proofs.YtnancphlkbfglaaGreatDoor.Tr
open Go.RowKit Go.Sort Go.Lib Go.Shelf Fx Lx
set_option maxHeartbeats 4000000 in
theorem form_else (k : Int) (nm : ByteArray) (r a b : Option Addr) (R A B rc ac bc : Nat) (w : World) (h1 : k ≠ 1) (h2 : k ≠ 2) (h3 : k ≠ 3) (h4 : k ≠ 4) (h5 : k ≠ 5) :
    Calls Tryz.prog 97 #[.agg #[.int .i64 k, .string nm, .slice r R rc, .slice a A ac, .slice b B bc]] w fun e w' => e = .returned (.int .i64 1) ∧ Ext w w' := by
  obtain ⟨f1, f1'⟩ := ne_facts h1
  obtain ⟨f2, f2'⟩ := ne_facts h2
  obtain ⟨f3, f3'⟩ := ne_facts h3
  obtain ⟨f4, f4'⟩ := ne_facts h4
  obtain ⟨f5, f5'⟩ := ne_facts h5
  clear h1 h2 h3 h4 h5
  go_enter Tryz.func97, Tryz.ntmps97
  go_wp2
  go_ret
  exact ⟨rfl, (Ext.refl _).alloc _⟩
theorem named_any (k : Int) (w : World) : Calls Tryz.prog 98 #[.int .i64 k] w fun e w' => e = .returned (.bool (decide (k = 1 ∨ k = 4 ∨ k = 5))) ∧ w = w' := by
  by_cases h1 : k = 1
  · subst h1
    go_enter Tryz.func98, Tryz.ntmps98
    go_wp2
    go_ret
    exact ⟨rfl, rfl⟩
  by_cases h4 : k = 4
  · subst h4
    go_enter Tryz.func98, Tryz.ntmps98
    go_wp2
    go_ret
    exact ⟨rfl, rfl⟩
  by_cases h5 : k = 5
  · subst h5
    go_enter Tryz.func98, Tryz.ntmps98
    go_wp2
    go_ret
    exact ⟨rfl, rfl⟩
  rw [decide_eq_false (by omega)]
  obtain ⟨f1, f1'⟩ := ne_facts h1
  obtain ⟨f4, f4'⟩ := ne_facts h4
  obtain ⟨f5, f5'⟩ := ne_facts h5
  clear h1 h4 h5
  go_enter Tryz.func98, Tryz.ntmps98
  go_wp2
  go_ret
  exact ⟨rfl, rfl⟩
theorem litEq (n : ByteArray) (l : List UInt8) : (n.toList == l) = decide (n.data.toList = l) := by
  rw [ByteArray.toList_eq, Bool.eq_iff_iff, beq_iff_eq, decide_eq_true_eq]
set_option maxHeartbeats 4000000 in
theorem form_default (nm : ByteArray) (r a b : Option Addr) (R A B rc ac bc : Nat) (w : World) :
    Calls Tryz.prog 97 #[.agg #[.int .i64 3, .string nm, .slice r R rc, .slice a A ac, .slice b B bc]] w fun e w' => e = .returned (.int .i64 (if (decide (R = 0) && decide (B = 0) && (decide (nm.data.toList = [110, 111, 100, 101]) || decide (nm.data.toList = [101, 100, 103, 101]))) = true then 0 else 1)) ∧ Ext w w' := by
  by_cases hR : R = 0
  · by_cases hB : B = 0
    · subst hR; subst hB
      have n1 := litEq nm [110, 111, 100, 101]
      have n2 := litEq nm [101, 100, 103, 101]
      cases q1 : decide (nm.data.toList = [110, 111, 100, 101])
      · rw [q1] at n1
        clear q1
        cases q2 : decide (nm.data.toList = [101, 100, 103, 101])
        · rw [q2] at n2
          clear q2
          go_enter Tryz.func97, Tryz.ntmps97
          go_wp2
          go_ret
          exact ⟨rfl, (Ext.refl _).alloc _⟩
        · rw [q2] at n2
          clear q2
          go_enter Tryz.func97, Tryz.ntmps97
          go_wp2
          go_ret
          exact ⟨rfl, (Ext.refl _).alloc _⟩
      · rw [q1] at n1
        clear q1 n2
        go_enter Tryz.func97, Tryz.ntmps97
        go_wp2
        go_ret
        exact ⟨rfl, (Ext.refl _).alloc _⟩
    · subst hR
      have f1 : ((B : Int) == 0) = false := by simpa using hB
      rw [decide_eq_false hB]
      clear hB
      go_enter Tryz.func97, Tryz.ntmps97
      go_wp2
      go_ret
      exact ⟨rfl, (Ext.refl _).alloc _⟩
  · have f1 : ((R : Int) == 0) = false := by simpa using hR
    rw [decide_eq_false hR]
    clear hR
    go_enter Tryz.func97, Tryz.ntmps97
    go_wp2
    go_ret
    exact ⟨rfl, (Ext.refl _).alloc _⟩
set_option maxHeartbeats 4000000 in
theorem form_set (nm : ByteArray) (r a b : Option Addr) (R B rc ac bc : Nat) (al : List Two) (w : World) (h : TwoIn w a al) :
    Calls Tryz.prog 97 #[.agg #[.int .i64 4, .string nm, .slice r R rc, .slice a al.length ac, .slice b B bc]] w fun e w' => e = .returned (.int .i64 (if (decide (R = 0) && decide (B = 0) && setB al) = true then 0 else 1)) ∧ Ext w w' := by
  by_cases hR : R = 0
  · by_cases hB : B = 0
    · subst hR; subst hB
      by_cases h1 : al.length = 1
      · obtain ⟨⟨k, v⟩, rfl⟩ : ∃ q, al = [q] := by
          match al, h1 with
          | [q], _ => exact ⟨q, rfl⟩
        obtain ⟨g, o, rfl, c0, c1⟩ := h 0 (by simp)
        simp only [Nat.zero_mul, Nat.add_zero, List.getElem_cons_zero] at c0 c1
        have d0 : ∀ o', (w.alloc o').cell? ⟨g, o, none⟩ = some (.string k) := fun o' => ((Ext.refl w).alloc o').cell c0
        have d1 : ∀ o', (w.alloc o').cell? ⟨g, o + 1, none⟩ = some (.string v) := fun o' => ((Ext.refl w).alloc o').cell c1
        clear h h1 c1
        have n1 := @size0 k
        rw [show setB [(k, v)] = decide (k.size = 0) from rfl]
        cases q1 : decide (k.size = 0)
        · rw [q1] at n1
          clear q1
          simp only [List.length_cons, List.length_nil, Nat.zero_add]
          go_enter Tryz.func97, Tryz.ntmps97
          go_wp2
          go_ret
          exact ⟨rfl, (Ext.refl _).alloc _⟩
        · rw [q1] at n1
          clear q1
          simp only [List.length_cons, List.length_nil, Nat.zero_add]
          go_enter Tryz.func97, Tryz.ntmps97
          go_wp2
          go_ret
          exact ⟨rfl, (Ext.refl _).alloc _⟩
      · have hm : setB al = false := by
          unfold setB
          match al, h1 with
          | [], _ => rfl
          | [q], h1 => exact absurd rfl h1
          | _ :: _ :: _, _ => rfl
        rw [hm]
        have f1 : ((al.length : Int) == 1) = false := by
          rw [beq_eq_false_iff_ne]; omega
        clear hm h1 h
        generalize al.length = A at *
        go_enter Tryz.func97, Tryz.ntmps97
        go_wp2
        go_ret
        exact ⟨rfl, (Ext.refl _).alloc _⟩
    · subst hR
      have f1 : ((B : Int) == 0) = false := by simpa using hB
      rw [decide_eq_false hB]
      clear hB h
      generalize al.length = A at *
      go_enter Tryz.func97, Tryz.ntmps97
      go_wp2
      go_ret
      exact ⟨rfl, (Ext.refl _).alloc _⟩
  · have f1 : ((R : Int) == 0) = false := by simpa using hR
    rw [decide_eq_false hR]
    clear hR h
    generalize al.length = A at *
    go_enter Tryz.func97, Tryz.ntmps97
    go_wp2
    go_ret
    exact ⟨rfl, (Ext.refl _).alloc _⟩
theorem isE {α : Type} (L : List α) : L.isEmpty = decide (L.length = 0) := by cases L <;> rfl
theorem formB_mk (k : Int) (nm : ByteArray) (rs al : List Two) (body : List Stm) : formB (.mk k nm rs al body) =
    if k = 1 then decide (rs.length = 0) && decide (body.length = 0)
    else if k = 2 then decide (nm.size = 0) && decide (body.length = 0) && decide (2 ≤ rs.length)
    else if k = 3 then decide (rs.length = 0) && decide (body.length = 0) && (decide (nm.data.toList = [110, 111, 100, 101]) || decide (nm.data.toList = [101, 100, 103, 101]))
    else if k = 4 then decide (rs.length = 0) && decide (body.length = 0) && setB al
    else if k = 5 then decide (rs.length = 0) && decide (al.length = 0)
    else false := by
  rw [← isE, ← isE, ← isE]; rfl
theorem form_any (k : Int) (nm : ByteArray) (rs al : List Two) (body : List Stm) (r a b : Option Addr) (rc ac bc : Nat) (w : World) (h : TwoIn w a al) :
    Calls Tryz.prog 97 #[.agg #[.int .i64 k, .string nm, .slice r rs.length rc, .slice a al.length ac, .slice b body.length bc]] w fun e w' => e = .returned (.int .i64 (if formB (.mk k nm rs al body) = true then 0 else 1)) ∧ Ext w w' := by
  rw [formB_mk]
  by_cases h1 : k = 1
  · rw [if_pos h1]; subst h1; exact form_node nm r a b _ _ _ rc ac bc w
  rw [if_neg h1]
  by_cases h2 : k = 2
  · rw [if_pos h2]; subst h2; exact form_edge nm r a b _ _ _ rc ac bc w
  rw [if_neg h2]
  by_cases h3 : k = 3
  · rw [if_pos h3]; subst h3; exact form_default nm r a b _ _ _ rc ac bc w
  rw [if_neg h3]
  by_cases h4 : k = 4
  · rw [if_pos h4]; subst h4; exact form_set nm r a b _ _ rc ac bc al w h
  rw [if_neg h4]
  by_cases h5 : k = 5
  · rw [if_pos h5]; subst h5; exact form_cluster nm r a b _ _ _ rc ac bc w
  rw [if_neg h5]
  exact form_else k nm r a b _ _ _ rc ac bc w h1 h2 h3 h4 h5
end Go.Proofs.YtnancphlkbfglaaGreatDoor.Tr
