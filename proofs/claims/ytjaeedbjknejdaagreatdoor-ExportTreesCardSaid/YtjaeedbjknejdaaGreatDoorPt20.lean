/- Packed texts: ExpEnd, TreFormB, TreKinds, TreVisC -/
import Derived.Test.YtjaeedbjknejdaaGreatDoorPt19
set_option linter.unusedVariables false
set_option linter.unusedSimpArgs false
set_option maxHeartbeats 16000000
set_option maxRecDepth 100000
namespace Go.Proofs.YtjaeedbjknejdaaGreatDoor.Ex
open Go.RowKit Go.Sort Go.Lib Go.Shelf Fx Lx Tr At Pa Go.Proofs.YtjaeedbjknejdaaGreatDoor.Nm
theorem size_ref : (Tryz.prog.info? 90).map (·.size) = some 2 := by kernel_rfl
theorem set2s {w : World} {g : Nat} {T : TypeId} {c0 c1 : Value} (h : w.heap[g]? = some (.cells #[c0, c1] T (0, 0))) (v0 v1 : Value) :
    ((w.setCell ⟨g, 0, none⟩ v0).setCell ⟨g, 1, none⟩ v1).heap[g]? = some (.cells #[v0, v1] T (0, 0)) := by
  have h1 : (w.setCell ⟨g, 0, none⟩ v0).heap[g]? = some (.cells #[v0, c1] T (0, 0)) := blk_set h 0 v0
  exact blk_set h1 1 v1
theorem cells2 {w : World} {g : Nat} {T : TypeId} {c0 c1 : Value} (h : w.heap[g]? = some (.cells #[c0, c1] T (0, 0))) : w.cell? ⟨g, 0, none⟩ = some c0 /\ w.cell? ⟨g, 1, none⟩ = some c1 /\ ∀ j, w.frozen? ⟨g, j, none⟩ = false := by
  refine ⟨?_, ?_, fun j => Lib.frozen_of_heap h j⟩ <;> (rw [Lib.cell_of_heap h]; rfl)
theorem refR_any (x : Nd) (p : Option Addr) (pc : Nat) (k : Int) (w : World) (hp : PrtIn w p x.ports) (hl : x.ports.length <= 8) (h0 : -1 <= k) (h1 : k < x.ports.length) :
    Calls Tryz.prog 80 #[.agg #[.string x.name, .string x.label, .int .i64 x.w, .int .i64 x.h, .int .i64 x.c, .slice p x.ports.length pc], .int .i64 k] w fun e w' => e = .returned (.agg #[.string x.name, .string (if k < 0 then ⟨#[]⟩ else ((x.ports[k.toNat]?).map Prod.fst).getD ⟨#[]⟩)]) /\ Ext w w' := by
  obtain ⟨nm, lb, W, H, c, L⟩ := x
  dsimp only at *
  obtain ⟨PL, hPL⟩ : ∃ n, n = L.length := ⟨_, rfl⟩
  have hx1 : ∀ (nd : Obj), Ext w ((w.alloc nd).alloc (.cells #[.string ⟨#[]⟩, .string ⟨#[]⟩] 90)) := fun nd => ((Ext.refl _).alloc _).alloc _
  by_cases hk : k < 0
  · have f1 : decide (k < 0) = true := decide_eq_true hk
    rw [if_pos hk]
    rw [<- hPL]
    clear hk h0 h1 hp hl hPL hx1
    go_enter Tryz.func80, Tryz.ntmps80
    go_wp2
    (try simp only [Exit.inBlock, Exit.then])
    refine bodyPost_ret (results_cell_row rfl _ _ (w.heap.size + 1) 90 #[.string nm, .string ⟨#[]⟩] (0, 0) _ rfl (new2 _ _ _ (by simp)) Tryz.underlying90 rfl size_ref) rfl ?_
    exact ⟨rfl, ((Ext.refl _).alloc _).alloc _⟩
  have f1 : decide (k < 0) = false := decide_eq_false hk
  obtain ⟨j, rfl⟩ : ∃ j : Nat, k = (j : Int) := ⟨k.toNat, by omega⟩
  have hj : j < L.length := by omega
  obtain ⟨g1, o1, rfl, n0, -⟩ := hp j hj
  rw [if_neg hk, Int.toNat_natCast, List.getElem?_eq_getElem hj]
  show Calls _ _ _ _ fun e w' => e = .returned (.agg #[.string nm, .string L[j].1]) /\ Ext w w'
  obtain ⟨s, hs⟩ : ∃ s, s = L[j].1 := ⟨_, rfl⟩
  rw [<- hs] at n0
  rw [<- hs]
  have b0 : (0 : Int) <= (j : Int) := by omega
  have b1 : (j : Int) < (PL : Int) := by omega
  rw [<- hPL]
  have n1 := ((Ext.refl w).alloc (.cells #[.string nm, .string lb, .int .i64 W, .int .i64 H, .int .i64 c, .slice (some ⟨g1, o1, none⟩) PL pc] 59)).cell n0
  have n2 := fun ob => (((Ext.refl w).alloc (.cells #[.string nm, .string lb, .int .i64 W, .int .i64 H, .int .i64 c, .slice (some ⟨g1, o1, none⟩) PL pc] 59)).alloc ob).cell n0
  clear hk h0 h1 hp hl hPL hx1 hs hj n0
  go_enter Tryz.func80, Tryz.ntmps80
  go_wp2_with fail
  obtain ⟨w2, hw2⟩ : ∃ w2, w2 = (w.alloc (.cells #[.string nm, .string lb, .int .i64 W, .int .i64 H, .int .i64 c, .slice (some ⟨g1, o1, none⟩) PL pc] 59)).alloc (.cells #[.string ⟨#[]⟩, .string ⟨#[]⟩] 90) := ⟨_, rfl⟩
  obtain ⟨gb, hgb⟩ : ∃ g, g = w.heap.size := ⟨_, rfl⟩
  obtain ⟨gr, hgr⟩ : ∃ g, g = w.heap.size + 1 := ⟨_, rfl⟩
  have X2 : Ext w w2 := by rw [hw2]; exact ((Ext.refl _).alloc _).alloc _
  have GB : w2.heap[gb]? = some (.cells #[.string nm, .string lb, .int .i64 W, .int .i64 H, .int .i64 c, .slice (some ⟨g1, o1, none⟩) PL pc] 59 (0, 0)) := by rw [hw2, hgb]; exact At.heap_ext (heap_alloc_new w _) ((Ext.refl _).alloc _)
  have GR : Hid (w2.heap[gr]? = some (.cells #[.string ⟨#[]⟩, .string ⟨#[]⟩] 90 (0, 0))) := Lib.hid (by rw [hw2, hgr]; exact new2 _ _ _ (by simp))
  have n3 := n2 (.cells #[.string ⟨#[]⟩, .string ⟨#[]⟩] 90)
  obtain ⟨b2, b3, b4, b5, b6, b7⟩ := cells6b GB
  obtain ⟨r0, r1, rf⟩ := cells2 GR.out
  have HGR : Hid (w.heap.size <= gr) := Lib.hid (by omega)
  have HX2 := Lib.hid X2
  rw [<- hw2] at n3
  rw [<- hw2, <- hgr, <- hgb]
  clear hw2 hgb hgr n1 n2 GB X2
  go_still_tail 9, (by kernel_rfl)
  go_wp2
  (try simp only [Exit.inBlock, Exit.then])
  refine bodyPost_ret (results_cell_row rfl _ _ gr 90 #[.string nm, .string s] (0, 0) _ rfl (At.heap_ext (set2s GR.out _ _) (Ext.refl _).drew) Tryz.underlying90 rfl size_ref) rfl ?_
  exact ⟨rfl, ((HX2.out.setCell HGR.out _).setCell HGR.out _).drew⟩
theorem end_any (g : Gr) (va : Value) (v k : Int) (w : World) (ha : GrIn w va g) (h0 : 0 <= v) (h1 : v < g.N.length) (h2 : -1 <= k) (h3 : k < portsOf g.N v) (hN : g.N.length <= 64) (hP : portsOf g.N v <= 8) :
    Calls Tryz.prog 67 #[va, .int .i64 v, .int .i64 k] w fun e w' => e = .returned (.agg #[.string (endT g.N v k).1, .string (endT g.N v k).2]) /\ Ext w w' := by
  obtain ⟨i, rfl⟩ : ∃ i : Nat, v = (i : Int) := ⟨v.toNat, by omega⟩
  have hi : i < g.N.length := by omega
  obtain ⟨na, nac, ea, eac, ca, cac, rfl, a1, -, -⟩ := ha
  obtain ⟨gn, on, pn, pc, rfl, n0, -, -, -, -, n5, np⟩ := a1 i hi
  have he : endT g.N (i : Int) k = (g.N[i].name, if k < 0 then ⟨#[]⟩ else ((g.N[i].ports[k.toNat]?).map Prod.fst).getD ⟨#[]⟩) := by
    unfold endT
    rw [Int.toNat_natCast, List.getElem?_eq_getElem hi]
  have hpo : portsOf g.N (i : Int) = g.N[i].ports.length := by unfold portsOf; rw [Int.toNat_natCast, List.getElem?_eq_getElem hi]; rfl
  rw [he]
  rw [hpo] at h3 hP
  dsimp only
  obtain ⟨x, hx⟩ : ∃ x, x = g.N[i] := ⟨_, rfl⟩
  rw [<- hx] at n0 n5 np h3 hP
  rw [<- hx]
  clear he hpo hx a1
  obtain ⟨nm, lb, W, H, c, L⟩ := x
  dsimp only at *
  obtain ⟨q, hq⟩ : ∃ n, n = g.N.length := ⟨_, rfl⟩
  obtain ⟨el, hel⟩ : ∃ n, n = g.E.length := ⟨_, rfl⟩
  obtain ⟨cl, hcl⟩ : ∃ n, n = g.C.length := ⟨_, rfl⟩
  obtain ⟨PL, hPL⟩ : ∃ n, n = L.length := ⟨_, rfl⟩
  rw [<- hq] at h1 hN
  rw [<- hPL] at n5 h3
  rw [<- hq, <- hel, <- hcl]
  have b0 : (0 : Int) <= (i : Int) := by omega
  have b1 : (i : Int) < (q : Int) := by omega
  have X3 : ∀ o1 o2 o3 : Obj, Ext w (((w.alloc o1).alloc o2).alloc o3) := fun o1 o2 o3 => (((Ext.refl w).alloc o1).alloc o2).alloc o3
  have X2 : ∀ o1 o2 : Obj, Ext w ((w.alloc o1).alloc o2) := fun o1 o2 => ((Ext.refl w).alloc o1).alloc o2
  have m0 := fun o1 o2 => (X2 o1 o2).cell n0; have m0' := fun o1 o2 o3 => (X3 o1 o2 o3).cell n0
  have m5 := fun o1 o2 => (X2 o1 o2).cell n5; have m5' := fun o1 o2 o3 => (X3 o1 o2 o3).cell n5
  have HX3 := Lib.hid X3
  by_cases hk : k < 0
  · have f1 : decide (0 <= k) = false := decide_eq_false (by omega)
    rw [if_pos hk]
    clear hk h0 h1 h2 h3 np hP hq hel hcl hPL hN X2 X3
    go_enter Tryz.func67, Tryz.ntmps67
    go_wp2
    (try simp only [Exit.inBlock, Exit.then])
    refine bodyPost_ret (results_cell_row rfl _ _ (w.heap.size + 1) 90 #[.string nm, .string ⟨#[]⟩] (0, 0) _ rfl (At.heap_ext (new2 _ _ _ (by simp)) ((Ext.refl _).alloc _)) Tryz.underlying90 rfl size_ref) rfl ?_
    exact ⟨rfl, HX3.out _ _ _⟩
  have f1 : decide (0 <= k) = true := decide_eq_true (by omega)
  obtain ⟨j, rfl⟩ : ∃ j : Nat, k = (j : Int) := ⟨k.toNat, by omega⟩
  have hj : j < L.length := by omega
  obtain ⟨g1, o1, rfl, p0, -⟩ := np j hj
  rw [if_neg hk, Int.toNat_natCast, List.getElem?_eq_getElem hj]
  show Calls _ _ _ _ fun e w' => e = .returned (.agg #[.string nm, .string L[j].1]) /\ Ext w w'
  obtain ⟨s, hs⟩ : ∃ s, s = L[j].1 := ⟨_, rfl⟩
  rw [<- hs] at p0
  rw [<- hs]
  have q0 := fun o1 o2 o3 => (X3 o1 o2 o3).cell p0
  have d0 : (0 : Int) <= (j : Int) := by omega
  have d1 : (j : Int) < (PL : Int) := by omega
  clear hk h0 h1 h2 h3 np hP hq hel hcl hPL hN X2 X3 hs hj
  go_enter Tryz.func67, Tryz.ntmps67
  go_wp2
  (try simp only [Exit.inBlock, Exit.then])
  refine bodyPost_ret (results_cell_row rfl _ _ (w.heap.size + 1) 90 #[.string nm, .string s] (0, 0) _ rfl (At.heap_ext (new2 _ _ _ (by simp)) ((Ext.refl _).alloc _)) Tryz.underlying90 rfl size_ref) rfl ?_
  exact ⟨rfl, HX3.out _ _ _⟩
theorem two_refs {w : World} {g m : Nat} {T : TypeId} {a b c d : ByteArray} (h : w.heap[g]? = some (.cells #[.string a, .string b, .string c, .string d] T (0, 0))) (hm : m <= g) : TwoP (m <= ·) w (some ⟨g, 0, none⟩) [(a, b), (c, d)] := fun k hk => by
  have h2 : k = 0 \/ k = 1 := by simp at hk; omega
  rcases h2 with rfl | rfl
  · exact ⟨g, 0, rfl, hm, by rw [Lib.cell_of_heap h]; rfl, by rw [Lib.cell_of_heap h]; rfl⟩
  exact ⟨g, 0, rfl, hm, by rw [Lib.cell_of_heap h]; rfl, by rw [Lib.cell_of_heap h]; rfl⟩
theorem emptyB (b : ByteArray) : b.toList.isEmpty = decide (b = ⟨#[]⟩) := by
  have h := @Tr.size0 b
  have h2 : b.toList.isEmpty = (b.toList == []) := by cases b.toList <;> rfl
  rw [h2, h]
  have h3 : b.size = 0 ↔ b = ⟨#[]⟩ := ⟨fun e => ByteArray.ext (Array.eq_empty_of_size_eq_zero e), fun e => by rw [e]; rfl⟩
  exact decide_eq_decide.2 h3
theorem neq_empty {b : ByteArray} (h : ¬ b = ⟨#[]⟩) : (!b.toList.isEmpty) = true := by
  rw [emptyB, decide_eq_false h]; rfl
theorem eq_empty {b : ByteArray} (h : b = ⟨#[]⟩) : (!b.toList.isEmpty) = false := by
  rw [emptyB, decide_eq_true h]; rfl
end Go.Proofs.YtjaeedbjknejdaaGreatDoor.Ex

namespace Go.Proofs.YtjaeedbjknejdaaGreatDoor.Tr
open Go.RowKit Go.Sort Go.Lib Go.Shelf Fx Lx
theorem form_else (k : Int) (nm : ByteArray) (r a b : Option Addr) (R A B rc ac bc : Nat) (w : World) (h1 : k ≠ 1) (h2 : k ≠ 2) (h3 : k ≠ 3) (h4 : k ≠ 4) (h5 : k ≠ 5) :
    Calls Tryz.prog 135 #[.agg #[.int .i64 k, .string nm, .slice r R rc, .slice a A ac, .slice b B bc]] w fun e w' => e = .returned (.int .i64 1) /\ Ext w w' := by
  obtain ⟨f1, f1'⟩ := ne_facts h1
  obtain ⟨f2, f2'⟩ := ne_facts h2
  obtain ⟨f3, f3'⟩ := ne_facts h3
  obtain ⟨f4, f4'⟩ := ne_facts h4
  obtain ⟨f5, f5'⟩ := ne_facts h5
  clear h1 h2 h3 h4 h5
  go_enter Tryz.func135, Tryz.ntmps135
  go_wp2
  go_ret
  exact ⟨rfl, (Ext.refl _).alloc _⟩
theorem named_any (k : Int) (w : World) : Calls Tryz.prog 136 #[.int .i64 k] w fun e w' => e = .returned (.bool (decide (k = 1 \/ k = 4 \/ k = 5))) /\ w = w' := by
  by_cases h1 : k = 1
  · subst h1
    go_enter Tryz.func136, Tryz.ntmps136
    go_wp2
    go_ret
    exact ⟨rfl, rfl⟩
  by_cases h4 : k = 4
  · subst h4
    go_enter Tryz.func136, Tryz.ntmps136
    go_wp2
    go_ret
    exact ⟨rfl, rfl⟩
  by_cases h5 : k = 5
  · subst h5
    go_enter Tryz.func136, Tryz.ntmps136
    go_wp2
    go_ret
    exact ⟨rfl, rfl⟩
  rw [decide_eq_false (by omega)]
  obtain ⟨f1, f1'⟩ := ne_facts h1
  obtain ⟨f4, f4'⟩ := ne_facts h4
  obtain ⟨f5, f5'⟩ := ne_facts h5
  clear h1 h4 h5
  go_enter Tryz.func136, Tryz.ntmps136
  go_wp2
  go_ret
  exact ⟨rfl, rfl⟩
theorem litEq (n : ByteArray) (l : List UInt8) : (n.toList == l) = decide (n.data.toList = l) := by
  rw [ByteArray.toList_eq, Bool.eq_iff_iff, beq_iff_eq, decide_eq_true_eq]
theorem form_default (nm : ByteArray) (r a b : Option Addr) (R A B rc ac bc : Nat) (w : World) :
    Calls Tryz.prog 135 #[.agg #[.int .i64 3, .string nm, .slice r R rc, .slice a A ac, .slice b B bc]] w fun e w' => e = .returned (.int .i64 (if (decide (R = 0) && decide (B = 0) && (decide (nm.data.toList = [110, 111, 100, 101]) || decide (nm.data.toList = [101, 100, 103, 101]))) = true then 0 else 1)) /\ Ext w w' := by
  by_cases hR : R = 0
  · by_cases hB : B = 0
    · subst hR; subst hB
      have n1 := litEq nm [110, 111, 100, 101]
      have n2 := litEq nm [101, 100, 103, 101]
      cases q1 : decide (nm.data.toList = [110, 111, 100, 101])
      · rw [q1] at n1
        clear q1
        cases q2 : decide (nm.data.toList = [101, 100, 103, 101])
        · rw [q2] at n2
          clear q2
          go_enter Tryz.func135, Tryz.ntmps135
          go_wp2
          go_ret
          exact ⟨rfl, (Ext.refl _).alloc _⟩
        rw [q2] at n2
        clear q2
        go_enter Tryz.func135, Tryz.ntmps135
        go_wp2
        go_ret
        exact ⟨rfl, (Ext.refl _).alloc _⟩
      rw [q1] at n1
      clear q1 n2
      go_enter Tryz.func135, Tryz.ntmps135
      go_wp2
      go_ret
      exact ⟨rfl, (Ext.refl _).alloc _⟩
    subst hR
    have f1 : ((B : Int) == 0) = false := by simpa using hB
    rw [decide_eq_false hB]
    clear hB
    go_enter Tryz.func135, Tryz.ntmps135
    go_wp2
    go_ret
    exact ⟨rfl, (Ext.refl _).alloc _⟩
  have f1 : ((R : Int) == 0) = false := by simpa using hR
  rw [decide_eq_false hR]
  clear hR
  go_enter Tryz.func135, Tryz.ntmps135
  go_wp2
  go_ret
  exact ⟨rfl, (Ext.refl _).alloc _⟩
theorem form_set (nm : ByteArray) (r a b : Option Addr) (R B rc ac bc : Nat) (al : List Two) (w : World) (h : TwoIn w a al) :
    Calls Tryz.prog 135 #[.agg #[.int .i64 4, .string nm, .slice r R rc, .slice a al.length ac, .slice b B bc]] w fun e w' => e = .returned (.int .i64 (if (decide (R = 0) && decide (B = 0) && setB al) = true then 0 else 1)) /\ Ext w w' := by
  by_cases hR : R = 0
  · by_cases hB : B = 0
    · subst hR; subst hB
      by_cases h1 : al.length = 1
      · obtain ⟨⟨k, v⟩, rfl⟩ : ∃ q, al = [q] := by
          match al, h1 with
          | [q], _ => exact ⟨q, rfl⟩
        obtain ⟨g, o, rfl, c0, c1⟩ := h 0 (by simp)
        simp only [Nat.zero_mul, Nat.add_zero, List.getElem_cons_zero] at c0 c1
        have d0 : ∀ o', (w.alloc o').cell? ⟨g, o, none⟩ = some (.string k) := fun o' => ((Ext.refl w).alloc o').cell c0
        have d1 : ∀ o', (w.alloc o').cell? ⟨g, o + 1, none⟩ = some (.string v) := fun o' => ((Ext.refl w).alloc o').cell c1
        clear h h1 c1
        have n1 := @size0 k
        rw [show setB [(k, v)] = decide (k.size = 0) from rfl]
        cases q1 : decide (k.size = 0)
        · rw [q1] at n1
          clear q1
          simp only [List.length_cons, List.length_nil, Nat.zero_add]
          go_enter Tryz.func135, Tryz.ntmps135
          go_wp2
          go_ret
          exact ⟨rfl, (Ext.refl _).alloc _⟩
        rw [q1] at n1
        clear q1
        simp only [List.length_cons, List.length_nil, Nat.zero_add]
        go_enter Tryz.func135, Tryz.ntmps135
        go_wp2
        go_ret
        exact ⟨rfl, (Ext.refl _).alloc _⟩
      have hm : setB al = false := by
        unfold setB
        match al, h1 with
        | [], _ => rfl
        | [q], h1 => exact absurd rfl h1
        | _ :: _ :: _, _ => rfl
      rw [hm]
      have f1 : ((al.length : Int) == 1) = false := by
        rw [beq_eq_false_iff_ne]; omega
      clear hm h1 h
      generalize al.length = A at *
      go_enter Tryz.func135, Tryz.ntmps135
      go_wp2
      go_ret
      exact ⟨rfl, (Ext.refl _).alloc _⟩
    subst hR
    have f1 : ((B : Int) == 0) = false := by simpa using hB
    rw [decide_eq_false hB]
    clear hB h
    generalize al.length = A at *
    go_enter Tryz.func135, Tryz.ntmps135
    go_wp2
    go_ret
    exact ⟨rfl, (Ext.refl _).alloc _⟩
  have f1 : ((R : Int) == 0) = false := by simpa using hR
  rw [decide_eq_false hR]
  clear hR h
  generalize al.length = A at *
  go_enter Tryz.func135, Tryz.ntmps135
  go_wp2
  go_ret
  exact ⟨rfl, (Ext.refl _).alloc _⟩
theorem isE {α : Type} (L : List α) : L.isEmpty = decide (L.length = 0) := by cases L <;> rfl
theorem formB_mk (k : Int) (nm : ByteArray) (rs al : List Two) (body : List Stm) : formB (.mk k nm rs al body) =
    if k = 1 then decide (rs.length = 0) && decide (body.length = 0)
    else if k = 2 then decide (nm.size = 0) && decide (body.length = 0) && decide (2 <= rs.length)
    else if k = 3 then decide (rs.length = 0) && decide (body.length = 0) && (decide (nm.data.toList = [110, 111, 100, 101]) || decide (nm.data.toList = [101, 100, 103, 101]))
    else if k = 4 then decide (rs.length = 0) && decide (body.length = 0) && setB al
    else if k = 5 then decide (rs.length = 0) && decide (al.length = 0)
    else false := by
  rw [<- isE, <- isE, <- isE]; rfl
theorem form_any (k : Int) (nm : ByteArray) (rs al : List Two) (body : List Stm) (r a b : Option Addr) (rc ac bc : Nat) (w : World) (h : TwoIn w a al) :
    Calls Tryz.prog 135 #[.agg #[.int .i64 k, .string nm, .slice r rs.length rc, .slice a al.length ac, .slice b body.length bc]] w fun e w' => e = .returned (.int .i64 (if formB (.mk k nm rs al body) = true then 0 else 1)) /\ Ext w w' := by
  rw [formB_mk]
  by_cases h1 : k = 1
  · rw [if_pos h1]; subst h1; exact form_node nm r a b _ _ _ rc ac bc w
  rw [if_neg h1]
  by_cases h2 : k = 2
  · rw [if_pos h2]; subst h2; exact form_edge nm r a b _ _ _ rc ac bc w
  rw [if_neg h2]
  by_cases h3 : k = 3
  · rw [if_pos h3]; subst h3; exact form_default nm r a b _ _ _ rc ac bc w
  rw [if_neg h3]
  by_cases h4 : k = 4
  · rw [if_pos h4]; subst h4; exact form_set nm r a b _ _ rc ac bc al w h
  rw [if_neg h4]
  by_cases h5 : k = 5
  · rw [if_pos h5]; subst h5; exact form_cluster nm r a b _ _ _ rc ac bc w
  rw [if_neg h5]
  exact form_else k nm r a b _ _ _ rc ac bc w h1 h2 h3 h4 h5
end Go.Proofs.YtjaeedbjknejdaaGreatDoor.Tr

namespace Go.Proofs.YtjaeedbjknejdaaGreatDoor.Tr
open Go.Lib Fx Lx
theorem form_kinds (x : Stm) (h : formB x = true) : (x.kind = 1 \/ x.kind = 2 \/ x.kind = 3 \/ x.kind = 4 \/ x.kind = 5) /\ (x.kind = 3 -> kw x.name.data.toList = true) /\ (x.kind = 4 -> ∃ q, x.attrs = [q] /\ q.1.size = 0) := by
  unfold formB at h
  by_cases h1 : x.kind = 1
  · exact ⟨.inl h1, fun h => by omega, fun h => by omega⟩
  rw [if_neg h1] at h
  by_cases h2 : x.kind = 2
  · exact ⟨.inr (.inl h2), fun h => by omega, fun h => by omega⟩
  rw [if_neg h2] at h
  by_cases h3 : x.kind = 3
  · rw [if_pos h3] at h
    refine ⟨.inr (.inr (.inl h3)), fun _ => ?_, fun h => by omega⟩
    simp only [Bool.and_eq_true, Bool.or_eq_true, decide_eq_true_eq] at h
    rcases h.2 with e | e <;> (rw [e]; decide)
  rw [if_neg h3] at h
  by_cases h4 : x.kind = 4
  · rw [if_pos h4] at h
    refine ⟨.inr (.inr (.inr (.inl h4))), fun h => by omega, fun _ => ?_⟩
    simp only [Bool.and_eq_true] at h
    have h5 := h.2
    unfold setB at h5
    split at h5
    · rename_i q e; exact ⟨q, e, by simpa using h5⟩
    exact absurd h5 (by decide)
  rw [if_neg h4] at h
  by_cases h5 : x.kind = 5
  · exact ⟨.inr (.inr (.inr (.inr h5))), fun h => by omega, fun h => by omega⟩
  rw [if_neg h5] at h
  exact absurd h (by decide)
end Go.Proofs.YtjaeedbjknejdaaGreatDoor.Tr

namespace Go.Proofs.YtjaeedbjknejdaaGreatDoor.Tr
open Go.RowKit Go.Sort Go.Lib Go.Shelf Fx Lx
theorem closC_any (kind : Int) (nm : ByteArray) (r a b : Option Addr) (R A B rc ac bc : Nat) (lev : Int) (acc : Int) (c : Nat) (T : TypeId) (w : World) (h : w.heap[c]? = some (.cells #[.int .i64 acc] T (0, 0))) :
    Calls Tryz.prog 134 #[.agg #[.int .i64 kind, .string nm, .slice r R rc, .slice a A ac, .slice b B bc], .int .i64 lev, .pointer (some ⟨c, 0, none⟩)] w fun e w' => e = .returned (.bool true) /\ w'.heap[c]? = some (.cells #[.int .i64 (wrap64 (acc + 1))] T (0, 0)) /\ But c w w' := by
  have hcw : c < w.heap.size := (Array.getElem?_eq_some_iff.1 h).1
  have h1 : ∀ o, (w.alloc o).heap[c]? = some (.cells #[.int .i64 acc] T (0, 0)) := fun o => (Lib.alloc_old w o c hcw).trans h
  have hc : ∀ o, (w.alloc o).cell? ⟨c, 0, none⟩ = some (.int .i64 acc) := fun o => by rw [Lib.cell_of_heap (h1 o)]; rfl
  have hf : ∀ o, (w.alloc o).frozen? ⟨c, 0, none⟩ = false := fun o => Lib.frozen_of_heap (h1 o) 0
  have H1 := Lib.hid h1
  clear h1 h hcw
  go_enter Tryz.func134, Tryz.ntmps134
  go_wp2
  go_ret
  exact ⟨rfl, setOne (H1.out _) 0 _, ((But.refl c w).alloc _).setCell ⟨c, 0, none⟩ rfl _⟩
theorem visitC_any : ∀ (M : Nat) (L : List Stm) (b : Option Addr) (cap lev : Nat) (acc : Int) (n c : Nat) (w : World), sizeL L <= M -> M <= maxLen -> lev + M <= 9223372036854775806 -> StmsAt n w b L -> n <= c -> w.heap[c]? = some (.cells #[.int .i64 acc] 3 (0, 0)) ->
    Calls Tryz.prog 69 #[.slice b L.length cap, .int .i64 lev, .func (.func 134) #[] #[.pointer (some ⟨c, 0, none⟩)]] w fun e w' => e = .returned (.bool (runA stepC acc (flatL lev L)).2) /\ w'.heap[c]? = some (.cells #[.int .i64 (runA stepC acc (flatL lev L)).1] 3 (0, 0)) /\ But c w w' := by
  intro M
  induction M using Nat.strongRecOn with
  | _ M ih =>
  intro L b cap lev acc n c w hM hmax hlev h hnc hc
  obtain ⟨V, hV⟩ : ∃ V, V = runA stepC acc (flatL lev L) := ⟨_, rfl⟩
  rw [<- hV]
  have HV : Hid (V = runA stepC acc (flatL lev (L.drop 0))) := Lib.hid hV
  obtain ⟨N, hN⟩ : ∃ N, N = L.length := ⟨_, rfl⟩
  have hNM : N <= 9223372036854775807 := by have := sizeL_len L; unfold maxLen at hmax; omega
  have hl1 : lev <= 9223372036854775806 := by omega
  rw [<- hN]
  have HN := Lib.hid hN; have HI := Lib.hid h; have HM := Lib.hid hM; have HIH := Lib.hid ih; have HMX := Lib.hid hmax; have HLV := Lib.hid hlev
  have HCW : Hid (c < w.heap.size) := Lib.hid (Array.getElem?_eq_some_iff.1 hc).1
  have HNC := Lib.hid hnc
  have HC0 := Lib.hid hc
  clear hV hN h hM ih hmax hlev hnc hc
  go_enter Tryz.func69, Tryz.ntmps69
  go_wp2
  go_loopw [12] (fun i' wr => ∃ (k : Nat) (ac : Int), k <= N /\ i' = .int .i64 k /\ But c w wr /\ Hid (wr.heap[c]? = some (.cells #[.int .i64 ac] 3 (0, 0))) /\ Hid (V = runA stepC ac (flatL lev (L.drop k)))) (fun i' _ => N - (RowKit.intOf i').toNat)
  case atStart => exact ⟨0, acc, by omega, rfl, But.refl _ _, HC0, HV⟩
  obtain ⟨k, ac, hk, rfl, hx, hcc, hb⟩ := hrel
  clear HV HC0
  by_cases hlt : k < N
  · have hkl : k < L.length := by rw [<- HN.out]; exact hlt
    have hin := StmsAt.below (hx.below HNC.out (by have := HCW.out; have := HNC.out; omega)) L HI.out
    obtain ⟨g, o, rfl, hg, hst⟩ := StmsAt.at L hin k hkl
    have hsz : sizeS L[k] <= M := Nat.le_trans (sizeL_at L k hkl) HM.out
    have hbb := hb.out
    rw [List.drop_eq_getElem_cons hkl, flatL_cons] at hbb
    obtain ⟨s, hs⟩ : ∃ s, s = L[k] := ⟨_, rfl⟩
    rw [<- hs] at hst hsz hbb
    clear hs hb hin
    obtain ⟨kind, nm, rs, al, body⟩ := s
    have hbd := sizeS_body (.mk kind nm rs al body)
    simp only [Stm.body, Stm.name, Stm.refs, Stm.attrs] at hbd
    rw [flatS_mk, List.cons_append, runA, runA_app] at hbb
    rw [StmAt] at hst
    obtain ⟨r, rc, a, atc, b', bc, c0, c1, c2, c3, c4, hr, ha, hbs, hl1', hl2, hl3, hl4, hl5⟩ := hst
    have hwl : c < wr.heap.size := Nat.lt_of_lt_of_le HCW.out hx.size
    have hne : wr.heap.size ≠ c := by omega
    have hxa : Ext wr (wr.alloc (.cells #[.int .i64 kind, .string nm, .slice r rs.length rc, .slice a al.length atc, .slice b' body.length bc] 67)) := (Ext.refl _).alloc _
    have hcl := stm_cells wr kind nm r a b' rs.length al.length body.length rc atc bc
    have hcc2 := (hxa.block c hwl).trans hcc.out
    have hclo := closC_any kind nm r a b' rs.length al.length body.length rc atc bc lev ac c 3 (wr.alloc (.cells #[.int .i64 kind, .string nm, .slice r rs.length rc, .slice a al.length atc, .slice b' body.length bc] 67)) hcc2
    replace hclo : Calls Tryz.prog 134 #[.agg #[.int .i64 kind, .string nm, .slice r rs.length rc, .slice a al.length atc, .slice b' body.length bc], .int .i64 lev, .pointer (some ⟨c, 0, none⟩)] (wr.alloc (.cells #[.int .i64 kind, .string nm, .slice r rs.length rc, .slice a al.length atc, .slice b' body.length bc] 67)) fun e w' => e = .returned (.bool (stepC ac (.mk kind nm rs al body, lev)).2) /\ w'.heap[c]? = some (.cells #[.int .i64 (stepC ac (.mk kind nm rs al body, lev)).1] 3 (0, 0)) /\ But c (wr.alloc (.cells #[.int .i64 kind, .string nm, .slice r rs.length rc, .slice a al.length atc, .slice b' body.length bc] 67)) w' := hclo
    have hrec : ∀ w1 acc1, But c wr w1 -> w1.heap[c]? = some (.cells #[.int .i64 acc1] 3 (0, 0)) ->
        Calls Tryz.prog 69 #[.slice b' body.length bc, .int .i64 (if kind = 5 then (lev : Int) + 1 else lev), .func (.func 134) #[] #[.pointer (some ⟨c, 0, none⟩)]] w1 fun e w' => e = .returned (.bool (runA stepC acc1 (flatL (if kind = 5 then lev + 1 else lev) body)).2) /\ w'.heap[c]? = some (.cells #[.int .i64 (runA stepC acc1 (flatL (if kind = 5 then lev + 1 else lev) body)).1] 3 (0, 0)) /\ But c w1 w' := fun w1 acc1 x1 h1 => by
      have hcast : (if kind = 5 then (lev : Int) + 1 else lev) = ((if kind = 5 then lev + 1 else lev : Nat) : Int) := by split <;> simp
      rw [hcast]
      exact HIH.out (sizeL body) (by omega) body b' bc _ acc1 n c w1 (Nat.le_refl _) (by have := HMX.out; omega) (by have := HLV.out; split <;> omega) (StmsAt.below (x1.below HNC.out (by have := HNC.out; omega)) body hbs) HNC.out h1
    have hx' : But c w (wr.alloc (.cells #[.int .i64 kind, .string nm, .slice r rs.length rc, .slice a al.length atc, .slice b' body.length bc] 67)) := hx.alloc _
    obtain ⟨fl, hfl⟩ : ∃ fl, fl = flatL (if kind = 5 then lev + 1 else lev) body := ⟨_, rfl⟩
    rw [<- hfl] at hrec hbb
    obtain ⟨p, q, hpq⟩ : ∃ p q, stepC ac (.mk kind nm rs al body, lev) = (p, q) := ⟨_, _, rfl⟩
    rw [hpq] at hclo hbb
    obtain ⟨u, v, huv⟩ : ∃ u v, runA stepC p fl = (u, v) := ⟨_, _, rfl⟩
    have hrec' := fun w1 => hrec w1 p
    rw [huv] at hrec' hbb
    dsimp only at hclo hbb hrec'
    have HCLO := Lib.hid hclo; have HREC := Lib.hid hrec'; have HCL := Lib.hid hcl
    clear hclo hrec hrec' hcl hr ha hbs hl1' hl2 hl3 hl4 hl5 hbd hsz hpq huv hfl hcc2 hcc hg hwl
    have HXA := Lib.hid hxa
    have HNE := Lib.hid hne
    clear hxa hne
    generalize rs.length = R at *
    generalize al.length = A at *
    generalize body.length = B at *
    cases q
    · rw [if_neg (by decide)] at hbb
      have hf := Lib.hid hbb
      clear hbb
      go_wp2_with (go_at_call 134; refine HCLO.out.mono ?_; rintro e w1 ⟨rfl, h1, x1⟩; replace h1 := Lib.hid h1)
      go_returns
      rw [hf.out]
      exact ⟨rfl, h1.out, hx'.trans x1⟩
    rw [if_pos rfl] at hbb
    by_cases h5 : kind = 5
    · subst h5
      rw [if_pos rfl] at HREC
      cases v
      · rw [if_neg (by decide)] at hbb
        have hf := Lib.hid hbb
        clear hbb
        go_wp2_with (first | (go_at_call 134; refine HCLO.out.mono ?_; rintro e w1 ⟨rfl, h1, x1⟩; replace h1 := Lib.hid h1; have k0 := x1.cell (p := ⟨wr.heap.size, 0, none⟩) HNE.out (HCL.out _ (Ext.refl _)).1; have k4 := x1.cell (p := ⟨wr.heap.size, 4, none⟩) HNE.out (HCL.out _ (Ext.refl _)).2.2.2.2) | (go_at_call 69; refine (HREC.out _ ((But.of HXA.out).trans x1) h1.out).mono ?_; rintro e w2 ⟨rfl, h2, x2⟩; replace h2 := Lib.hid h2))
        go_returns
        rw [hf.out]
        exact ⟨rfl, h2.out, (hx'.trans x1).trans x2⟩
      rw [if_pos rfl] at hbb
      have hf := Lib.hid hbb
      clear hbb
      go_wp2_with (first | (go_at_call 134; refine HCLO.out.mono ?_; rintro e w1 ⟨rfl, h1, x1⟩; replace h1 := Lib.hid h1; have k0 := x1.cell (p := ⟨wr.heap.size, 0, none⟩) HNE.out (HCL.out _ (Ext.refl _)).1; have k4 := x1.cell (p := ⟨wr.heap.size, 4, none⟩) HNE.out (HCL.out _ (Ext.refl _)).2.2.2.2) | (go_at_call 69; refine (HREC.out _ ((But.of HXA.out).trans x1) h1.out).mono ?_; rintro e w2 ⟨rfl, h2, x2⟩; replace h2 := Lib.hid h2))
      go_roundw
      case rel => exact ⟨k + 1, u, by omega, by go_num, (hx'.trans x1).trans x2, h2, hf⟩
      case measure => simp [RowKit.intOf]; omega
    obtain ⟨f5, f5'⟩ := ne_facts h5
    rw [if_neg h5] at HREC
    clear h5
    cases v
    · rw [if_neg (by decide)] at hbb
      have hf := Lib.hid hbb
      clear hbb
      go_wp2_with (first | (go_at_call 134; refine HCLO.out.mono ?_; rintro e w1 ⟨rfl, h1, x1⟩; replace h1 := Lib.hid h1; have k0 := x1.cell (p := ⟨wr.heap.size, 0, none⟩) HNE.out (HCL.out _ (Ext.refl _)).1; have k4 := x1.cell (p := ⟨wr.heap.size, 4, none⟩) HNE.out (HCL.out _ (Ext.refl _)).2.2.2.2) | (go_at_call 69; refine (HREC.out _ ((But.of HXA.out).trans x1) h1.out).mono ?_; rintro e w2 ⟨rfl, h2, x2⟩; replace h2 := Lib.hid h2))
      go_returns
      rw [hf.out]
      exact ⟨rfl, h2.out, (hx'.trans x1).trans x2⟩
    rw [if_pos rfl] at hbb
    have hf := Lib.hid hbb
    clear hbb
    go_wp2_with (first | (go_at_call 134; refine HCLO.out.mono ?_; rintro e w1 ⟨rfl, h1, x1⟩; replace h1 := Lib.hid h1; have k0 := x1.cell (p := ⟨wr.heap.size, 0, none⟩) HNE.out (HCL.out _ (Ext.refl _)).1; have k4 := x1.cell (p := ⟨wr.heap.size, 4, none⟩) HNE.out (HCL.out _ (Ext.refl _)).2.2.2.2) | (go_at_call 69; refine (HREC.out _ ((But.of HXA.out).trans x1) h1.out).mono ?_; rintro e w2 ⟨rfl, h2, x2⟩; replace h2 := Lib.hid h2))
    go_roundw
    case rel => exact ⟨k + 1, u, by omega, by go_num, (hx'.trans x1).trans x2, h2, hf⟩
    case measure => simp [RowKit.intOf]; omega
  have hf : Hid (V = (ac, true)) := Lib.hid (by rw [hb.out, List.drop_eq_nil_of_le (by rw [<- HN.out]; omega), flatL_nil]; rfl)
  clear hb
  go_wp2
  go_returns
  rw [hf.out]
  exact ⟨rfl, hcc.out, hx⟩
end Go.Proofs.YtjaeedbjknejdaaGreatDoor.Tr
