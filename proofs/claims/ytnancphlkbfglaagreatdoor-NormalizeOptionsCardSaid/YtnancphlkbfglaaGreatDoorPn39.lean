/- Packed texts: NorLawO -/
import Derived.Test.YtnancphlkbfglaaGreatDoorPn37
import Derived.Test.YtnancphlkbfglaaGreatDoorPn38
import Derived.Laws.StructEq
set_option linter.unusedVariables false
set_option linter.unusedSimpArgs false
/- NormalizeOptions, walked. -/
namespace Go.Proofs.YtnancphlkbfglaaGreatDoor.Nm
open Go.RowKit Go.Sort Go.Lib Go.Shelf Fx Lx Tr At Pa

theorem cells5a {w : World} {g : Nat} {T : TypeId} {c0 c1 c2 c3 c4 : Value} (h : w.heap[g]? = some (.cells #[c0, c1, c2, c3, c4] T (0, 0))) (ob : Obj) :
    (w.alloc ob).cell? ⟨g, 0, none⟩ = some c0 ∧ (w.alloc ob).cell? ⟨g, 1, none⟩ = some c1 ∧ (w.alloc ob).cell? ⟨g, 2, none⟩ = some c2 ∧ (w.alloc ob).cell? ⟨g, 3, none⟩ = some c3 ∧ (w.alloc ob).cell? ⟨g, 4, none⟩ = some c4 := cells5g (At.heap_ext h ((Ext.refl w).alloc ob))
theorem few_bounds {L : List Stm} (h : fewB 0 L = true) : cntL L ≤ 1099511627776 ∧ ∀ p ∈ flatL 0 L, p.1.refs.length ≤ 10 ∧ p.1.attrs.length ≤ 20 := by
  have := few_flat h
  rw [cntL_flat] at this
  exact this
set_option maxHeartbeats 4000000 in
set_option maxRecDepth 100000 in
theorem opts_walk (nm : ByteArray) (dir : Bool) (b : Option Addr) (L : List Stm) (cap : Nat) (w : World) (h : StmsAt w.heap.size w b L) (hlen : L.length ≤ maxLen) (hbig : BigL L) (hnm : nm.size ≤ 9223372036854775807) (he : Env w) :
    Calls Tryz.prog 6 #[.agg #[.string nm, .bool dir, .slice b L.length cap]] w fun e w' => e = .returned (.bool true) ∧ Ext w w' := by
  have hfw := fun (w5 : World) (x : Ext w w5) => few_any (sizeL L) L b cap w.heap.size 0 w5 (Nat.le_refl _) hlen (by omega) x.size (StmsAt.below x L h)
  have hawk := fun (w5 : World) (x : Ext w w5) => awake_any w5 (he.ext x)
  have hop := fun (hf : fewB 0 L = true) (w5 : World) (x : Ext w w5) => optsP_any nm dir b L cap w.heap.size w5 x.size (StmsAt.below x L h) hlen (few_bounds hf).1 hbig hnm (few_bounds hf).2 (he.ext x)
  have hod := fun (hf : fewB 0 L = true) (w5 : World) (x : Ext w w5) => optsD_any nm dir b L cap w.heap.size w5 x.size (StmsAt.below x L h) hlen (few_bounds hf).1 hbig hnm (few_bounds hf).2
  have hok := fun o => @options_ok nm L o
  obtain ⟨F, hF⟩ : ∃ F, F = fewB 0 L := ⟨_, rfl⟩
  obtain ⟨R, hR⟩ : ∃ R, R = optionsT nm L := ⟨_, rfl⟩
  rw [← hF] at hop hod
  simp only [← hF] at hfw
  simp only [← hR] at hop hod hok
  obtain ⟨N, hN⟩ : ∃ N, N = L.length := ⟨_, rfl⟩
  simp only [← hN] at hfw hop hod
  rw [← hN]
  have HFW := Lib.hid hfw; have HAWK := Lib.hid hawk; have HOP := Lib.hid hop; have HOD := Lib.hid hod; have HOK := Lib.hid hok
  have X0 : Hid (Ext w (w.alloc (.cells #[.string nm, .bool dir, .slice b N cap] 24))) := Lib.hid ((Ext.refl _).alloc _)
  clear hfw hawk hop hod hok hF hR hN h hlen hbig hnm he
  cases F with
  | false =>
    go_enter Tryz.func6, Tryz.ntmps6
    go_wp2_with (first
      | (go_at_call 8; refine Calls.mono (by exact HFW.out _ X0.out) ?_; rintro e w1 ⟨rfl, x1⟩; have X1 := Lib.hid (X0.out.trans x1))
      | (go_at_call 9; refine Calls.mono (by with_reducible exact HAWK.out _ X1.out) ?_; rintro e w2 ⟨rfl, x2⟩))
    go_returns
    exact ⟨rfl, X1.out.trans x2⟩
  | true =>
    have HP := Lib.hid (HOP.out rfl); have HD := Lib.hid (HOD.out rfl)
    clear HOP HOD
    cases R with
    | error er =>
      go_enter Tryz.func6, Tryz.ntmps6
      go_wp2_with (first
        | (go_at_call 8; refine Calls.mono (by exact HFW.out _ X0.out) ?_; rintro e w1 ⟨rfl, x1⟩; have X1 := Lib.hid (X0.out.trans x1); have HB1 := Lib.hid (At.heap_ext (heap_alloc_new w _) x1); have t0 : w1.cell? ⟨w.heap.size, 0, none⟩ = some (.string nm) := (by rw [Lib.cell_of_heap HB1.out]; rfl); have t1 : w1.cell? ⟨w.heap.size, 1, none⟩ = some (.bool dir) := (by rw [Lib.cell_of_heap HB1.out]; rfl); have t2 : w1.cell? ⟨w.heap.size, 2, none⟩ = some (.slice b N cap) := (by rw [Lib.cell_of_heap HB1.out]; rfl))
        | (go_at_call 18; refine Calls.mono (by with_reducible exact HP.out _ X1.out) ?_; rintro e w2 ⟨⟨rfl, her⟩, x2⟩; obtain ⟨g1, g2⟩ := nfacts her; have X2 := Lib.hid (X1.out.trans x2); have u0 := fun ob => (x2.alloc ob).cell t0; have u1 := fun ob => (x2.alloc ob).cell t1; have u2 := fun ob => (x2.alloc ob).cell t2; unfold opV; dsimp only)
        | (go_at_call 20; refine Calls.mono (by with_reducible exact HD.out _ (X2.out.alloc _)) ?_; rintro e w3 ⟨⟨rfl, -⟩, x3⟩; have X3 := Lib.hid ((X2.out.alloc _).trans x3); have HC3 := Lib.hid (At.heap_ext (heap_alloc_new w2 (.cells #[.int .i64 0, .int .i64 0, .int .i64 0, .int .i64 0, .int .i64 0] 48)) x3); have y0 := fun ob => (cells5a HC3.out ob).1; have y1 := fun ob => (cells5a HC3.out ob).2.1; have y2 := fun ob => (cells5a HC3.out ob).2.2.1; have y3 := fun ob => (cells5a HC3.out ob).2.2.2.1; have y4 := fun ob => (cells5a HC3.out ob).2.2.2.2; unfold opV; dsimp only)
        | (go_at_call 9; refine Calls.mono (by with_reducible exact HAWK.out _ (X3.out.alloc _)) ?_; rintro e w4 ⟨rfl, x4⟩))
      go_returns
      exact ⟨rfl, (X3.out.alloc _).trans x4⟩
    | ok o =>
      have hvo := fun w5 => vopP_any o w5
      rw [show okOb o = true from okOb_of (HOK.out o rfl)] at hvo
      have HPO := Lib.hid (show ∀ (w5 : World), Ext w w5 → Calls Tryz.prog 18 #[.agg #[.string nm, .bool dir, .slice b N cap]] w5 fun e w' => e = .returned (.tuple #[opV o, .int .i64 0]) ∧ Ext w5 w' from HP.out)
      have HDO := Lib.hid (show ∀ (w5 : World), Ext w w5 → Calls Tryz.prog 20 #[.agg #[.string nm, .bool dir, .slice b N cap]] w5 fun e w' => e = .returned (.tuple #[opV o, .int .i64 0]) ∧ Ext w5 w' from HD.out)
      obtain ⟨m, a, b2, c, d⟩ := o
      unfold opV at hvo HPO HDO
      dsimp only at hvo HPO HDO
      have HVO := Lib.hid hvo
      clear hvo HP HD HOK
      go_enter Tryz.func6, Tryz.ntmps6
      go_wp2_with (first
        | (go_at_call 8; refine Calls.mono (by exact HFW.out _ X0.out) ?_; rintro e w1 ⟨rfl, x1⟩; have X1 := Lib.hid (X0.out.trans x1); have HB1 := Lib.hid (At.heap_ext (heap_alloc_new w _) x1); have t0 : w1.cell? ⟨w.heap.size, 0, none⟩ = some (.string nm) := (by rw [Lib.cell_of_heap HB1.out]; rfl); have t1 : w1.cell? ⟨w.heap.size, 1, none⟩ = some (.bool dir) := (by rw [Lib.cell_of_heap HB1.out]; rfl); have t2 : w1.cell? ⟨w.heap.size, 2, none⟩ = some (.slice b N cap) := (by rw [Lib.cell_of_heap HB1.out]; rfl))
        | (go_at_call 18; refine Calls.mono (by with_reducible exact HPO.out _ X1.out) ?_; rintro e w2 ⟨rfl, x2⟩; have X2 := Lib.hid (X1.out.trans x2); have u0 := fun ob => (x2.alloc ob).cell t0; have u1 := fun ob => (x2.alloc ob).cell t1; have u2 := fun ob => (x2.alloc ob).cell t2)
        | (go_at_call 20; refine Calls.mono (by with_reducible exact HDO.out _ (X2.out.alloc _)) ?_; rintro e w3 ⟨rfl, x3⟩; have X3 := Lib.hid ((X2.out.alloc _).trans x3); have HC3 := Lib.hid (At.heap_ext (heap_alloc_new w2 (.cells #[.int .i64 m, .int .i64 a, .int .i64 b2, .int .i64 c, .int .i64 d] 48)) x3); have y0 := fun ob => (cells5a HC3.out ob).1; have y1 := fun ob => (cells5a HC3.out ob).2.1; have y2 := fun ob => (cells5a HC3.out ob).2.2.1; have y3 := fun ob => (cells5a HC3.out ob).2.2.2.1; have y4 := fun ob => (cells5a HC3.out ob).2.2.2.2)
        | (go_at_call 21; refine Calls.mono (by with_reducible exact HVO.out _) ?_; rintro e w4 ⟨rfl, x4⟩; have X4 := Lib.hid ((X3.out.alloc _).trans x4))
        | (go_at_call 9; refine Calls.mono (by with_reducible exact HAWK.out _ X4.out) ?_; rintro e w6 ⟨rfl, x6⟩))
      go_returns
      exact ⟨rfl, X4.out.trans x6⟩
theorem opts_card (v : Value) (w : World) (hv : TreeArg w v) (he : Env w) : Calls Tryz.prog 6 #[v] w fun e w' => e = .returned (.bool true) ∧ Ext w w' := by
  obtain ⟨nm, dir, b, L, cap, rfl, h1, h2, h3, h4⟩ := hv
  exact opts_walk nm dir b L cap w h1 h2 h3 (by unfold reachN at h4; omega) he
end Go.Proofs.YtnancphlkbfglaaGreatDoor.Nm
