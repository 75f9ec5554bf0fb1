/- Packed texts: NorLawB, FixPost -/
import Derived.Test.YtnancphlkbfglaaGreatDoorPb42
import Derived.Test.YtnancphlkbfglaaGreatDoorPb44
import Derived.Test.YtnancphlkbfglaaGreatDoorPb45
import Derived.Test.YtnancphlkbfglaaGreatDoorPb02
import Derived.ProofKit
set_option linter.unusedVariables false
set_option linter.unusedSimpArgs false
namespace Go.Proofs.YtnancphlkbfglaaGreatDoor.Nm
open Go.RowKit Go.Sort Go.Lib Go.Shelf Fx Lx Tr At Pa
theorem docR_ok {g : Gr} {e : Ending} {w : World} (h : DocR (.ok g) e w) : ∃ n nc ed ec c cc, e = .returned (.tuple #[.agg #[.string g.name, .bool g.dir, .slice n g.N.length nc, .slice ed g.E.length ec, .slice c g.C.length cc], .int .i64 0]) ∧ GrIn w (.agg #[.string g.name, .bool g.dir, .slice n g.N.length nc, .slice ed g.E.length ec, .slice c g.C.length cc]) g := by
  obtain ⟨v, h1, h2⟩ := h
  obtain ⟨n, nc, ed, ec, c, cc, hv, h3⟩ := h2
  subst hv
  exact ⟨n, nc, ed, ec, c, cc, h1, n, nc, ed, ec, c, cc, rfl, h3⟩
set_option maxHeartbeats 8000000 in
set_option maxRecDepth 100000 in
theorem bld_walk (nm : ByteArray) (dir : Bool) (b : Option Addr) (L : List Stm) (cap : Nat) (w : World) (h : StmsAt w.heap.size w b L) (hlen : L.length ≤ maxLen) (hbig : BigL L) (hnm : nm.size ≤ 9223372036854775807) (he : Env w) :
    Calls Tryz.prog 3 #[.agg #[.string nm, .bool dir, .slice b L.length cap]] w fun e w' => e = .returned (.bool true) ∧ Ext w w' := by
  have hfw := fun (w5 : World) (x : Ext w w5) => few_any (sizeL L) L b cap w.heap.size 0 w5 (Nat.le_refl _) hlen (by omega) x.size (StmsAt.below x L h)
  have hawk := fun (w5 : World) (x : Ext w w5) => awake_any w5 (he.ext x)
  have hbp := fun (hf : fewB 0 L = true) (w5 : World) (x : Ext w w5) => build_any nm dir b L cap w.heap.size w5 x.size (StmsAt.below x L h) hlen (few_bounds hf).1 hbig hnm (few_bounds hf).2 (he.ext x)
  have hbd := fun (hf : fewB 0 L = true) (w5 : World) (x : Ext w w5) => buildD_any nm dir b L cap w.heap.size w5 x.size (StmsAt.below x L h) hlen (few_bounds hf).1 hbig hnm (few_bounds hf).2
  obtain ⟨F, hF⟩ : ∃ F, F = fewB 0 L := ⟨_, rfl⟩
  obtain ⟨R, hR⟩ : ∃ R, R = buildT nm dir L := ⟨_, rfl⟩
  rw [← hF] at hbp hbd
  simp only [← hF] at hfw
  simp only [← hR] at hbp hbd
  obtain ⟨N, hN⟩ : ∃ N, N = L.length := ⟨_, rfl⟩
  simp only [← hN] at hfw hbp hbd
  rw [← hN]
  have HFW := Lib.hid hfw; have HAWK := Lib.hid hawk; have HBP := Lib.hid hbp; have HBD := Lib.hid hbd
  have X0 : Hid (Ext w (w.alloc (.cells #[.string nm, .bool dir, .slice b N cap] 24))) := Lib.hid ((Ext.refl _).alloc _)
  clear hfw hawk hbp hbd hF hR hN h hlen hbig hnm he
  cases F with
  | false =>
    go_enter Tryz.func3, Tryz.ntmps3
    go_wp2_with (first
      | (go_at_call 8; refine Calls.mono (by exact HFW.out _ X0.out) ?_; rintro e w1 ⟨rfl, x1⟩; have X1 := Lib.hid (X0.out.trans x1))
      | (go_at_call 9; refine Calls.mono (by with_reducible exact HAWK.out _ X1.out) ?_; rintro e w2 ⟨rfl, x2⟩))
    go_returns
    exact ⟨rfl, X1.out.trans x2⟩
  | true =>
    have HP := Lib.hid (HBP.out rfl); have HD := Lib.hid (HBD.out rfl)
    clear HBP HBD
    cases R with
    | error er =>
      have hse := fun (w5 : World) => same_true' gr0 gr0V gr0V w5 (gr0_in w5) (gr0_in w5) gr0_sm
      unfold gr0V at hse
      have HSE := Lib.hid hse
      obtain ⟨f1, f2⟩ := efacts er
      clear hse
      go_enter Tryz.func3, Tryz.ntmps3
      go_wp2_with (first
        | (go_at_call 8; refine Calls.mono (by exact HFW.out _ X0.out) ?_; rintro e w1 ⟨rfl, x1⟩; have X1 := Lib.hid (X0.out.trans x1); have HB1 := Lib.hid (At.heap_ext (heap_alloc_new w _) x1); have t0 : w1.cell? ⟨w.heap.size, 0, none⟩ = some (.string nm) := (by rw [Lib.cell_of_heap HB1.out]; rfl); have t1 : w1.cell? ⟨w.heap.size, 1, none⟩ = some (.bool dir) := (by rw [Lib.cell_of_heap HB1.out]; rfl); have t2 : w1.cell? ⟨w.heap.size, 2, none⟩ = some (.slice b N cap) := (by rw [Lib.cell_of_heap HB1.out]; rfl))
        | (go_at_call 10; refine Calls.mono (by with_reducible exact HP.out _ X1.out) ?_; rintro e w2 ⟨⟨rfl, her⟩, x2⟩; have X2 := Lib.hid (X1.out.trans x2); have u0 := fun ob => (x2.alloc ob).cell t0; have u1 := fun ob => (x2.alloc ob).cell t1; have u2 := fun ob => (x2.alloc ob).cell t2; unfold gr0V)
        | (go_at_call 11; refine Calls.mono (by with_reducible exact HD.out _ (X2.out.alloc _)) ?_; rintro e w3 ⟨⟨rfl, -⟩, x3⟩; have X3 := Lib.hid ((X2.out.alloc _).trans x3); have HC3 := Lib.hid (At.heap_ext (heap_alloc_new w2 (.cells #[.string ⟨#[]⟩, .bool false, .slice none 0 0, .slice none 0 0, .slice none 0 0] 31)) x3); have y0 := fun ob => (cells5a HC3.out ob).1; have y1 := fun ob => (cells5a HC3.out ob).2.1; have y2 := fun ob => (cells5a HC3.out ob).2.2.1; have y3 := fun ob => (cells5a HC3.out ob).2.2.2.1; have y4 := fun ob => (cells5a HC3.out ob).2.2.2.2; unfold gr0V)
        | (go_at_call 12; refine Calls.mono (by with_reducible exact HSE.out _) ?_; rintro e w4 ⟨rfl, x4⟩; have X4 := Lib.hid ((X3.out.alloc _).trans x4))
        | (go_at_call 9; refine Calls.mono (by with_reducible exact HAWK.out _ X4.out) ?_; rintro e w5 ⟨rfl, x5⟩))
      go_returns
      exact ⟨rfl, X4.out.trans x5⟩
    | ok g =>
      have hse := fun (w5 : World) (va vb : Value) (h1 : GrIn w5 va g) (h2 : GrIn w5 vb g) (hs : GrSm g) => same_true' g va vb w5 h1 h2 hs
      have HP1 := Lib.hid (fun (w5 : World) (x : Ext w w5) => (HP.out w5 x).mono (fun e w' h => And.intro (buildR_ok h.1) h.2))
      have HD1 := Lib.hid (fun (w5 : World) (x : Ext w w5) => (HD.out w5 x).mono (fun e w' h => And.intro (docR_ok h.1) h.2))
      have HSE := Lib.hid hse
      obtain ⟨f1, f2⟩ := efacts 0
      clear hse HP HD
      generalize hgn : g.name = GN at HP1 HD1
      generalize hgd : g.dir = GD at HP1 HD1
      generalize hln : g.N.length = NL at HP1 HD1
      generalize hle : g.E.length = EL at HP1 HD1
      generalize hlc : g.C.length = CL at HP1 HD1
      clear hgn hgd hln hle hlc
      go_enter Tryz.func3, Tryz.ntmps3
      go_wp2_with (first
        | (go_at_call 8; refine Calls.mono (by exact HFW.out _ X0.out) ?_; rintro e w1 ⟨rfl, x1⟩; have X1 := Lib.hid (X0.out.trans x1); have HB1 := Lib.hid (At.heap_ext (heap_alloc_new w _) x1); have t0 : w1.cell? ⟨w.heap.size, 0, none⟩ = some (.string nm) := (by rw [Lib.cell_of_heap HB1.out]; rfl); have t1 : w1.cell? ⟨w.heap.size, 1, none⟩ = some (.bool dir) := (by rw [Lib.cell_of_heap HB1.out]; rfl); have t2 : w1.cell? ⟨w.heap.size, 2, none⟩ = some (.slice b N cap) := (by rw [Lib.cell_of_heap HB1.out]; rfl))
        | (go_at_call 10; refine Calls.mono (by with_reducible exact HP1.out _ X1.out) ?_; rintro e w2 ⟨⟨n1, nc1, e1, ec1, c1, cc1, rfl, hgi, hgs⟩, x2⟩; have X2 := Lib.hid (X1.out.trans x2); have HGI := Lib.hid hgi; have HGS := Lib.hid hgs; have u0 := fun ob => (x2.alloc ob).cell t0; have u1 := fun ob => (x2.alloc ob).cell t1; have u2 := fun ob => (x2.alloc ob).cell t2; clear hgi hgs)
        | (go_at_call 11; refine Calls.mono (by with_reducible exact HD1.out _ (X2.out.alloc _)) ?_; rintro e w3 ⟨⟨n2, nc2, e2, ec2, c2, cc2, rfl, hgi⟩, x3⟩; have X3 := Lib.hid ((X2.out.alloc _).trans x3); have HGJ := Lib.hid hgi; have HGK := Lib.hid (HGI.out.ext ((Ext.refl w2).alloc _ |>.trans x3)); have HC3 := Lib.hid (At.heap_ext (heap_alloc_new w2 (.cells #[.string GN, .bool GD, .slice n1 NL nc1, .slice e1 EL ec1, .slice c1 CL cc1] 31)) x3); have y0 := fun ob => (cells5a HC3.out ob).1; have y1 := fun ob => (cells5a HC3.out ob).2.1; have y2 := fun ob => (cells5a HC3.out ob).2.2.1; have y3 := fun ob => (cells5a HC3.out ob).2.2.2.1; have y4 := fun ob => (cells5a HC3.out ob).2.2.2.2; clear hgi)
        | (go_at_call 12; refine Calls.mono (by with_reducible exact HSE.out _ _ _ (HGK.out.ext ((Ext.refl _).alloc _)) (HGJ.out.ext ((Ext.refl _).alloc _)) HGS.out) ?_; rintro e w4 ⟨rfl, x4⟩; have X4 := Lib.hid ((X3.out.alloc _).trans x4))
        | (go_at_call 9; refine Calls.mono (by with_reducible exact HAWK.out _ X4.out) ?_; rintro e w5 ⟨rfl, x5⟩))
      go_returns
      exact ⟨rfl, X4.out.trans x5⟩
theorem bld_card (v : Value) (w : World) (hv : TreeArg w v) (he : Env w) : Calls Tryz.prog 3 #[v] w fun e w' => e = .returned (.bool true) ∧ Ext w w' := by
  obtain ⟨nm, dir, b, L, cap, rfl, h1, h2, h3, h4⟩ := hv
  exact bld_walk nm dir b L cap w h1 h2 h3 (by unfold reachN at h4; omega) he
end Go.Proofs.YtnancphlkbfglaaGreatDoor.Nm

namespace Go.Proofs.YtnancphlkbfglaaGreatDoor.Fx
open Go.ChangeShapes Go.WideShapes Go.ChangeAt Go.RowKit
section
variable {H : Type} {enc : TypeId × Value → H} {P : Program}
end
end Go.Proofs.YtnancphlkbfglaaGreatDoor.Fx
