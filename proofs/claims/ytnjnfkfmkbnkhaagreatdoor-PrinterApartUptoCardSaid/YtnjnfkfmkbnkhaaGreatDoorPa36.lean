/- Packed texts: TreLawD -/
import Derived.Test.YtnjnfkfmkbnkhaaGreatDoorPa31
import Derived.Test.YtnjnfkfmkbnkhaaGreatDoorPa35
set_option linter.unusedVariables false
set_option linter.unusedSimpArgs false
/- The law of different trees, walked. -/
namespace Go.Proofs.YtnjnfkfmkbnkhaaGreatDoor.Tr
open Go.RowKit Go.Sort Go.Lib Go.Shelf Fx Lx Go.ChangeShapes Go.WideShapes Go.Deep

theorem eqT_iff (nm nm' : ByteArray) (d d' : Bool) (L M : List Stm) : eqT nm nm' d d' L M = true ↔ nm = nm' ∧ d = d' ∧ L = M := by
  unfold eqT
  rw [Bool.and_eq_true, Bool.and_eq_true, eqb_iff, beqs, decide_eq_true_eq, beq_iff_eq, and_assoc]
/-- Two texts are one exactly if the trees are. -/
theorem apart_law (nm nm' : ByteArray) (d d' : Bool) (L M : List Stm) (h : validE nm L = 0) (h' : validE nm' M = 0) :
    (((⟨(printT d nm L).toArray⟩ : ByteArray).toList == (⟨(printT d' nm' M).toArray⟩ : ByteArray).toList) = eqT nm nm' d d' L M) := by
  rw [Bool.eq_iff_iff, eqT_iff, beqs, decide_eq_true_eq]
  constructor
  · intro e
    have e2 : printT d nm L = printT d' nm' M := by
      have := congrArg (fun x : ByteArray => x.data.toList) e
      simpa using this
    obtain ⟨a, b, c⟩ := print_inj d d' nm nm' L M h h' e2
    exact ⟨b, a, c⟩
  · rintro ⟨rfl, rfl, rfl⟩; rfl
set_option maxHeartbeats 8000000 in
set_option maxRecDepth 100000 in
theorem apart_walk (nm nm' : ByteArray) (dir dir' : Bool) (a b : Option Addr) (L M : List Stm) (ca cb : Nat) (w : World) (hL : StmsAt w.heap.size w a L) (hsL : sizeL L ≤ 1048576) (hnL : nm.size ≤ 1048576)
    (hM : StmsAt w.heap.size w b M) (hsM : sizeL M ≤ 1048576) (hnM : nm'.size ≤ 1048576) (he : Env w) :
    Calls Tryz.prog 5 #[.agg #[.string nm, .bool dir, .slice a L.length ca], .agg #[.string nm', .bool dir', .slice b M.length cb]] w fun e w' => e = .returned (.bool true) ∧ Ext w w' := by
  have hx : Ext w ((w.alloc (.cells #[.string nm, .bool dir, .slice a L.length ca] 24)).alloc (.cells #[.string nm', .bool dir', .slice b M.length cb] 24)) := ((Ext.refl w).alloc _).alloc _
  have hawk := fun w' (x : Ext w w') => awake_any w' (he.ext x)
  have hsa := fun w' (x : Ext w w') => small_any nm dir a L ca w.heap.size w' x.size (StmsAt.below x L hL) hsL
  have hsb := fun w' (x : Ext w w') => small_any nm' dir' b M cb w.heap.size w' x.size (StmsAt.below x M hM) hsM
  have hva := fun w' (x : Ext w w') => validR_any nm dir a L ca w.heap.size w' x.size (StmsAt.below x L hL) hsL (by omega)
  have hvb := fun w' (x : Ext w w') => validR_any nm' dir' b M cb w.heap.size w' x.size (StmsAt.below x M hM) hsM (by omega)
  have hpa := fun w' (x : Ext w w') => print_any nm dir a L ca w' (he.ext x) (StmsAt.mono x.size L (StmsAt.below x L hL)) hsL hnL (fun _ => printT_len dir nm L hnL hsL)
  have hpb := fun w' (x : Ext w w') => print_any nm' dir' b M cb w' (he.ext x) (StmsAt.mono x.size M (StmsAt.below x M hM)) hsM hnM (fun _ => printT_len dir' nm' M hnM hsM)
  have hqe := fun w' (x : Ext w w') => equalT_any nm nm' dir dir' L M a b ca cb w.heap.size w' hsL x.size (StmsAt.below x L hL) (StmsAt.below x M hM)
  have hc1 := fun w1 (x : Ext ((w.alloc (.cells #[.string nm, .bool dir, .slice a L.length ca] 24)).alloc (.cells #[.string nm', .bool dir', .slice b M.length cb] 24)) w1) => tree_cells w nm dir a L.length ca w1 (((Ext.refl _).alloc _).trans x)
  have hc2 := tree_cells (w.alloc (.cells #[.string nm, .bool dir, .slice a L.length ca] 24)) nm' dir' b M.length cb
  rw [World.size_alloc] at hc2
  have hlaw := apart_law nm nm' dir dir' L M
  generalize eqT nm nm' dir dir' L M = Q at *
  generalize smallB nm L = sa at *
  generalize smallB nm' M = sb at *
  generalize hVA : validE nm L = va at *
  generalize hVB : validE nm' M = vb at *
  generalize L.length = N at *
  generalize M.length = K at *
  obtain ⟨p0, p1, p2⟩ := hc1 _ (Ext.refl _)
  obtain ⟨q0, q1, q2⟩ := hc2 _ (Ext.refl _)
  have HX := Lib.hid hx; have HAWK := Lib.hid hawk; have HSA := Lib.hid hsa; have HSB := Lib.hid hsb; have HVA := Lib.hid hva; have HVB := Lib.hid hvb
  have HC1 := Lib.hid hc1; have HC2 := Lib.hid hc2
  clear hx hawk hsa hsb hva hvb hc1 hc2 hL hM hsL hsM hnL hnM he hVA hVB
  cases sa
  · clear hpa hpb hqe hlaw
    go_enter Tryz.func5, Tryz.ntmps5
    go_wp2_with fail
    refine (HSA.out _ HX.out).mono ?_
    rintro e w1 ⟨rfl, x1⟩
    go_wp2_with (go_at_call 8; refine (HAWK.out _ (HX.out.trans x1)).mono ?_; rintro e w2 ⟨rfl, x2⟩)
    go_returns
    exact ⟨rfl, (HX.out.trans x1).trans x2⟩
  cases sb
  · clear hpa hpb hqe hlaw
    go_enter Tryz.func5, Tryz.ntmps5
    go_wp2_with fail
    refine (HSA.out _ HX.out).mono ?_
    rintro e w1 ⟨rfl, x1⟩
    obtain ⟨q0, q1, q2⟩ := HC2.out _ x1
    go_wp2_with fail
    refine (HSB.out _ (HX.out.trans x1)).mono ?_
    rintro e w2 ⟨rfl, x2⟩
    go_wp2_with (go_at_call 8; refine (HAWK.out _ ((HX.out.trans x1).trans x2)).mono ?_; rintro e w3 ⟨rfl, x3⟩)
    go_returns
    exact ⟨rfl, ((HX.out.trans x1).trans x2).trans x3⟩
  by_cases hva0 : va = 0
  · by_cases hvb0 : vb = 0
    · subst hva0; subst hvb0
      rw [if_pos rfl] at hpa hpb
      have hl := hlaw rfl rfl
      clear hlaw
      generalize (⟨(printT dir nm L).toArray⟩ : ByteArray) = PA at *
      generalize (⟨(printT dir' nm' M).toArray⟩ : ByteArray) = PB at *
      have g9 : ((PA.toList == PB.toList) == Q) = true := by rw [hl]; simp
      have HPA := Lib.hid hpa; have HPB := Lib.hid hpb; have HQE := Lib.hid hqe
      clear hpa hpb hqe hl
      go_enter Tryz.func5, Tryz.ntmps5
      go_wp2_with fail
      refine (HSA.out _ HX.out).mono ?_
      rintro e w1 ⟨rfl, x1⟩
      obtain ⟨q0, q1, q2⟩ := HC2.out _ x1
      go_wp2_with fail
      refine (HSB.out _ (HX.out.trans x1)).mono ?_
      rintro e w2 ⟨rfl, x2⟩
      have x12 := x1.trans x2
      obtain ⟨p0, p1, p2⟩ := HC1.out _ x12
      go_wp2_with fail
      refine (HVA.out _ (HX.out.trans x12)).mono ?_
      rintro e w3 ⟨rfl, x3⟩
      have x13 := x12.trans x3
      obtain ⟨q0, q1, q2⟩ := HC2.out _ x13
      go_wp2_with fail
      refine (HVB.out _ (HX.out.trans x13)).mono ?_
      rintro e w4 ⟨rfl, x4⟩
      have x14 := x13.trans x4
      clear p0 p1 p2 q0 q1 q2 x1 x2 x12 x3 x13 x4
      go_wp2_with fail
      have k0 := fun d os => (HC1.out _ (x14.trans (below_regrown w4 d os))).1
      have k1 := fun d os => (HC1.out _ (x14.trans (below_regrown w4 d os))).2.1
      have k2 := fun d os => (HC1.out _ (x14.trans (below_regrown w4 d os))).2.2
      have k3 := fun d os => (HC2.out _ (x14.trans (below_regrown w4 d os))).1
      have k4 := fun d os => (HC2.out _ (x14.trans (below_regrown w4 d os))).2.1
      have k5 := fun d os => (HC2.out _ (x14.trans (below_regrown w4 d os))).2.2
      have C0 := Lib.hid (fun dd os => regrown_ext (HX.out.trans x14) HPA.out dd os)
      have C1 := Lib.hid (fun dd os => regrown_ext (HX.out.trans x14) HPB.out dd os)
      have C2 := Lib.hid (fun dd os => regrown_ext (HX.out.trans x14) HQE.out dd os)
      have C3 := Lib.hid (fun dd os => regrown_ext (HX.out.trans x14) HAWK.out dd os)
      refine wp_region_quiet_below (by kernel_rfl) (by kernel_rfl) ?_
      repeat (go_big_quiet_step ((first | (go_at_call 9; first | with_reducible exact C0.out _ _ | with_reducible exact C1.out _ _) | (go_at_call 14; exact C2.out _ _) | (go_at_call 8; exact C3.out _ _))))
      refine wpQuiet_nil ?_
      intro _ hw'
      obtain ⟨⟨dq, osq⟩, hw''⟩ := hw'
      subst hw''
      go_wp2_with fail
      go_returns
      exact ⟨rfl, (HX.out.trans x14).trans (below_regrown w4 _ _)⟩
    · obtain ⟨f1, f2⟩ := ne_facts hvb0
      clear hpa hpb hqe hlaw hvb0
      subst hva0
      go_enter Tryz.func5, Tryz.ntmps5
      go_wp2_with fail
      refine (HSA.out _ HX.out).mono ?_
      rintro e w1 ⟨rfl, x1⟩
      obtain ⟨q0, q1, q2⟩ := HC2.out _ x1
      go_wp2_with fail
      refine (HSB.out _ (HX.out.trans x1)).mono ?_
      rintro e w2 ⟨rfl, x2⟩
      have x12 := x1.trans x2
      obtain ⟨p0, p1, p2⟩ := HC1.out _ x12
      go_wp2_with fail
      refine (HVA.out _ (HX.out.trans x12)).mono ?_
      rintro e w3 ⟨rfl, x3⟩
      have x13 := x12.trans x3
      obtain ⟨q0, q1, q2⟩ := HC2.out _ x13
      go_wp2_with fail
      refine (HVB.out _ (HX.out.trans x13)).mono ?_
      rintro e w4 ⟨rfl, x4⟩
      have x14 := x13.trans x4
      go_wp2_with (go_at_call 8; refine (HAWK.out _ (HX.out.trans x14)).mono ?_; rintro e w5 ⟨rfl, x5⟩)
      go_returns
      exact ⟨rfl, (HX.out.trans x14).trans x5⟩
  · obtain ⟨f1, f2⟩ := ne_facts hva0
    clear hpa hpb hqe hlaw hva0
    go_enter Tryz.func5, Tryz.ntmps5
    go_wp2_with fail
    refine (HSA.out _ HX.out).mono ?_
    rintro e w1 ⟨rfl, x1⟩
    obtain ⟨q0, q1, q2⟩ := HC2.out _ x1
    go_wp2_with fail
    refine (HSB.out _ (HX.out.trans x1)).mono ?_
    rintro e w2 ⟨rfl, x2⟩
    have x12 := x1.trans x2
    obtain ⟨p0, p1, p2⟩ := HC1.out _ x12
    go_wp2_with fail
    refine (HVA.out _ (HX.out.trans x12)).mono ?_
    rintro e w3 ⟨rfl, x3⟩
    have x13 := x12.trans x3
    go_wp2_with (go_at_call 8; refine (HAWK.out _ (HX.out.trans x13)).mono ?_; rintro e w5 ⟨rfl, x5⟩)
    go_returns
    exact ⟨rfl, (HX.out.trans x13).trans x5⟩
theorem apart_card (v u : Value) (w : World) (hv : TreeArg w v) (hu : TreeArg w u) (he : Env w) : Calls Tryz.prog 5 #[v, u] w fun e w' => e = .returned (.bool true) ∧ Ext w w' := by
  obtain ⟨nm, dir, b, L, cap, rfl, h1, h2, h3⟩ := hv
  obtain ⟨nm', dir', b', M, cap', rfl, h4, h5, h6⟩ := hu
  exact apart_walk nm nm' dir dir' b b' L M cap cap' w h1 h2 h3 h4 h5 h6 he
end Go.Proofs.YtnjnfkfmkbnkhaaGreatDoor.Tr
