/- Packed texts: NorLawV, FixPost, NorSameG, NorFew -/
import Derived.Test.YtnancphlkbfglaaGreatDoorPn36
import Derived.BigQuiet
import Derived.Lib.QuietBelow
import Derived.Test.YtnancphlkbfglaaGreatDoorPn02
import Derived.ProofKit
import Derived.Test.YtnancphlkbfglaaGreatDoorPn16
import Derived.Deep.CutRange
import Derived.Test.YtnancphlkbfglaaGreatDoorPn30
import Derived.Test.YtnancphlkbfglaaGreatDoorPn17
import Derived.Test.YtnancphlkbfglaaGreatDoorPn19
set_option linter.unusedVariables false
set_option linter.unusedSimpArgs false
/- NormalizeValid, walked; an argument that is options, opened. -/
namespace Go.Proofs.YtnancphlkbfglaaGreatDoor.Nm
open Go.RowKit Go.Sort Go.Lib Go.Shelf Fx Lx Tr At Go.ChangeShapes Go.WideShapes Go.Deep

theorem regrown_extN {P : Program} {f : FuncId} {args : Array Value} {w wb : World} {T : Value} (hx : Ext w wb) (h : ∀ w', Ext w w' → Calls P f args w' fun e w'' => e = .returned T ∧ Ext w' w'') (d : Nat) (os : Array Obj) :
    Calls P f args (grow (redrawn wb d) os) fun e w'' => e = .returned T ∧ ∃ p : Regrown, w'' = grow (redrawn wb p.d) p.os :=
  Calls.regrown_of (h _ (hx.trans (below_regrown wb d os)))
def OpArg (_ : World) (v : Value) : Prop := ∃ o, v = opV o
theorem cOp : Tryz.prog.cellsOf 48 = 5 := by kernel_rfl
theorem cIntN : Tryz.prog.cellsOf 3 = 1 := by kernel_rfl
set_option maxRecDepth 100000 in
theorem op_list {H : Type} {enc : TypeId × Value → H} {W : World} {base : Nat} {sp : Nat → Bool} {held : Bool} {cs' : List Value} {y : DataW H × List MemPlace} {n : Nat} (h : DataW.trod enc Tryz.prog W base sp held n 48 cs' = some y) : ∃ a b c d e : Int, cs' = [.int .i64 a, .int .i64 b, .int .i64 c, .int .i64 d, .int .i64 e] := by
  obtain ⟨xs, n', _, rfl, hlen, hxl, hg⟩ := DataW.trod_struct Tryz.underlying48 h
  rw [cOp] at hlen
  have hxl5 : xs.length = 5 := hxl
  clear hxl
  match cs', hlen with
  | [p0, p1, p2, p3, p4], _ =>
    obtain ⟨y0, y1, y2, y3, y4, rfl⟩ : ∃ y0 y1 y2 y3 y4, xs = [y0, y1, y2, y3, y4] := by
      match xs, hxl5 with
      | [y0, y1, y2, y3, y4], _ => exact ⟨y0, y1, y2, y3, y4, rfl⟩
    have g0 : DataW.trod enc Tryz.prog W base sp held n' 3 [p0] = some y0 := by simpa [cIntN] using hg 0 _ rfl
    have g1 : DataW.trod enc Tryz.prog W base sp held n' 3 [p1] = some y1 := by simpa [cIntN] using hg 1 _ rfl
    have g2 : DataW.trod enc Tryz.prog W base sp held n' 3 [p2] = some y2 := by simpa [cIntN] using hg 2 _ rfl
    have g3 : DataW.trod enc Tryz.prog W base sp held n' 3 [p3] = some y3 := by simpa [cIntN] using hg 3 _ rfl
    have g4 : DataW.trod enc Tryz.prog W base sp held n' 3 [p4] = some y4 := by simpa [cIntN] using hg 4 _ rfl
    obtain ⟨a, e0, _, _⟩ := DataW.trod_int Tryz.underlying3 g0
    obtain ⟨b, e1, _, _⟩ := DataW.trod_int Tryz.underlying3 g1
    obtain ⟨c, e2, _, _⟩ := DataW.trod_int Tryz.underlying3 g2
    obtain ⟨d, e3, _, _⟩ := DataW.trod_int Tryz.underlying3 g3
    obtain ⟨e, e4, _, _⟩ := DataW.trod_int Tryz.underlying3 g4
    simp only [List.cons.injEq, and_true] at e0 e1 e2 e3 e4
    exact ⟨a, b, c, d, e, by rw [e0, e1, e2, e3, e4]⟩
set_option maxRecDepth 100000 in
theorem op_arg {H : Type} {enc : TypeId × Value → H} {W : World} {r : Reach} {b base : Nat} {sp : Nat → Bool} {held : Bool} {v : Value} {d : DataW H} {p : List MemPlace}
    (hv : Value.okWide Tryz.prog W r b 48 v) (h : DataW.Trod enc Tryz.prog W base sp held 48 v d p) : OpArg W v := by
  obtain ⟨cs, rfl, hsz⟩ := okWide_struct Tryz.underlying48 hv
  obtain ⟨fuel, hf⟩ := h
  obtain ⟨a, b, c, d, e, hc⟩ := op_list hf
  have hcs : cs.toList = [.int .i64 a, .int .i64 b, .int .i64 c, .int .i64 d, .int .i64 e] := by simpa [Value.cells] using hc
  refine ⟨⟨a, b, c, d, e⟩, ?_⟩
  unfold opV
  congr 1
  exact Array.toList_inj.1 hcs
set_option maxHeartbeats 2000000 in
set_option maxRecDepth 100000 in
/-- NormalizeValid is true. -/
theorem valid_card (v : Value) (w : World) (hv : OpArg w v) (he : Env w) :
    Calls Tryz.prog 7 #[v] w fun e w' => e = .returned (.bool true) ∧ Ext w w' := by
  obtain ⟨o, rfl⟩ := hv
  have h1 := fun w5 => vopP_any o w5
  have h2 := fun w5 => vopD_any o w5
  have h3 := fun (w5 : World) (x : Ext w w5) => awake_any w5 (he.ext x)
  obtain ⟨R, hR⟩ : ∃ R, R = okOb o := ⟨_, rfl⟩
  simp only [← hR] at h1 h2
  obtain ⟨m, a, b, c, d⟩ := o
  unfold opV at h1 h2 ⊢
  dsimp only at h1 h2 ⊢
  have H1 := Lib.hid h1; have H2 := Lib.hid h2; have H3 := Lib.hid h3
  clear h1 h2 h3 he hR
  have f1 : (R == R) = true := by rw [beq_self_eq_true]
  go_enter Tryz.func7, Tryz.ntmps7
  go_wp2_with fail
  have x0 : Ext w (w.alloc (.cells #[.int .i64 m, .int .i64 a, .int .i64 b, .int .i64 c, .int .i64 d] 48)) := (Ext.refl _).alloc _
  have hb := heap_alloc_new w (.cells #[.int .i64 m, .int .i64 a, .int .i64 b, .int .i64 c, .int .i64 d] 48)
  obtain ⟨w1, hw1⟩ : ∃ w1, w1 = w.alloc (.cells #[.int .i64 m, .int .i64 a, .int .i64 b, .int .i64 c, .int .i64 d] 48) := ⟨_, rfl⟩
  rw [← hw1] at x0 hb ⊢
  have X0 := Lib.hid x0
  obtain ⟨q0, q1, q2, q3, q4⟩ := cells5g hb
  have k0 := fun d os => Ext.cell (w := w1) (below_regrown w1 d os) q0
  have k1 := fun d os => Ext.cell (w := w1) (below_regrown w1 d os) q1
  have k2 := fun d os => Ext.cell (w := w1) (below_regrown w1 d os) q2
  have k3 := fun d os => Ext.cell (w := w1) (below_regrown w1 d os) q3
  have k4 := fun d os => Ext.cell (w := w1) (below_regrown w1 d os) q4
  have C0 := Lib.hid (fun dd os => regrown_extN X0.out (fun w5 (_ : Ext w w5) => H1.out w5) dd os)
  have C1 := Lib.hid (fun dd os => regrown_extN X0.out (fun w5 (_ : Ext w w5) => H2.out w5) dd os)
  have C2 := Lib.hid (fun dd os => regrown_extN X0.out H3.out dd os)
  clear hw1 x0 hb q0 q1 q2 q3 q4
  refine wp_region_quiet_below (by kernel_rfl) (by kernel_rfl) ?_
  repeat (go_big_quiet_step ((first | (go_at_call 21; exact C0.out _ _) | (go_at_call 22; exact C1.out _ _) | (go_at_call 9; exact C2.out _ _))))
  refine wpQuiet_nil ?_
  intro _ hw'
  obtain ⟨⟨dq, osq⟩, hw''⟩ := hw'
  subst hw''
  go_wp2_with fail
  go_returns
  exact ⟨rfl, X0.out.trans (below_regrown w1 _ _)⟩
end Go.Proofs.YtnancphlkbfglaaGreatDoor.Nm

/- From a walk that leaves all old memory as it was to what a row asks behind the call. -/
namespace Go.Proofs.YtnancphlkbfglaaGreatDoor.Fx
open Go.ChangeShapes Go.WideShapes Go.ChangeAt Go.RowKit
section
variable {H : Type} {enc : TypeId × Value → H} {P : Program}
theorem post_ext {f : Func} {s : ChangeSpec} {apart fresh handsOn again : Bool} {W W' : World} {args : Array Value} {v : Value} {ds gs : List (DataW H)} {places pa pv : List MemPlace}
    (hW : DataW.Whole enc P f.params.toList s.vars apart W args.toList ds gs places)
    (results : ∀ (b : Nat) (sp : Nat → Bool) (hd : Bool), DataW.TrodAll enc P W' b sp hd f.resultTypes.toList (v.resultList f.resultTypes.size) (s.fn H (ds ++ gs)).results [])
    (arguments : ∀ sp : Nat → Bool, (∀ x ∈ places, sp x.block = true) → DataW.TrodAll enc P W' 0 sp true f.params.toList args.toList (s.fn H (ds ++ gs)).args pa)
    (variables : ∀ sp : Nat → Bool, (∀ x ∈ places, sp x.block = true) → DataW.TrodVars enc P W' sp s.vars (s.fn H (ds ++ gs)).vars pv)
    (split : places = pa ++ pv) (ext : Ext W W')
    (ok : ∀ (j : Nat) (t : TypeId) (r : Value), f.resultTypes[j]? = some t → (v.resultList f.resultTypes.size)[j]? = some r → Value.okWide P W' .any 0 t r) :
    s.post enc P f apart fresh handsOn again W args v W' := by
  subst split
  have low : ∀ x ∈ pa ++ pv, x.block < W.heap.size := fun x hx => hW.lt x hx
  have mark : ∀ x ∈ pa ++ pv, (fun b => decide (b < W.heap.size)) x.block = true := fun x hx => decide_eq_true (low x hx)
  have whole := hW
  obtain ⟨_, _, _, _, _, cold, once⟩ := hW
  refine ⟨ds, gs, pa ++ pv, [], pa, pv, whole, results _ _ _, arguments _ mark, variables _ mark, World.keptBut_mono (fun x hx => ⟨hx, by simpa using hx⟩) (Below.frame ext (· ∈ pa ++ pv)), fun _ => ⟨ok, _, _, [] ++ pa ++ pv, ⟨[] ++ pa, pv, trodAll_append (arguments _ fun _ _ => rfl) (results _ _ _), variables _ fun _ _ => rfl, rfl, fun b off hb => ?_, fun ha => ?_⟩, fun x hx _ => ?_⟩⟩
  · have at' : MemPlace.cell b off ∈ pa ++ pv := by simpa using hb
    rw [Below.frozen ext (low _ at')]
    exact cold b off at'
  · have := once ha; simpa using this
  · simpa using hx
end
end Go.Proofs.YtnancphlkbfglaaGreatDoor.Fx

/- The document's Same of graphs: true of equal ones. -/
namespace Go.Proofs.YtnancphlkbfglaaGreatDoor.Nm
open Go.RowKit Go.Lib Fx Lx At

set_option maxHeartbeats 8000000 in
set_option maxRecDepth 100000 in
theorem same_true (g : Gr) (va vb : Value) (w : World) (ha : GrIn w va g) (hb : GrIn w vb g) (hN : g.N.length ≤ 1000000) (hE : g.E.length ≤ 1000000) (hC : g.C.length ≤ 1000000) (hP : ∀ x ∈ g.N, x.ports.length ≤ 1000000) :
    Calls Tryz.prog 12 #[va, vb] w fun e w' => e = .returned (.bool true) ∧ Ext w w' := by
  obtain ⟨na, nac, ea, eac, ca, cac, rfl, a1, a2, a3⟩ := ha
  obtain ⟨nb, nbc, eb, ebc, cb, cbc, rfl, b1, b2, b3⟩ := hb
  obtain ⟨nm, dir, NN, EE, CC⟩ := g
  dsimp only at *
  obtain ⟨n, hn⟩ : ∃ n, n = NN.length := ⟨_, rfl⟩
  obtain ⟨m, hm⟩ : ∃ n, n = EE.length := ⟨_, rfl⟩
  obtain ⟨q, hq⟩ : ∃ n, n = CC.length := ⟨_, rfl⟩
  rw [← hn] at hN ⊢; rw [← hm] at hE ⊢; rw [← hq] at hC ⊢
  have A1 := Lib.hid a1; have A2 := Lib.hid a2; have A3 := Lib.hid a3; have B1 := Lib.hid b1; have B2 := Lib.hid b2; have B3 := Lib.hid b3
  have HN := Lib.hid hn; have HM := Lib.hid hm; have HQ := Lib.hid hq; have HP := Lib.hid hP
  clear a1 a2 a3 b1 b2 b3 hn hm hq hP
  go_enter Tryz.func12, Tryz.ntmps12
  go_wp2
  obtain ⟨w1, hw1⟩ : ∃ w1, w1 = (w.alloc (.cells #[.string nm, .bool dir, .slice na n nac, .slice ea m eac, .slice ca q cac] 31)).alloc (.cells #[.string nm, .bool dir, .slice nb n nbc, .slice eb m ebc, .slice cb q cbc] 31) := ⟨_, rfl⟩
  have X1 : Hid (Ext ((w.alloc (.cells #[.string nm, .bool dir, .slice na n nac, .slice ea m eac, .slice ca q cac] 31)).alloc (.cells #[.string nm, .bool dir, .slice nb n nbc, .slice eb m ebc, .slice cb q cbc] 31)) w1) := Lib.hid (by rw [hw1]; exact Ext.refl _)
  have XW : Hid (Ext w w1) := Lib.hid ((((Ext.refl _).alloc _).alloc _).trans X1.out)
  rw [← hw1]
  clear hw1
  go_loopw [5] (fun i' wr => ∃ k : Nat, k ≤ n ∧ i' = .int .i64 k ∧ Ext w1 wr) (fun i' _ => n - (RowKit.intOf i').toNat)
  case atStart => exact ⟨0, Nat.zero_le _, rfl, Ext.refl _⟩
  case round =>
    obtain ⟨k, hk, rfl, hx⟩ := hrel
    obtain ⟨bA, bB⟩ := boxes (X1.out.trans hx)
    have e0 := bA 2 _ rfl
    have e1 := bB 2 _ rfl
    have e2 := bA 3 _ rfl
    have e3 := bB 3 _ rfl
    clear bA bB
    by_cases hlt : k < n
    · have hkN : k < NN.length := by rw [← HN.out]; exact hlt
      obtain ⟨g1, o1, p1, c1, rfl, x0, x1, x2, x3, x4, x5, x6⟩ := (A1.out.ext (XW.out.trans hx)) k hkN
      obtain ⟨g2, o2, p2, c2, rfl, y0, y1, y2, y3, y4, y5, y6⟩ := (B1.out.ext (XW.out.trans hx)) k hkN
      have hpl := HP.out _ (List.getElem_mem hkN)
      have SN := fun (w5 : World) (x : Ext wr w5) => sameNode_true NN[k].name NN[k].label NN[k].w NN[k].h NN[k].c NN[k].ports p1 p2 c1 c2 w5 (x6.ext x) (y6.ext x) (by omega)
      obtain ⟨z, hz⟩ : ∃ z, z = NN[k] := ⟨_, rfl⟩
      rw [← hz] at x0 x1 x2 x3 x4 x5 y0 y1 y2 y3 y4 y5 SN
      obtain ⟨z0, z1, z2, z3, z4, z5⟩ := z
      dsimp only at *
      obtain ⟨pl, hpl'⟩ : ∃ n, n = z5.length := ⟨_, rfl⟩
      rw [← hpl'] at x5 y5 SN
      have HSN := Lib.hid SN
      have b0 : (0 : Int) ≤ (k : Int) := by omega
      have b1 : (k : Int) < (n : Int) := by omega
      clear hz x6 y6 hpl SN hpl'
      go_wp2_with fail
      go_cut [65] from 47 to 65 (fun s65 wx => s65 = .bool false ∧ Hid (Ext wr wx))
      case first =>
        go_region_with (go_at_call 34; refine (HSN.out _ (by first | exact (Ext.refl _).drew | exact Ext.refl _)).mono ?_; rintro e w6 ⟨rfl, x6⟩)
        all_goals go_wp2
        all_goals go_meet
        all_goals exact ⟨rfl, Lib.hid (((Ext.refl _).drew).trans x6)⟩
      case rest =>
        obtain ⟨rfl, hxd⟩ := hcut
        have hx2 := hx.trans hxd.out
        go_wp2
        go_roundw
        case rel => exact ⟨k + 1, by omega, by go_num, hx2⟩
        case measure => simp [RowKit.intOf]; omega
    · have hx2 := Lib.hid hx
      clear hx
      obtain ⟨w2, hw2⟩ : ∃ w2 : World, w2 = wr := ⟨_, rfl⟩
      subst hw2
      go_wp2
      go_loopw [6] (fun i' wr => ∃ k : Nat, k ≤ m ∧ i' = .int .i64 k ∧ Ext w1 wr) (fun i' _ => m - (RowKit.intOf i').toNat)
      case atStart => exact ⟨0, Nat.zero_le _, rfl, hx2.out⟩
      case round =>
        clear e0 e1 e2 e3
        obtain ⟨j, hj, rfl, hx⟩ := hrel
        obtain ⟨bA, bB⟩ := boxes (X1.out.trans hx)
        have e2 := bA 3 _ rfl
        have e3 := bB 3 _ rfl
        have e4 := bA 4 _ rfl
        have e5 := bB 4 _ rfl
        clear bA bB
        by_cases hlj : j < m
        · have hjE : j < EE.length := by rw [← HM.out]; exact hlj
          obtain ⟨g1, o1, rfl, x0, x1, x2, x3, x4, x5, x6⟩ := (A2.out.ext (XW.out.trans hx)) j hjE
          obtain ⟨g2, o2, rfl, y0, y1, y2, y3, y4, y5, y6⟩ := (B2.out.ext (XW.out.trans hx)) j hjE
          obtain ⟨z, hz⟩ : ∃ z, z = EE[j] := ⟨_, rfl⟩
          rw [← hz] at x0 x1 x2 x3 x4 x5 x6 y0 y1 y2 y3 y4 y5 y6
          obtain ⟨z0, z1, z2, z3, z4, z5, z6⟩ := z
          dsimp only at *
          have b0 : (0 : Int) ≤ (j : Int) := by omega
          have b1 : (j : Int) < (m : Int) := by omega
          clear hz
          go_wp2_with fail
          go_quiet (fail)
          go_wp2
          go_roundw
          case rel => exact ⟨j + 1, by omega, by go_num, by first | exact hx.drewN _ | exact hx.drew⟩
          case measure => simp [RowKit.intOf]; omega
        · have hx3 := Lib.hid hx
          clear hx
          obtain ⟨w3, hw3⟩ : ∃ w3 : World, w3 = wr := ⟨_, rfl⟩
          subst hw3
          go_wp2
          go_loopw [7] (fun i' wr => ∃ k : Nat, k ≤ q ∧ i' = .int .i64 k ∧ Ext w1 wr) (fun i' _ => q - (RowKit.intOf i').toNat)
          case atStart => exact ⟨0, Nat.zero_le _, rfl, hx3.out⟩
          case round =>
            clear e2 e3 e4 e5
            obtain ⟨l, hl, rfl, hx⟩ := hrel
            obtain ⟨bA, bB⟩ := boxes (X1.out.trans hx)
            have e4 := bA 4 _ rfl
            have e5 := bB 4 _ rfl
            clear bA bB
            by_cases hll : l < q
            · have hlC : l < CC.length := by rw [← HQ.out]; exact hll
              obtain ⟨g1, o1, rfl, x0, x1⟩ := (A3.out.ext (XW.out.trans hx)) l hlC
              obtain ⟨g2, o2, rfl, y0, y1⟩ := (B3.out.ext (XW.out.trans hx)) l hlC
              obtain ⟨s, hs⟩ : ∃ s, s = CC[l].1 := ⟨_, rfl⟩
              obtain ⟨z, hz⟩ : ∃ z, z = CC[l].2 := ⟨_, rfl⟩
              rw [← hs] at x0 y0; rw [← hz] at x1 y1
              have b0 : (0 : Int) ≤ (l : Int) := by omega
              have b1 : (l : Int) < (q : Int) := by omega
              clear hs hz
              go_wp2_with fail
              go_quiet (fail)
              go_wp2
              go_roundw
              case rel => exact ⟨l + 1, by omega, by go_num, by first | exact hx.drewN _ | exact hx.drew⟩
              case measure => simp [RowKit.intOf]; omega
            · go_wp2
              go_ret
              exact ⟨rfl, XW.out.trans hx⟩
end Go.Proofs.YtnancphlkbfglaaGreatDoor.Nm

/- What few returns, where a tree's statements are few, and where not. -/
namespace Go.Proofs.YtnancphlkbfglaaGreatDoor.Nm
open Go.RowKit Go.Sort Go.Lib Go.Shelf Fx Lx Tr

mutual
def fewS (dep : Nat) : Stm → Bool
  | .mk _ _ rs al b => decide (rs.length ≤ 10) && decide (al.length ≤ 20) && (decide (b.length ≤ 20) && decide (dep ≤ 7) && fewA (dep + 1) b)
def fewA (dep : Nat) : List Stm → Bool
  | [] => true
  | x :: r => fewS dep x && fewA dep r
end
/-- Statements are few, at few levels. -/
def fewB (dep : Nat) (L : List Stm) : Bool := decide (L.length ≤ 20) && decide (dep ≤ 8) && fewA dep L
theorem fewS_mk (dep : Nat) (k : Int) (n : ByteArray) (rs al : List Two) (b : List Stm) : fewS dep (.mk k n rs al b) = (decide (rs.length ≤ 10) && decide (al.length ≤ 20) && fewB (dep + 1) b) := by
  rw [fewS]; unfold fewB
  rw [show decide (dep + 1 ≤ 8) = decide (dep ≤ 7) by rw [decide_eq_decide]; omega]
theorem fewA_cons (dep : Nat) (x : Stm) (r : List Stm) : fewA dep (x :: r) = (fewS dep x && fewA dep r) := by rw [fewA]
theorem fewA_nil (dep : Nat) : fewA dep [] = true := by rw [fewA]
set_option maxHeartbeats 4000000 in
set_option maxRecDepth 100000 in
theorem few_any : ∀ (K : Nat) (L : List Stm) (b : Option Addr) (cap n dep : Nat) (w : World), sizeL L ≤ K → L.length ≤ maxLen → dep ≤ 9 → n ≤ w.heap.size → StmsAt n w b L →
    Calls Tryz.prog 8 #[.slice b L.length cap, .int .i64 dep] w fun e w' => e = .returned (.bool (fewB dep L)) ∧ Ext w w' := by
  intro K
  induction K using Nat.strongRecOn with
  | _ K ih =>
  intro L b cap n dep w hK hmax hdep hn hL
  obtain ⟨V, hV⟩ : ∃ V, V = fewB dep L := ⟨_, rfl⟩
  rw [← hV]
  unfold fewB at hV
  obtain ⟨N, hN⟩ : ∃ N, N = L.length := ⟨_, rfl⟩
  rw [← hN] at hV hmax ⊢
  unfold maxLen at hmax
  by_cases h20 : N ≤ 20
  · by_cases h8 : dep ≤ 8
    · rw [decide_eq_true h20, decide_eq_true h8, Bool.true_and, Bool.true_and] at hV
      have f1 : decide ((20 : Int) < N) = false := decide_eq_false (by omega)
      have f2 : decide ((8 : Int) < dep) = false := decide_eq_false (by omega)
      have f1' : ¬ (20 : Int) < N := by omega
      have f2' : ¬ (8 : Int) < dep := by omega
      have HV : Hid (V = fewA dep (L.drop 0)) := Lib.hid hV
      have HN := Lib.hid hN; have HL := Lib.hid hL; have HK := Lib.hid hK; have HNW := Lib.hid hn; have HIH := Lib.hid ih
      clear hV hN hL hK hn ih
      go_enter Tryz.func8, Tryz.ntmps8
      go_wp2_with fail
      go_loopw [5] (fun i' wr => ∃ k : Nat, k ≤ N ∧ i' = .int .i64 k ∧ Ext w wr ∧ Hid (V = fewA dep (L.drop k))) (fun i' _ => N - (RowKit.intOf i').toNat)
      case atStart => exact ⟨0, by omega, rfl, Ext.refl _, HV⟩
      case round =>
        obtain ⟨k, hk, rfl, hx, hb⟩ := hrel
        clear HV
        by_cases hlt : k < N
        · have hkl : k < L.length := by rw [← HN.out]; exact hlt
          have hbn : Below n w wr := Below.mono hx HNW.out
          obtain ⟨g, o, rfl, hg, hst⟩ := StmsAt.at L (StmsAt.below hbn L HL.out) k hkl
          have hsz : sizeS L[k] ≤ K := Nat.le_trans (sizeL_at L k hkl) HK.out
          have hbv := hb.out
          rw [List.drop_eq_getElem_cons hkl, fewA_cons] at hbv
          obtain ⟨s, hs⟩ : ∃ s, s = L[k] := ⟨_, rfl⟩
          rw [← hs] at hst hsz hbv
          clear hs hb
          obtain ⟨kind, nm, rs, al, body⟩ := s
          have hbd := sizeS_body (.mk kind nm rs al body)
          simp only [Stm.body, Stm.name, Stm.refs, Stm.attrs] at hbd
          rw [StmAt] at hst
          obtain ⟨r, rc, a', atc, b', bc, c0, c1, c2, c3, c4, hr, ha, hbs, hl1, hl2, hl3, hl4, hl5⟩ := hst
          have hwn : n ≤ wr.heap.size := Nat.le_trans HNW.out hx.size
          have hcall := HIH.out (sizeL body) (by omega) body b' bc n (dep + 1) wr (Nat.le_refl _) hl5 (by omega) hwn (StmsAt.below (Below.refl _ _) body hbs)
          rw [fewS_mk] at hbv
          have hrl : rs.length ≤ 9223372036854775807 := by unfold maxLen at hl3; omega
          have hal : al.length ≤ 9223372036854775807 := by unfold maxLen at hl4; omega
          generalize fewB (dep + 1) body = cc at hbv hcall
          have hdp : ((dep + 1 : Nat) : Int) = (dep : Int) + 1 := by omega
          rw [hdp] at hcall
          have HC := Lib.hid hcall
          clear hcall hbd hsz hr ha hbs hl1 hl2 hl3 hl4 hl5 hg hbn hwn hdp
          generalize rs.length = R at *
          generalize al.length = A at *
          generalize body.length = B at *
          by_cases e1 : R ≤ 10
          · have g1 : ¬ (10 : Int) < R := by omega
            by_cases e2 : A ≤ 20
            · have g2 : ¬ (20 : Int) < A := by omega
              rw [decide_eq_true e1, decide_eq_true e2, Bool.true_and, Bool.true_and] at hbv
              cases cc
              · rw [Bool.false_and] at hbv
                have hf := Lib.hid hbv
                clear hbv
                go_wp2_with (go_at_call 8; refine HC.out.mono ?_; rintro e w5 ⟨rfl, x5⟩)
                go_returns
                exact ⟨by rw [hf.out]; rfl, hx.trans x5⟩
              · rw [Bool.true_and] at hbv
                have hf := Lib.hid hbv
                clear hbv
                go_wp2_with (go_at_call 8; refine HC.out.mono ?_; rintro e w5 ⟨rfl, x5⟩)
                go_roundw
                case rel => exact ⟨k + 1, by omega, by go_num, hx.trans x5, hf⟩
                case measure => simp [RowKit.intOf]; omega
            · have g2 : (20 : Int) < A := by omega
              have hf : Hid (V = false) := Lib.hid (by rw [hbv, decide_eq_false e2]; simp)
              clear hbv e2
              go_wp2_with fail
              go_returns
              exact ⟨by rw [hf.out]; rfl, hx⟩
          · have g1 : (10 : Int) < R := by omega
            have hf : Hid (V = false) := Lib.hid (by rw [hbv, decide_eq_false e1]; simp)
            clear hbv e1
            go_wp2_with fail
            go_returns
            exact ⟨by rw [hf.out]; rfl, hx⟩
        · have hf : Hid (V = true) := Lib.hid (by rw [hb.out, List.drop_eq_nil_of_le (by rw [← HN.out]; omega), fewA_nil])
          clear hb
          go_wp2_with fail
          go_returns
          exact ⟨by rw [hf.out]; rfl, hx⟩
    · have f1' : ¬ (20 : Int) < N := by omega
      have f2' : (8 : Int) < dep := by omega
      have hf : Hid (V = false) := Lib.hid (by rw [hV, decide_eq_false h8]; simp)
      clear hV hN hL hK hn ih h8
      go_enter Tryz.func8, Tryz.ntmps8
      go_wp2_with fail
      go_returns
      exact ⟨by rw [hf.out]; rfl, Ext.refl _⟩
  · have f1' : (20 : Int) < N := by omega
    have hf : Hid (V = false) := Lib.hid (by rw [hV, decide_eq_false h20]; simp)
    clear hV hN hL hK hn ih h20
    go_enter Tryz.func8, Tryz.ntmps8
    go_wp2_with fail
    go_returns
    exact ⟨by rw [hf.out]; rfl, Ext.refl _⟩
end Go.Proofs.YtnancphlkbfglaaGreatDoor.Nm
