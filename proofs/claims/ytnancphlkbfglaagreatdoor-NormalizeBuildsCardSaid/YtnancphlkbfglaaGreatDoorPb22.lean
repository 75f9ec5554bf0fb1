/- Packed texts: NorValR, NorRes, NorPort, NorOk -/
import Derived.Test.YtnancphlkbfglaaGreatDoorPb21
import Derived.Test.YtnancphlkbfglaaGreatDoorPb20
import Derived.Laws.ResultCell
import Derived.Laws.StructEq
import Derived.Deep.RegionLaw
import Derived.Test.YtnancphlkbfglaaGreatDoorPb14
import Derived.Test.YtnancphlkbfglaaGreatDoorPb16
set_option linter.unusedVariables false
set_option linter.unusedSimpArgs false
namespace Go.Proofs.YtnancphlkbfglaaGreatDoor.Nm
open Go.RowKit Go.Sort Go.Lib Go.Shelf Fx Lx Tr At
def GrSm (g : Gr) : Prop := g.name.size ≤ 4611686018427387904 ∧ g.N.length ≤ 1000000 ∧ g.E.length ≤ 1000000 ∧ g.C.length ≤ 1000000 ∧
  (∀ x ∈ g.N, x.name.size ≤ 4611686018427387904 ∧ x.label.size ≤ 4611686018427387904 ∧ x.ports.length ≤ 1000000 ∧ ∀ q ∈ x.ports, q.1.size ≤ 9223372036854775807) ∧
  (∀ x ∈ g.C, x.1.size ≤ 4611686018427387904) ∧ (∀ x ∈ g.E, x.label.size ≤ 4611686018427387904)
theorem cl_parent {N : List Nd} {C : List (ByteArray × Int)} {i : Nat} {x : ByteArray × Int} (h : clE N C i x = 0) : x.2 < i ∧ -1 ≤ x.2 := by
  unfold clE at h
  split at h
  · exact absurd h (by decide)
  · split at h
    · exact absurd h (by decide)
    · split at h
      · exact absurd h (by decide)
      · rename_i h1; omega
set_option maxHeartbeats 8000000 in
set_option maxRecDepth 100000 in
theorem validGR_any (g : Gr) (va : Value) (w : World) (ha : GrIn w va g) (hsm : GrSm g) :
    Calls Tryz.prog 13 #[va] w fun e w' => e = .returned (.int .i64 (grE g)) ∧ Ext w w' := by
  obtain ⟨h1, h2, h3, h4, h5, h6, h7⟩ := hsm
  have hnd := fun (i : Nat) (hi : i < g.N.length) (w5 : World) (x : Ext w w5) => nodeR_any g va i w5 (ha.ext x) hi h2 h4 h5
  have hcl := fun (i : Nat) (hi : i < g.C.length) (hp : ∀ k (h : k < g.C.length), k < i → g.C[k].2 < k ∧ -1 ≤ g.C[k].2) (w5 : World) (x : Ext w w5) => clR_any g va i w5 (ha.ext x) hi h2 h4 h6 hp
  have hed := fun (x : Ed) (hs : x.label.size ≤ 4611686018427387904) (w5 : World) (y : Ext w w5) => edR_any g va x w5 (ha.ext y) h2 hs (fun z hz => (h5 z hz).2.2.1)
  obtain ⟨na, nac, ea, eac, ca, cac, rfl, -, a2, -⟩ := ha
  obtain ⟨nm, dir, NN, EE, CC⟩ := g
  dsimp only at *
  obtain ⟨V, hV⟩ : ∃ V, V = grE ⟨nm, dir, NN, EE, CC⟩ := ⟨_, rfl⟩
  rw [← hV]
  unfold grE at hV
  dsimp only at hV
  have hnmc := isNameR_any nm (by omega)
  obtain ⟨nb, hnb⟩ : ∃ b, b = nameB nm.data.toList := ⟨_, rfl⟩
  rw [← hnb] at hnmc hV
  obtain ⟨VN, hVN⟩ : ∃ v, v = ndsE CC.length NN [] := ⟨_, rfl⟩
  obtain ⟨VC, hVC⟩ : ∃ v, v = clsE NN CC 0 CC := ⟨_, rfl⟩
  obtain ⟨VE, hVE⟩ : ∃ v, v = edsE NN EE := ⟨_, rfl⟩
  rw [← hVN, ← hVC, ← hVE] at hV
  have H0 : Hid (VN = ndsE CC.length (NN.drop 0) (NN.take 0)) := Lib.hid (by rw [List.drop_zero, List.take_zero]; exact hVN)
  have G0 : Hid (VC = clsE NN CC 0 (CC.drop 0)) := Lib.hid (by rw [List.drop_zero]; exact hVC)
  have E0 : Hid (VE = edsE NN (EE.drop 0)) := Lib.hid (by rw [List.drop_zero]; exact hVE)
  obtain ⟨q, hq⟩ : ∃ n, n = NN.length := ⟨_, rfl⟩
  obtain ⟨el, hel⟩ : ∃ n, n = EE.length := ⟨_, rfl⟩
  obtain ⟨cl, hcl'⟩ : ∃ n, n = CC.length := ⟨_, rfl⟩
  rw [← hq] at h2 hed hV ⊢
  rw [← hel] at h3 hed hV ⊢
  rw [← hcl'] at h4 hed hV H0 ⊢
  have HV := Lib.hid hV; have HND := Lib.hid hnd; have HCL := Lib.hid hcl; have HED := Lib.hid hed; have HNM := Lib.hid hnmc; have A2 := Lib.hid a2
  have HQ := Lib.hid hq; have HEL := Lib.hid hel; have HC := Lib.hid hcl'; have H7 := Lib.hid h7
  clear hV hnd hcl hed hnmc a2 hq hel hcl' h7 hVN hVC hVE hnb h5 h6
  go_enter Tryz.func13, Tryz.ntmps13
  by_cases r0 : 64 < q
  · have t0 : decide ((64 : Int) < q) = true := decide_eq_true (by omega)
    have hr : Hid (V = 2) := Lib.hid (by rw [HV.out, if_pos (by omega)])
    clear HV
    go_wp2
    go_ret
    exact ⟨ret_i hr.out.symm, (Ext.refl _).alloc _⟩
  have t0 : decide ((64 : Int) < q) = false := decide_eq_false (by omega)
  by_cases r1 : 256 < el
  · have t1 : decide ((256 : Int) < el) = true := decide_eq_true (by omega)
    have hr : Hid (V = 2) := Lib.hid (by rw [HV.out, if_pos (by omega)])
    clear HV
    go_wp2
    go_ret
    exact ⟨ret_i hr.out.symm, (Ext.refl _).alloc _⟩
  have t1 : decide ((256 : Int) < el) = false := decide_eq_false (by omega)
  by_cases r2 : 16 < cl
  · have t2 : decide ((16 : Int) < cl) = true := decide_eq_true (by omega)
    have hr : Hid (V = 2) := Lib.hid (by rw [HV.out, if_pos (by omega)])
    clear HV
    go_wp2
    go_ret
    exact ⟨ret_i hr.out.symm, (Ext.refl _).alloc _⟩
  have t2 : decide ((16 : Int) < cl) = false := decide_eq_false (by omega)
  cases nb with
  | false =>
    have hr : Hid (V = 5) := Lib.hid (by rw [HV.out, if_neg (by omega), if_pos rfl])
    clear HV
    go_wp2_with (go_at_call 35; refine (HNM.out _).mono ?_; rintro e w2 ⟨rfl, rfl⟩)
    go_ret
    exact ⟨ret_i hr.out.symm, (Ext.refl _).alloc _⟩
  | true =>
    have HV1 : Hid (V = if VN ≠ 0 then VN else if VC ≠ 0 then VC else VE) := Lib.hid (by rw [HV.out, if_neg (by omega), if_neg (by decide)])
    clear HV
    go_wp2_with (go_at_call 35; refine (HNM.out _).mono ?_; rintro e w2 ⟨rfl, rfl⟩)
    obtain ⟨w1, hw1⟩ : ∃ w1, w1 = w.alloc (.cells #[.string nm, .bool dir, .slice na q nac, .slice ea el eac, .slice ca cl cac] 31) := ⟨_, rfl⟩
    have X1 : Hid (Ext (w.alloc (.cells #[.string nm, .bool dir, .slice na q nac, .slice ea el eac, .slice ca cl cac] 31)) w1) := Lib.hid (by rw [hw1]; exact Ext.refl _)
    have XW : Hid (Ext w w1) := Lib.hid (((Ext.refl _).alloc _).trans X1.out)
    rw [← hw1]
    clear hw1
    generalize decide ((64 : Int) < (q : Int)) = dk0
    generalize decide ((256 : Int) < (el : Int)) = dk1
    generalize decide ((16 : Int) < (cl : Int)) = dk2
    go_loopw [3] (fun i' wr => ∃ k : Nat, k ≤ q ∧ i' = .int .i64 k ∧ Hid (VN = ndsE cl (NN.drop k) (NN.take k)) ∧ Ext w1 wr) (fun i' _ => q - (RowKit.intOf i').toNat)
    case atStart => exact ⟨0, Nat.zero_le _, rfl, H0, Ext.refl _⟩
    case round =>
      clear H0
      obtain ⟨k, hk, rfl, hvn, hx⟩ := hrel
      have bb := box1 (X1.out.trans hx)
      have m0 := bb 0 _ rfl; have m1 := bb 1 _ rfl; have m2 := bb 2 _ rfl; have m3 := bb 3 _ rfl; have m4 := bb 4 _ rfl
      clear bb
      by_cases hlt : k < q
      · have hkN : k < NN.length := by rw [← HQ.out]; exact hlt
        have hv1 := hvn.out
        rw [List.drop_eq_getElem_cons hkN] at hv1
        unfold ndsE at hv1
        rw [← List.take_succ_eq_append_getElem hkN] at hv1
        have HN1 := HND.out k hkN
        rw [← HC.out] at HN1
        obtain ⟨e, he⟩ : ∃ e, e = ndE cl (NN.take k) NN[k] := ⟨_, rfl⟩
        rw [← he] at hv1 HN1
        rw [← HQ.out, ← HEL.out] at HN1
        have HN1 := Lib.hid HN1
        have HV2 := Lib.hid hv1
        clear hv1 hvn he
        by_cases h0 : e = 0
        · obtain ⟨f1, f2⟩ := efacts 0
          subst h0
          have hn : Hid (VN = ndsE cl (NN.drop (k + 1)) (NN.take (k + 1))) := Lib.hid (by rw [HV2.out]; simp)
          go_wp2_with (go_at_call 36; refine (HN1.out _ (XW.out.trans hx)).mono ?_; rintro e w2 ⟨rfl, x2⟩)
          go_roundw
          case rel => exact ⟨k + 1, by omega, by go_num, hn, hx.trans x2⟩
          case measure => simp [RowKit.intOf]; omega
        · obtain ⟨f1, f2⟩ := nfacts h0
          have hr : Hid (V = e) := Lib.hid (by
            have h1 : VN = e := by rw [HV2.out, if_pos h0]
            rw [HV1.out, h1, if_pos h0])
          clear h0
          go_wp2_with (go_at_call 36; refine (HN1.out _ (XW.out.trans hx)).mono ?_; rintro e w2 ⟨rfl, x2⟩)
          go_ret
          exact ⟨ret_i hr.out.symm, (XW.out.trans hx).trans x2⟩
      · have hn0 : VN = 0 := by rw [hvn.out, List.drop_eq_nil_of_le (by rw [← HQ.out]; omega)]; rfl
        have HV2 : Hid (V = if VC ≠ 0 then VC else VE) := Lib.hid (by rw [HV1.out, if_neg (by omega)])
        have hxa := Lib.hid hx
        clear hvn hn0 HV1 hx
        obtain ⟨w5, hw5⟩ : ∃ w5 : World, w5 = wr := ⟨_, rfl⟩
        subst hw5
        go_wp2
        go_loopw [5] (fun i' wr => ∃ k : Nat, k ≤ cl ∧ i' = .int .i64 k ∧ Hid (VC = clsE NN CC k (CC.drop k)) ∧ Hid (∀ j (h : j < CC.length), j < k → CC[j].2 < j ∧ -1 ≤ CC[j].2) ∧ Ext w1 wr) (fun i' _ => cl - (RowKit.intOf i').toNat)
        case atStart => exact ⟨0, Nat.zero_le _, rfl, G0, Lib.hid (fun j _ h => absurd h (by omega)), hxa.out⟩
        case round =>
          clear G0 m0 m1 m2 m3 m4
          obtain ⟨j, hj, rfl, hvc, hpa, hx⟩ := hrel
          have bb := box1 (X1.out.trans hx)
          have m0 := bb 0 _ rfl; have m1 := bb 1 _ rfl; have m2 := bb 2 _ rfl; have m3 := bb 3 _ rfl; have m4 := bb 4 _ rfl
          clear bb
          by_cases hlj : j < cl
          · have hjC : j < CC.length := by rw [← HC.out]; exact hlj
            have hv1 := hvc.out
            rw [List.drop_eq_getElem_cons hjC] at hv1
            unfold clsE at hv1
            have HC1 := HCL.out j hjC hpa.out
            have hpar := @cl_parent NN CC j CC[j]
            obtain ⟨e, he⟩ : ∃ e, e = clE NN CC j CC[j] := ⟨_, rfl⟩
            rw [← he] at hv1 HC1 hpar
            rw [← HQ.out, ← HEL.out, ← HC.out] at HC1
            have HC1 := Lib.hid HC1
            have HV3 := Lib.hid hv1
            have HPAR := Lib.hid hpar
            clear hv1 hvc he hpar
            by_cases h0 : e = 0
            · obtain ⟨f1, f2⟩ := efacts 0
              subst h0
              have hn : Hid (VC = clsE NN CC (j + 1) (CC.drop (j + 1))) := Lib.hid (by rw [HV3.out]; simp)
              have hpa2 : Hid (∀ l (h : l < CC.length), l < j + 1 → CC[l].2 < l ∧ -1 ≤ CC[l].2) := Lib.hid (fun l hl hlj => by
                by_cases e : l = j
                · subst e; exact HPAR.out rfl
                · exact hpa.out l hl (by omega))
              go_wp2_with (go_at_call 37; refine (HC1.out _ (XW.out.trans hx)).mono ?_; rintro e w2 ⟨rfl, x2⟩)
              go_roundw
              case rel => exact ⟨j + 1, by omega, by go_num, hn, hpa2, hx.trans x2⟩
              case measure => simp [RowKit.intOf]; omega
            · obtain ⟨f1, f2⟩ := nfacts h0
              have hr : Hid (V = e) := Lib.hid (by
                have h1 : VC = e := by rw [HV3.out, if_pos h0]
                rw [HV2.out, h1, if_pos h0])
              clear h0
              go_wp2_with (go_at_call 37; refine (HC1.out _ (XW.out.trans hx)).mono ?_; rintro e w2 ⟨rfl, x2⟩)
              go_ret
              exact ⟨ret_i hr.out.symm, (XW.out.trans hx).trans x2⟩
          · have hn0 : VC = 0 := by rw [hvc.out, List.drop_eq_nil_of_le (by rw [← HC.out]; omega)]; rfl
            have HV3 : Hid (V = VE) := Lib.hid (by rw [HV2.out, if_neg (by omega)])
            have hxb := Lib.hid hx
            clear hvc hn0 HV2 hx hpa
            obtain ⟨w6, hw6⟩ : ∃ w6 : World, w6 = wr := ⟨_, rfl⟩
            subst hw6
            go_wp2
            go_loopw [7] (fun i' wr => ∃ k : Nat, k ≤ el ∧ i' = .int .i64 k ∧ Hid (VE = edsE NN (EE.drop k)) ∧ Ext w1 wr) (fun i' _ => el - (RowKit.intOf i').toNat)
            case atStart => exact ⟨0, Nat.zero_le _, rfl, E0, hxb.out⟩
            case round =>
              clear E0 m0 m1 m2 m3 m4
              obtain ⟨l, hl, rfl, hve, hx⟩ := hrel
              have bb := box1 (X1.out.trans hx)
              have m0 := bb 0 _ rfl; have m1 := bb 1 _ rfl; have m2 := bb 2 _ rfl; have m3 := bb 3 _ rfl; have m4 := bb 4 _ rfl
              clear bb
              by_cases hll : l < el
              · have hlE : l < EE.length := by rw [← HEL.out]; exact hll
                obtain ⟨g1, o1, rfl, x0, x1, x2, x3, x4, x5, x6⟩ := (A2.out.ext (XW.out.trans hx)) l hlE
                have hv1 := hve.out
                rw [List.drop_eq_getElem_cons hlE] at hv1
                unfold edsE at hv1
                have hsz := H7.out _ (List.getElem_mem hlE)
                have HE1 := HED.out EE[l] hsz
                obtain ⟨e, he⟩ : ∃ e, e = edE NN EE[l] := ⟨_, rfl⟩
                rw [← he] at hv1 HE1
                obtain ⟨z, hz⟩ : ∃ z, z = EE[l] := ⟨_, rfl⟩
                rw [← hz] at x0 x1 x2 x3 x4 x5 x6 HE1
                obtain ⟨z0, z1, z2, z3, z4, z5, z6⟩ := z
                dsimp only at x0 x1 x2 x3 x4 x5 x6 HE1
                have HV4 := Lib.hid hv1
                have HE2 := Lib.hid HE1
                have b0 : (0 : Int) ≤ (l : Int) := by omega
                have b1 : (l : Int) < (el : Int) := by omega
                clear hv1 hve he hz HE1 hsz
                go_wp2_with fail
                go_cut [8] from 55 to 71 (fun s8 wx => s8 = .int .i64 e ∧ Hid (Ext wr wx))
                case first =>
                  go_region_with (go_at_call 38; refine (HE2.out _ ((XW.out.trans hx).trans (by first | exact (Ext.refl _).drew | exact Ext.refl _))).mono ?_; rintro e w7 ⟨rfl, x7⟩)
                  all_goals go_wp2
                  all_goals go_meet
                  all_goals exact ⟨rfl, Lib.hid (((Ext.refl _).drew).trans x7)⟩
                case rest =>
                  obtain ⟨rfl, hxd⟩ := hcut
                  have hx2 := hx.trans hxd.out
                  by_cases h0 : e = 0
                  · obtain ⟨f1, f2⟩ := efacts 0
                    subst h0
                    have hn : Hid (VE = edsE NN (EE.drop (l + 1))) := Lib.hid (by rw [HV4.out]; simp)
                    go_wp2
                    go_roundw
                    case rel => exact ⟨l + 1, by omega, by go_num, hn, hx2⟩
                    case measure => simp [RowKit.intOf]; omega
                  · obtain ⟨f1, f2⟩ := nfacts h0
                    have hr : Hid (V = e) := Lib.hid (by rw [HV3.out, HV4.out, if_pos h0])
                    clear h0
                    go_wp2
                    go_ret
                    exact ⟨ret_i hr.out.symm, XW.out.trans hx2⟩
              · have hr : Hid (V = 0) := Lib.hid (by rw [HV3.out, hve.out, List.drop_eq_nil_of_le (by rw [← HEL.out]; omega)]; rfl)
                clear hve
                go_wp2
                go_ret
                exact ⟨ret_i hr.out.symm, XW.out.trans hx⟩
end Go.Proofs.YtnancphlkbfglaaGreatDoor.Nm

namespace Go.Proofs.YtnancphlkbfglaaGreatDoor.Nm
open Go.RowKit Go.Sort Go.Lib Fx Lx Tr At
theorem size_gr : (Tryz.prog.info? 31).map (·.size) = some 5 := by kernel_rfl
theorem results_gr {fn : Func} {p u : Tmp} (h : fn.results = #[.cell p 31, .tmp u]) (tmps : Array Value) (w : World) (g : Nat) (cs : Array Value) (e : Value) (hsz : cs.size = 5) (hp : tmps.getD p undef = .pointer (some ⟨g, 0, none⟩)) (he : tmps.getD u undef = e) (hg : w.heap[g]? = some (.cells cs 31 (0, 0))) :
    (results fn tmps).run Tryz.prog w = .ok (.tuple #[.agg cs, e]) w := by
  rw [results_cell_tmp h, hp, he]
  have hl := run_loadVar_row (P := Tryz.prog) w g 31 31 cs (0, 0) _ hg Tryz.underlying31 rfl (by rw [size_gr, hsz])
  simp [asAddr, Result.andThen, hl]
def gr0 : Gr := ⟨⟨#[]⟩, false, [], [], []⟩
def gr0V : Value := .agg #[.string ⟨#[]⟩, .bool false, .slice none 0 0, .slice none 0 0, .slice none 0 0]
theorem gr0_in (w : World) : GrIn w gr0V gr0 := ⟨none, 0, none, 0, none, 0, rfl, fun k hk => absurd hk (by simp [gr0]), fun k hk => absurd hk (by simp [gr0]), fun k hk => absurd hk (by simp [gr0])⟩
def BuildR (r : Except Int Gr) (e : Ending) (w : World) : Prop :=
  match r with
  | .error er => e = .returned (.tuple #[gr0V, .int .i64 er]) ∧ er ≠ 0
  | .ok g => ∃ v, e = .returned (.tuple #[v, .int .i64 0]) ∧ GrIn w v g ∧ GrCp w v g ∧ GrSm g
theorem cells5g {w : World} {g : Nat} {T : TypeId} {c0 c1 c2 c3 c4 : Value} (h : w.heap[g]? = some (.cells #[c0, c1, c2, c3, c4] T (0, 0))) :
    w.cell? ⟨g, 0, none⟩ = some c0 ∧ w.cell? ⟨g, 1, none⟩ = some c1 ∧ w.cell? ⟨g, 2, none⟩ = some c2 ∧ w.cell? ⟨g, 3, none⟩ = some c3 ∧ w.cell? ⟨g, 4, none⟩ = some c4 := by
  refine ⟨?_, ?_, ?_, ?_, ?_⟩ <;> (rw [Lib.cell_of_heap h]; rfl)
theorem set5g {w : World} {g : Nat} {T : TypeId} {c0 c1 c2 c3 c4 : Value} (h : w.heap[g]? = some (.cells #[c0, c1, c2, c3, c4] T (0, 0))) (v0 v1 v2 v3 v4 : Value) :
    (((((w.setCell ⟨g, 0, none⟩ v0).setCell ⟨g, 1, none⟩ v1).setCell ⟨g, 2, none⟩ v2).setCell ⟨g, 3, none⟩ v3).setCell ⟨g, 4, none⟩ v4).heap[g]? = some (.cells #[v0, v1, v2, v3, v4] T (0, 0)) :=
  blk_set (blk_set (blk_set (blk_set (blk_set h 0 v0) 1 v1) 2 v2) 3 v3) 4 v4
theorem ext5g {w0 w : World} (x : Ext w0 w) {g : Nat} (hg : w0.heap.size ≤ g) (v0 v1 v2 v3 v4 : Value) :
    Ext w0 (((((w.setCell ⟨g, 0, none⟩ v0).setCell ⟨g, 1, none⟩ v1).setCell ⟨g, 2, none⟩ v2).setCell ⟨g, 3, none⟩ v3).setCell ⟨g, 4, none⟩ v4) :=
  ((((x.setCell hg _).setCell hg _).setCell hg _).setCell hg _).setCell hg _
theorem FinAt.set2 {w0 w : World} {bb m1 m2 B : Nat} {av cv lv : Value} {aw : List Value} {ks : List (Lk × Value)} {S : St} {NV : List (Nd × Value)} {gn c nn : Nat} (h : FinAt w0 bb m1 m2 B w (.slice (some ⟨gn, 0, none⟩) nn c) av cv lv aw ks S NV) (k : Nat) {x : Nd × Value} (hx : NV[k]? = some x) (j : Nat) (hj : j < 6) (u : Value) (y : Nd × Value) (hy : nvC y = (nvC x).set j u) (hp : PtL w y.2 y.1.ports) :
    FinAt w0 bb m1 m2 B (w.setCell ⟨gn, k * 6 + j, none⟩ u) (.slice (some ⟨gn, 0, none⟩) nn c) av cv lv aw ks S (NV.set k y) ∧ (NV.set k y)[k]? = some y := by
  obtain ⟨hk, he⟩ := List.getElem?_eq_some_iff.1 hx
  exact ⟨h.set k hk j hj u y (by rw [he]; exact hy) hp, by rw [List.getElem?_set_self hk]⟩
theorem FinAt.nc2 {w0 w : World} {bb m1 m2 B : Nat} {av cv lv : Value} {aw : List Value} {ks : List (Lk × Value)} {S : St} {NV : List (Nd × Value)} {gn c nn : Nat} (h : FinAt w0 bb m1 m2 B w (.slice (some ⟨gn, 0, none⟩) nn c) av cv lv aw ks S NV) (k : Nat) {x : Nd × Value} (hx : NV[k]? = some x) (j : Nat) (hj : j < 6) (u : Value) (hu : (nvC x)[j]? = some u) :
    w.cell? ⟨gn, k * 6 + j, none⟩ = some u ∧ w.frozen? ⟨gn, k * 6 + j, none⟩ = false := by
  obtain ⟨hk, he⟩ := List.getElem?_eq_some_iff.1 hx
  exact h.nc k hk j hj u (by rw [he]; exact hu)
theorem info_edge : (Tryz.prog.info? 60).map (fun i => (i.zero, i.size, i.bytes)) = some (some (.agg #[.int .i64 0, .int .i64 0, .int .i64 0, .int .i64 0, .string ⟨#[]⟩, .int .i64 0, .int .i64 0]), 7, 64) := by kernel_rfl
structure LnkAt (w0 : World) (bb m1 m2 B gg gb : Nat) (G : Obj) (nm : ByteArray) (dir : Bool) (nv av cv lv : Value) (aw : List Value) (ks : List (Lk × Value)) (S : St) (NV : List (Nd × Value)) (FE : Option (List Ed)) (j : Nat) (E : List Ed) (ev : Value) (wr : World) : Prop where
  f : FinAt w0 bb m1 m2 B wr nv av cv lv aw ks S NV
  g : wr.heap[gg]? = some G
  gr : wr.heap[gb]? = some (.cells #[.string nm, .bool dir, nv, ev, cv] 31 (0, 0))
  e : wr.ownsRow B 60 7 ev E.length (edsC E)
  acc : FE = (finEs (NV.map Prod.fst) (S.K.drop j)).map (E ++ ·)
  el : E.length = j
def zeroEd : Array Value := #[.int .i64 0, .int .i64 0, .int .i64 0, .int .i64 0, .string ⟨#[]⟩, .int .i64 0, .int .i64 0]
theorem edge_new {w w1 : World} (x : Ext (w.alloc (.cells #[.int .i64 0, .int .i64 0, .int .i64 0, .int .i64 0, .string ⟨#[]⟩, .int .i64 0, .int .i64 0] 60)) w1) : w1.heap[w.heap.size]? = some (.cells zeroEd 60 (0, 0)) := At.heap_ext (heap_alloc_new w _) x
theorem edge_newd {w w1 : World} (x : Ext ((w.alloc (.cells #[.int .i64 0, .int .i64 0, .int .i64 0, .int .i64 0, .string ⟨#[]⟩, .int .i64 0, .int .i64 0] 60)).drew) w1) : w1.heap[w.heap.size]? = some (.cells zeroEd 60 (0, 0)) := At.heap_ext (heap_alloc_new w _) (((Ext.refl _).drew).trans x)
theorem cells7g {w : World} {g : Nat} (h : w.heap[g]? = some (.cells zeroEd 60 (0, 0))) :
    w.cell? ⟨g, 0, none⟩ = some (.int .i64 0) ∧ w.cell? ⟨g, 1, none⟩ = some (.int .i64 0) ∧ w.cell? ⟨g, 2, none⟩ = some (.int .i64 0) ∧ w.cell? ⟨g, 3, none⟩ = some (.int .i64 0) ∧ w.cell? ⟨g, 4, none⟩ = some (.string ⟨#[]⟩) ∧ w.cell? ⟨g, 5, none⟩ = some (.int .i64 0) ∧ w.cell? ⟨g, 6, none⟩ = some (.int .i64 0) ∧ ∀ j, w.frozen? ⟨g, j, none⟩ = false := by
  refine ⟨?_, ?_, ?_, ?_, ?_, ?_, ?_, fun j => Lib.frozen_of_heap h j⟩ <;> (rw [Lib.cell_of_heap h]; rfl)
theorem set7g {w : World} {g : Nat} {T : TypeId} {c0 c1 c2 c3 c4 c5 c6 : Value} (h : w.heap[g]? = some (.cells #[c0, c1, c2, c3, c4, c5, c6] T (0, 0))) (v0 v1 v2 v3 v4 v5 v6 : Value) :
    (((((((w.setCell ⟨g, 0, none⟩ v0).setCell ⟨g, 1, none⟩ v1).setCell ⟨g, 2, none⟩ v2).setCell ⟨g, 3, none⟩ v3).setCell ⟨g, 4, none⟩ v4).setCell ⟨g, 5, none⟩ v5).setCell ⟨g, 6, none⟩ v6).heap[g]? = some (.cells #[v0, v1, v2, v3, v4, v5, v6] T (0, 0)) := by
  have h1 : ((w.setCell ⟨g, 0, none⟩ v0)).heap[g]? = some (.cells #[v0, c1, c2, c3, c4, c5, c6] T (0, 0)) := blk_set h 0 v0
  have h2 : (((w.setCell ⟨g, 0, none⟩ v0).setCell ⟨g, 1, none⟩ v1)).heap[g]? = some (.cells #[v0, v1, c2, c3, c4, c5, c6] T (0, 0)) := blk_set h1 1 v1
  have h3 : ((((w.setCell ⟨g, 0, none⟩ v0).setCell ⟨g, 1, none⟩ v1).setCell ⟨g, 2, none⟩ v2)).heap[g]? = some (.cells #[v0, v1, v2, c3, c4, c5, c6] T (0, 0)) := blk_set h2 2 v2
  have h4 : (((((w.setCell ⟨g, 0, none⟩ v0).setCell ⟨g, 1, none⟩ v1).setCell ⟨g, 2, none⟩ v2).setCell ⟨g, 3, none⟩ v3)).heap[g]? = some (.cells #[v0, v1, v2, v3, c4, c5, c6] T (0, 0)) := blk_set h3 3 v3
  have h5 : ((((((w.setCell ⟨g, 0, none⟩ v0).setCell ⟨g, 1, none⟩ v1).setCell ⟨g, 2, none⟩ v2).setCell ⟨g, 3, none⟩ v3).setCell ⟨g, 4, none⟩ v4)).heap[g]? = some (.cells #[v0, v1, v2, v3, v4, c5, c6] T (0, 0)) := blk_set h4 4 v4
  have h6 : (((((((w.setCell ⟨g, 0, none⟩ v0).setCell ⟨g, 1, none⟩ v1).setCell ⟨g, 2, none⟩ v2).setCell ⟨g, 3, none⟩ v3).setCell ⟨g, 4, none⟩ v4).setCell ⟨g, 5, none⟩ v5)).heap[g]? = some (.cells #[v0, v1, v2, v3, v4, v5, c6] T (0, 0)) := blk_set h5 5 v5
  have h7 : ((((((((w.setCell ⟨g, 0, none⟩ v0).setCell ⟨g, 1, none⟩ v1).setCell ⟨g, 2, none⟩ v2).setCell ⟨g, 3, none⟩ v3).setCell ⟨g, 4, none⟩ v4).setCell ⟨g, 5, none⟩ v5).setCell ⟨g, 6, none⟩ v6)).heap[g]? = some (.cells #[v0, v1, v2, v3, v4, v5, v6] T (0, 0)) := blk_set h6 6 v6
  exact h7
theorem ext7g {w0 w : World} (x : Ext w0 w) {g : Nat} (hg : w0.heap.size ≤ g) (v0 v1 v2 v3 v4 v5 v6 : Value) :
    Ext w0 (((((((w.setCell ⟨g, 0, none⟩ v0).setCell ⟨g, 1, none⟩ v1).setCell ⟨g, 2, none⟩ v2).setCell ⟨g, 3, none⟩ v3).setCell ⟨g, 4, none⟩ v4).setCell ⟨g, 5, none⟩ v5).setCell ⟨g, 6, none⟩ v6) :=
  ((((((x.setCell hg _).setCell hg _).setCell hg _).setCell hg _).setCell hg _).setCell hg _).setCell hg _
end Go.Proofs.YtnancphlkbfglaaGreatDoor.Nm

namespace Go.Proofs.YtnancphlkbfglaaGreatDoor.Nm
open Go.RowKit Go.Sort Go.Lib Go.Shelf Fx Lx Tr At
set_option maxHeartbeats 4000000 in
theorem closB_any (n x : ByteArray) (d : Int) (g : Nat) (w : World) (hc : w.cell? ⟨g, 1, none⟩ = some (.string x)) :
    Calls Tryz.prog 69 #[.agg #[.string n, .int .i64 d], .pointer (some ⟨g, 0, none⟩)] w fun e w' => e = .returned (.bool (decide (n = x))) ∧ Ext w w' := by
  have hc' : ∀ o, (w.alloc o).cell? ⟨g, 1, none⟩ = some (.string x) := fun o => ((Ext.refl w).alloc o).cell hc
  by_cases h : n = x
  · have e1 : (n.toList == x.toList) = true := by rw [At.beqs]; exact decide_eq_true h
    rw [decide_eq_true h]
    clear h
    go_enter Tryz.func69, Tryz.ntmps69
    go_wp2
    go_ret
    exact ⟨rfl, (Ext.refl _).alloc _⟩
  · have e1 : (n.toList == x.toList) = false := by rw [At.beqs]; exact decide_eq_false h
    rw [decide_eq_false h]
    clear h
    go_enter Tryz.func69, Tryz.ntmps69
    go_wp2
    go_ret
    exact ⟨rfl, (Ext.refl _).alloc _⟩
def ixP (y : Int) : Int := if y = -2 then -1 else y
set_option maxHeartbeats 4000000 in
theorem idxB_any (a : Option Addr) (L : List Prt) (cap : Nat) (x : ByteArray) (gx : Nat) (w : World) (h : PrtIn w a L) (hc : w.cell? ⟨gx, 1, none⟩ = some (.string x)) (hL : L.length ≤ 1000000) :
    Calls Tryz.prog 68 #[.slice a L.length cap, .func (.func 69) #[] #[.pointer (some ⟨gx, 0, none⟩)]] w fun e w' => e = .returned (.int .i64 (ixP (portGo x 0 L))) ∧ Ext w w' := by
  obtain ⟨V, hV⟩ : ∃ V, V = ixP (portGo x 0 L) := ⟨_, rfl⟩
  obtain ⟨N, hN⟩ : ∃ N, N = L.length := ⟨_, rfl⟩
  have H0 : Hid (V = ixP (portGo x ((0 : Nat) : Int) (L.drop 0))) := Lib.hid (by rw [List.drop_zero]; exact hV)
  rw [← hV]
  have HI := Lib.hid h
  rw [← hN] at hL ⊢
  have HN := Lib.hid hN
  have HC := Lib.hid hc
  clear h hN hc hV
  go_enter Tryz.func68, Tryz.ntmps68
  go_wp2_with fail
  go_loopw [8] (fun i' wr => ∃ k : Nat, k ≤ N ∧ i' = .int .i64 k ∧ Hid (V = ixP (portGo x (k : Int) (L.drop k))) ∧ Ext w wr) (fun i' _ => N - (RowKit.intOf i').toNat)
  case atStart => exact ⟨0, by omega, rfl, H0, Ext.refl _⟩
  case round =>
    clear H0
    obtain ⟨k, hk, rfl, hv, hx⟩ := hrel
    by_cases hlt : k < N
    · have hkl : k < L.length := by rw [← HN.out]; exact hlt
      obtain ⟨g, o, rfl, c0, c1⟩ := (HI.out.ext hx) k hkl
      have hv1 := hv.out
      rw [List.drop_eq_getElem_cons hkl] at hv1
      unfold portGo at hv1
      obtain ⟨n, hn⟩ : ∃ n, n = L[k].1 := ⟨_, rfl⟩
      obtain ⟨d, hd⟩ : ∃ d, d = L[k].2 := ⟨_, rfl⟩
      rw [← hn] at c0 hv1; rw [← hd] at c1
      have HCL := closB_any n x d gx wr (hx.cell HC.out)
      clear hn hd
      by_cases heq : n = x
      · rw [decide_eq_true heq] at HCL
        have HCL := Lib.hid HCL
        have hr : Hid (V = (k : Int)) := Lib.hid (by rw [hv1, if_pos heq]; unfold ixP; rw [if_neg (by omega)])
        clear heq hv hv1
        go_wp2_with (go_at_call 69; refine HCL.out.mono ?_; rintro e w1 ⟨rfl, x1⟩)
        go_ret
        exact ⟨ret_i hr.out.symm, hx.trans x1⟩
      · rw [decide_eq_false heq] at HCL
        have HCL := Lib.hid HCL
        have hr : Hid (V = ixP (portGo x ((k + 1 : Nat) : Int) (L.drop (k + 1)))) := Lib.hid (by rw [hv1, if_neg heq]; rfl)
        clear heq hv hv1
        go_wp2_with (go_at_call 69; refine HCL.out.mono ?_; rintro e w1 ⟨rfl, x1⟩)
        go_roundw
        case rel => exact ⟨k + 1, by omega, by go_num, hr, hx.trans x1⟩
        case measure => simp [RowKit.intOf]; omega
    · have hr : Hid (V = -1) := Lib.hid (by rw [hv.out, List.drop_eq_nil_of_le (by rw [← HN.out]; omega)]; rfl)
      clear hv
      go_wp2
      go_ret
      exact ⟨ret_i hr.out.symm, hx⟩
set_option maxHeartbeats 4000000 in
set_option maxRecDepth 100000 in
theorem port_any (w0 : World) (bb m1 m2 B : Nat) (nv av cv lv : Value) (aw : List Value) (ks : List (Lk × Value)) (S : St) (NV : List (Nd × Value)) (u : Nat) (pt : ByteArray) (w : World) (h : FinAt w0 bb m1 m2 B w nv av cv lv aw ks S NV) (hu : u < NV.length) (hN : NV.length ≤ 100000) (hps : NV[u].1.ports.length ≤ 1000000) :
    Calls Tryz.prog 29 #[.pointer (some ⟨bb, 0, none⟩), .agg #[.int .i64 u, .string pt]] w fun e w' => e = .returned (.tuple #[.int .i64 (ixP (portT NV[u].1.ports pt)), .bool (decide (0 ≤ ixP (portT NV[u].1.ports pt) ∨ pt.size = 0))]) ∧ Ext w w' := by
  have hpt := h.P u NV[u] (List.getElem?_eq_getElem hu)
  obtain ⟨pp, pc, hpv, hpi, -, -, -⟩ := hpt
  obtain ⟨gn, gc, hnv, -, -, cs, hg⟩ := row_has h.N (by omega)
  subst hnv
  have hc5 := h.N.cells (g := gn) rfl (u * 6 + 5) NV[u].2 (by unfold nvsC; rw [fm_get nvC_len NV u hu 5 (by omega)]; rfl)
  rw [add0, hpv] at hc5
  obtain ⟨P, hP⟩ : ∃ P, P = NV[u].1.ports := ⟨_, rfl⟩
  rw [← hP] at hc5 hpi hps ⊢
  obtain ⟨V, hV⟩ : ∃ V, V = portT P pt := ⟨_, rfl⟩
  rw [← hV]
  unfold portT at hV
  have hz := @size0 pt
  have hix := fun (w5 : World) (x : Ext w w5) (hc : w5.cell? ⟨w.heap.size, 1, none⟩ = some (.string pt)) => idxB_any pp P pc pt w.heap.size w5 (hpi.ext x) hc hps
  obtain ⟨NL, hNL⟩ : ∃ n, n = NV.length := ⟨_, rfl⟩
  obtain ⟨PL, hPL⟩ : ∃ n, n = P.length := ⟨_, rfl⟩
  have a0 := h.cells.1
  rw [← hPL] at hc5 hix
  rw [← hNL] at a0 hu hN
  have a0' : ∀ ob, (w.alloc ob).cell? ⟨bb, 0, none⟩ = some (.slice (some ⟨gn, 0, none⟩) NL gc) := fun ob => ((Ext.refl w).alloc ob).cell a0
  have c5' : ∀ ob, (w.alloc ob).cell? ⟨gn, u * 6 + 5, none⟩ = some (.slice pp PL pc) := fun ob => ((Ext.refl w).alloc ob).cell hc5
  have c5'' : ∀ ob, (w.alloc ob).cell? ⟨gn, 0 + u * 6 + 5, none⟩ = some (.slice pp PL pc) := fun ob => by rw [Nat.zero_add]; exact c5' ob
  have HIX := Lib.hid hix; have HV := Lib.hid hV
  have b0 : (0 : Int) ≤ (u : Int) := by omega
  have b1 : (u : Int) < (NL : Int) := by omega
  clear hix hV hpi hP hNL hPL hpv hps h hg hc5 a0
  by_cases h0 : pt.size = 0
  · rw [decide_eq_true h0] at hz
    have hr : Hid (V = -1) := Lib.hid (by rw [HV.out, if_pos h0])
    have hd : Hid (decide (0 ≤ ixP V ∨ pt.size = 0) = true) := Lib.hid (decide_eq_true (.inr h0))
    rw [hd.out]
    clear h0 HV hd
    go_enter Tryz.func29, Tryz.ntmps29
    go_wp2
    go_returns
    rw [hr.out]
    exact ⟨rfl, (Ext.refl _).alloc _⟩
  · rw [decide_eq_false h0] at hz
    have hr : Hid (V = portGo pt 0 P) := Lib.hid (by rw [HV.out, if_neg h0])
    have hd : Hid (decide (0 ≤ ixP V ∨ pt.size = 0) = decide (0 ≤ ixP (portGo pt 0 P))) := Lib.hid (by rw [← hr.out]; simp [h0])
    rw [hd.out, hr.out]
    obtain ⟨Y, hY⟩ : ∃ Y, Y = ixP (portGo pt 0 P) := ⟨_, rfl⟩
    rw [← hY]
    have hix := HIX.out
    rw [← hY] at hix
    have HIY := Lib.hid hix
    clear h0 HV hd hr HIX hix hY
    go_enter Tryz.func29, Tryz.ntmps29
    go_wp2_with fail
    go_region_law (go_simp; go_at_call 68; refine (HIY.out _ (by first | exact ((Ext.refl _).alloc _).drew | exact (Ext.refl _).alloc _) (by first | exact (box1 (w := w) (Ext.refl _).drew 1 _ rfl) | exact (box1 (w := w) (Ext.refl _) 1 _ rfl))).mono ?_; rintro e w3 ⟨rfl, x3⟩; have x3' : Ext w w3 := Ext.trans (by first | exact ((Ext.refl _).alloc _).drew | exact (Ext.refl _).alloc _) x3)
    all_goals (
      go_wp2
      go_returns
      first | exact ⟨rfl, x3'⟩ | exact ⟨rfl, x3'.drew⟩)
end Go.Proofs.YtnancphlkbfglaaGreatDoor.Nm

namespace Go.Proofs.YtnancphlkbfglaaGreatDoor.Nm
open Go.Lib Fx Lx Tr At
theorem name16 {n : ByteArray} (h : nameB n.data.toList = true) : n.size ≤ 16 := by
  unfold nameB at h
  simp only [Bool.and_eq_true, decide_eq_true_eq] at h
  rw [size_len]; exact h.1.1.2
theorem attrsGo_sm (kind : Int) : ∀ (L D : List Two), attrsGo kind L D = 0 → ∀ q ∈ L, (kind ≠ 4 → nameB q.1.data.toList = true) ∧ q.2.size ≤ 32
  | [], _, _, q, hq => by cases hq
  | x :: r, D, h, q, hq => by
    rw [attrsGo] at h
    split at h
    · exact absurd h (by decide)
    · rename_i h1
      split at h
      · exact absurd h (by decide)
      · split at h
        · exact absurd h (by decide)
        · rename_i h3
          split at h
          · exact absurd h (by decide)
          · rcases List.mem_cons.1 hq with rfl | hq
            · refine ⟨fun hk => ?_, by omega⟩
              cases hn : nameB q.1.data.toList
              · exact absurd ⟨hk, hn⟩ h1
              · rfl
            · exact attrsGo_sm kind r _ h q hq
theorem okW_of (x : Stm) (lev : Nat) (h : stmE (x, lev) = 0) (hr : x.refs.length ≤ 10) (ha : x.attrs.length ≤ 20) : okW x := by
  unfold stmE at h
  dsimp only at h
  split at h
  · exact absurd h (by decide)
  rename_i hf
  have hf : formB x = true := by cases hb : formB x; exact absurd hb hf; rfl
  split at h
  · exact absurd h (by decide)
  split at h
  · exact absurd h (by decide)
  rename_i hn
  split at h
  · exact absurd h (by decide)
  rename_i hrb
  have hrb : x.refs.all refB = true := by cases hb : x.refs.all refB; exact absurd hb hrb; rfl
  obtain ⟨hk, hk3, hk4⟩ := form_kinds x hf
  have hat : ∀ q ∈ x.attrs, (x.kind ≠ 4 → nameB q.1.data.toList = true) ∧ q.2.size ≤ 32 := by
    unfold attrsE at h
    split at h
    · exact absurd h (by decide)
    · exact attrsGo_sm _ _ _ h
  refine ⟨fun r hr => ?_, hr, ha, fun q hq => ?_, ?_, hf⟩
  · have h1 := List.all_eq_true.1 hrb r hr
    unfold refB at h1
    rw [Bool.and_eq_true, Bool.or_eq_true, decide_eq_true_eq] at h1
    have e1 := name16 h1.1
    have e2 : r.2.size ≤ 16 := by
      rcases h1.2 with e | e
      · omega
      · exact name16 e
    omega
  · obtain ⟨g1, g2⟩ := hat q hq
    by_cases h5 : x.kind = 4
    · obtain ⟨v, hv, hs⟩ := hk4 h5
      rw [hv, List.mem_singleton] at hq
      subst hq
      omega
    · have := name16 (g1 h5)
      omega
  · have key : (x.kind = 1 ∨ x.kind = 4 ∨ x.kind = 5) → x.name.size ≤ 16 := fun hx => by
      refine name16 ?_
      cases hb : nameB x.name.data.toList
      · exact absurd ⟨hx, hb⟩ hn
      · rfl
    rcases hk with e | e | e | e | e
    · have := key (.inl e); omega
    · unfold formB at hf
      rw [if_neg (by omega), if_pos e] at hf
      simp only [Bool.and_eq_true, decide_eq_true_eq] at hf
      omega
    · unfold formB at hf
      rw [if_neg (by omega), if_neg (by omega), if_pos e] at hf
      simp only [Bool.and_eq_true, Bool.or_eq_true, decide_eq_true_eq] at hf
      rw [size_len]
      rcases hf.2 with e | e <;> (rw [e]; decide)
    · have := key (.inr (.inl e)); omega
    · have := key (.inr (.inr e)); omega
theorem firstE_all : ∀ (L : List (Stm × Nat)), firstE L = 0 → ∀ p ∈ L, stmE p = 0
  | [], _, p, hp => by cases hp
  | x :: r, h, p, hp => by
    rw [firstE] at h
    by_cases h0 : stmE x = 0
    · rw [if_neg (by omega)] at h
      rcases List.mem_cons.1 hp with rfl | hp
      · exact h0
      · exact firstE_all r h p hp
    · rw [if_pos h0] at h; exact absurd h h0
theorem ok_valid {nm : ByteArray} {L : List Stm} (h : validE nm L = 0) (hf : ∀ p ∈ flatL 0 L, p.1.refs.length ≤ 10 ∧ p.1.attrs.length ≤ 20) : nm.size ≤ 16 ∧ cntL L ≤ 512 ∧ okWL L := by
  unfold validE at h
  split at h
  · exact absurd h (by decide)
  rename_i h1
  split at h
  · exact absurd h (by decide)
  rename_i h2
  refine ⟨name16 (by cases hb : nameB nm.data.toList; exact absurd hb h1; rfl), by rw [← cntL_flat 0 L]; omega, okWL_flat 0 L fun q hq => ?_⟩
  obtain ⟨hr, ha⟩ := hf q hq
  exact okW_of q.1 q.2 (firstE_all _ h q hq) hr ha
end Go.Proofs.YtnancphlkbfglaaGreatDoor.Nm
