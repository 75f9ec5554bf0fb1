/- Packed texts: PrtLawF -/
import Derived.Test.YtaipcpdncmnelaaPu12
import Derived.Test.YtaipcpdncmnelaaPu23
import Derived.Test.YtaipcpdncmnelaaPu24
import Derived.Test.YtaipcpdncmnelaaPu25
set_option linter.unusedVariables false
set_option linter.unusedSimpArgs false
/- The law of divided parts, walked. -/
namespace Go.Proofs.Ytaipcpdncmnelaa.Pt
open Go.RowKit Go.Sort Go.Lib Fx Tp

set_option maxHeartbeats 32000000 in
set_option maxRecDepth 100000 in
theorem divide_in (N : Nat) (a : Option Addr) (A : Arcs) (cap : Nat) (w : World) (hN : N ≤ 64) (h : ArcIn w a (zarc A)) (hA : A.length ≤ 100) (ok : Ok N A) :
    Calls Try.prog 6 #[.agg #[.int .i64 (N : Int), .slice a A.length cap]] w fun e w' => e = .returned (.bool true) ∧ Ext w w' := by
  have hval := fun w1 (x : Ext w w1) => validR_any N a (zarc A) cap w1 (by omega) (by omega) (h.ext x) (zarc_ok hN ok) (by rw [zarc_len]; omega)
  rw [valid_ok hN (by omega) ok, zarc_len] at hval
  have F4 := four_of vis N a A cap w hN h (by omega) ok
  have hKM := blocks_len (N := N) (A := A) ok
  obtain ⟨X, hX⟩ : ∃ X, X = blocksT N A := ⟨_, rfl⟩
  rw [← hX] at F4 hKM
  have hends := fun (ba : Option Addr) (C : List Nat) (bc : Nat) (hC : C ∈ X) w1 (x : Ext w w1) (hin : IntIn w1 ba (zl C)) => ends_any N a A cap ba C bc w1 hN (h.ext x) (by omega) ok hin (by rw [hX] at hC; have := (blocks_elem ok hC).2.1; omega) (by rw [hX] at hC; exact (blocks_elem ok hC).2.2)
  obtain ⟨M, hM⟩ : ∃ M, M = A.length := ⟨_, rfl⟩
  obtain ⟨K, hK⟩ : ∃ K, K = X.length := ⟨_, rfl⟩
  obtain ⟨BR, hBR⟩ : ∃ B, B = bridgesT N A := ⟨_, rfl⟩
  obtain ⟨CU, hCU⟩ : ∃ B, B = cutsT N A := ⟨_, rfl⟩
  obtain ⟨bl, hbl⟩ : ∃ K, K = BR.length := ⟨_, rfl⟩
  obtain ⟨cl, hcl⟩ : ∃ K, K = CU.length := ⟨_, rfl⟩
  rw [← hBR, ← hCU] at F4
  obtain ⟨F4a, F4b, F4c, F4d⟩ := F4
  clear F4a
  rw [zl_len, ← hbl] at F4b
  rw [zl_len, ← hcl] at F4c
  rw [List.length_map, ← hK] at F4d
  rw [← hM] at hA hval hKM hends F4b F4c F4d ⊢
  rw [← hK] at hKM
  have hmk := run_make_row' (P := Try.prog) 31 3 (.int .i64 0) 8 Try.underlying31 info_int rfl .i64 .i64 M (by omega) (by omega)
  have HV := Lib.hid hval; have HI := Lib.hid h; have HM := Lib.hid hM; have HOK := Lib.hid ok; have HX := Lib.hid hX; have HK := Lib.hid hK; have HBR := Lib.hid hBR; have HCU := Lib.hid hCU; have HBL := Lib.hid hbl; have HCL := Lib.hid hcl; have HE := Lib.hid hends; have HFB := Lib.hid F4b; have HFC := Lib.hid F4c; have HFD := Lib.hid F4d; have HMK := Lib.hid hmk
  clear h hM hval ok hX hK hBR hCU hbl hcl hends F4b F4c F4d hmk
  have hle : ¬ (100 : Int) < (M : Int) := by omega
  have hle2 : ¬ (M : Int) < (K : Int) := by omega
  go_enter Try.func6, Try.ntmps6
  go_wp2_with (go_at_call 24; refine (HV.out _ ((Ext.refl _).alloc _)).mono ?_; rintro e w0 ⟨rfl, x0⟩; have b1 := box_two x0; have b10 := b1.1; have b11 := b1.2)
  have X0 := Lib.hid x0
  have XW : Hid (Ext w w0) := Lib.hid (((Ext.refl _).alloc _).trans x0)
  have y0 : Ext w w0 := XW.out
  clear x0 b1
  go_cut [3, 4, 5] from 31 to 36 (fun s3 s4 s5 wx => ∃ fa fc ca cc ba bc, s3 = .slice fa K fc ∧ s4 = .slice ca cl cc ∧ s5 = .slice ba bl bc ∧ Hid (Tp.RowsIn wx fa (X.map zl)) ∧ Hid (IntIn wx ca (zl CU)) ∧ Hid (IntIn wx ba (zl BR)) ∧ Hid (Ext w0 wx))
  case first =>
    go_region_held3 (fun w' => w'.cell? ⟨w.heap.size, 0, none⟩ = some (.int .i64 N) ∧ w'.cell? ⟨w.heap.size, 1, none⟩ = some (.slice a M cap))
      (refine ⟨Ext.cell (w := w0) ?_ b10, Ext.cell (w := w0) ?_ b11⟩ <;> (repeat (first | assumption | exact Ext.refl _ | refine Ext.alloc ?_ _ | refine Ext.drew ?_)))
      (first
        | (go_at_call 22; with_reducible refine (HFD.out _ ?_).mono ?_; (focus (repeat (first | assumption | exact Ext.refl _ | refine Ext.alloc ?_ _ | refine Ext.drew ?_))); rintro e w1 ⟨q1, k1, rfl, i1, x1⟩; have X1 := Ext.trans (a := w0) (by (repeat (first | assumption | exact Ext.refl _ | refine Ext.alloc ?_ _ | refine Ext.drew ?_))) x1; have Y1 := Ext.trans (a := w) (by (repeat (first | assumption | exact Ext.refl _ | refine Ext.alloc ?_ _ | refine Ext.drew ?_))) x1; (try replace i2 := IntIn.ext i2 (Ext.trans (by (repeat (first | assumption | exact Ext.refl _ | refine Ext.alloc ?_ _ | refine Ext.drew ?_))) x1)); (try replace i3 := IntIn.ext i3 (Ext.trans (by (repeat (first | assumption | exact Ext.refl _ | refine Ext.alloc ?_ _ | refine Ext.drew ?_))) x1)))
        | (go_at_call 18; with_reducible refine (HFC.out _ ?_).mono ?_; (focus (repeat (first | assumption | exact Ext.refl _ | refine Ext.alloc ?_ _ | refine Ext.drew ?_))); rintro e w2 ⟨q2, k2, rfl, i2, x2⟩; have X2 := Ext.trans (a := w0) (by (repeat (first | assumption | exact Ext.refl _ | refine Ext.alloc ?_ _ | refine Ext.drew ?_))) x2; have Y2 := Ext.trans (a := w) (by (repeat (first | assumption | exact Ext.refl _ | refine Ext.alloc ?_ _ | refine Ext.drew ?_))) x2; (try replace i1 := RowsIn.ext i1 (Ext.trans (by (repeat (first | assumption | exact Ext.refl _ | refine Ext.alloc ?_ _ | refine Ext.drew ?_))) x2)); (try replace i3 := IntIn.ext i3 (Ext.trans (by (repeat (first | assumption | exact Ext.refl _ | refine Ext.alloc ?_ _ | refine Ext.drew ?_))) x2)))
        | (go_at_call 16; with_reducible refine (HFB.out _ ?_).mono ?_; (focus (repeat (first | assumption | exact Ext.refl _ | refine Ext.alloc ?_ _ | refine Ext.drew ?_))); rintro e w3 ⟨q3, k3, rfl, i3, x3⟩; have X3 := Ext.trans (a := w0) (by (repeat (first | assumption | exact Ext.refl _ | refine Ext.alloc ?_ _ | refine Ext.drew ?_))) x3; have Y3 := Ext.trans (a := w) (by (repeat (first | assumption | exact Ext.refl _ | refine Ext.alloc ?_ _ | refine Ext.drew ?_))) x3; (try replace i1 := RowsIn.ext i1 (Ext.trans (by (repeat (first | assumption | exact Ext.refl _ | refine Ext.alloc ?_ _ | refine Ext.drew ?_))) x3)); (try replace i2 := IntIn.ext i2 (Ext.trans (by (repeat (first | assumption | exact Ext.refl _ | refine Ext.alloc ?_ _ | refine Ext.drew ?_))) x3))))
    all_goals go_wp2
    all_goals go_meet
    all_goals exact ⟨_, _, _, _, _, _, rfl, rfl, rfl, Lib.hid (by first | exact i1 | exact RowsIn.ext i1 (by (repeat (first | assumption | exact Ext.refl _ | refine Ext.alloc ?_ _ | refine Ext.drew ?_)))), Lib.hid (by first | exact i2 | exact i2.ext (by (repeat (first | assumption | exact Ext.refl _ | refine Ext.alloc ?_ _ | refine Ext.drew ?_)))), Lib.hid (by first | exact i3 | exact i3.ext (by (repeat (first | assumption | exact Ext.refl _ | refine Ext.alloc ?_ _ | refine Ext.drew ?_)))), Lib.hid (by (repeat (first | assumption | exact Ext.refl _ | refine Ext.alloc ?_ _ | refine Ext.drew ?_)))⟩
  case rest =>
    obtain ⟨fa, fc, ca, cc, ba, bc, rfl, rfl, rfl, hrows, hcin, hbin, hxc⟩ := hcut
    obtain ⟨w3, hw3⟩ : ∃ w3 : World, w3 = wc := ⟨_, rfl⟩
    subst hw3
    have hx0 := Lib.hid (X0.out.trans hxc.out)
    obtain ⟨b10, b11⟩ := box_two hx0.out
    have hmk := HMK.out
    go_wp2
    obtain ⟨bm, hbm⟩ : ∃ bm, bm = w3.heap.size := ⟨_, rfl⟩
    rw [← hbm]
    have HMD : Hid (BlkI (w3.alloc (.cells (madeCells #[.int .i64 0] M) 3)) bm (seenK M (X.take 0).flatten)) := Lib.hid (by rw [hbm]; exact BlkI.made w3 M)
    have HBM := Lib.hid hbm
    have XC : Hid (Ext w w3) := Lib.hid (XW.out.trans hxc.out)
    clear hbm hmk b10 b11 hxc y0
    generalize decide (M < K) = dk1
    generalize decide ((100 : Int) < (M : Int)) = dk2
    go_loopw [7] (fun i' wr => ∃ i : Nat, i ≤ K ∧ i' = .int .i64 i ∧ Hid (BlkI wr bm (seenK M (X.take i).flatten)) ∧ Ext w3 wr) (fun i' _ => K - (RowKit.intOf i').toNat)
    case atStart => exact ⟨0, Nat.zero_le _, rfl, HMD, (Ext.refl _).alloc _⟩
    case round =>
      clear HMD
      obtain ⟨i, hi, rfl, hseen, hx⟩ := hrel
      obtain ⟨b10, b11⟩ := box_two (hx0.out.trans hx)
      by_cases hli : i < K
      · have hiX : i < X.length := by rw [← HK.out]; exact hli
        obtain ⟨g1, o1, ra, rc, hfa, e0, hin⟩ := (RowsIn.ext hrows.out hx) i (by simpa using hiX)
        subst hfa
        rw [List.getElem_map, zl_len] at e0
        rw [List.getElem_map] at hin
        have hpn := fun j => pref_nodup (X := X) (by rw [HX.out]; exact blocks_flat HOK.out) hiX j
        have hp0 := pref_zero X i X[i]
        have hpf := pref_full X i hiX
        have hps := pref_succ X i X[i]
        have hCX : X[i] ∈ X := List.getElem_mem hiX
        have hce := blocks_elem (N := N) HOK.out (C := X[i]) (by rw [← HX.out]; exact hCX)
        have HXI : Hid (X[i]? = some X[i]) := Lib.hid (List.getElem?_eq_getElem hiX)
        obtain ⟨C, hC⟩ : ∃ C, C = X[i] := ⟨_, rfl⟩
        rw [← hC] at e0 hin hpn hp0 hpf hps hCX hce HXI
        obtain ⟨cn, hcn⟩ : ∃ n, n = C.length := ⟨_, rfl⟩
        rw [← hcn] at e0 hpf
        have HEC := fun (w5 : World) (x5 : Ext wr w5) => HE.out ra C rc hCX w5 (XC.out.trans (hx.trans x5)) (hin.ext x5)
        rw [← hcn] at HEC
        have HEC := Lib.hid HEC
        have hcn1 : 1 ≤ cn := by
          rw [hcn]
          exact List.length_pos_iff.2 hce.1
        have hcnM : cn ≤ M := by rw [hcn, HM.out]; exact hce.2.1
        have HCE : Hid (∀ e ∈ C, e < M) := Lib.hid (by rw [HM.out]; exact hce.2.2)
        rw [← hp0] at hseen
        have HIN := Lib.hid hin; have HPN := Lib.hid hpn; have HPF := Lib.hid hpf; have HPS := Lib.hid hps; have HCX := Lib.hid hCX; have HCN := Lib.hid hcn
        have hc1 : ¬ (cn : Int) < 1 := by omega
        have b0 : (0 : Int) ≤ (i : Int) := by omega
        have b1 : (i : Int) < (K : Int) := by omega
        clear hin hpn hp0 hpf hps hCX hce hC hcn hiX
        go_wp2_with fail
        go_cut [8, 9] from 47 to 182 (fun s8 s9 wx => s9 = .bool true ∧ ∃ ab, s8 = .slice (some ⟨ab, 0, none⟩) N N ∧ Hid (BlkB wx ab (endsT N A C)) ∧ Hid (Ext wr wx))
        case first =>
          go_region_with (go_at_call 25; refine (HEC.out _ (by first | exact (Ext.refl _).drew | exact Ext.refl _)).mono ?_; rintro e w6 ⟨⟨ab, rfl, hab⟩, x6⟩)
          all_goals go_wp2
          all_goals go_meet
          all_goals exact ⟨rfl, _, rfl, Lib.hid hab, Lib.hid (((Ext.refl _).drew).trans x6)⟩
        case rest =>
          obtain ⟨rfl, ab, rfl, hab, hxd⟩ := hcut
          have hseen1 := Lib.hid (hseen.out.ext hxd.out)
          have hx1 := hx.trans hxd.out
          have e1 := hxd.out.cell e0
          have HIN1 := Lib.hid (HIN.out.ext hxd.out)
          have hne : Hid (ab ≠ bm) := Lib.hid (fun e => by
            have h1 := hab.out
            have h2 := hseen1.out
            unfold BlkB at h1
            unfold BlkI at h2
            rw [e, h2] at h1
            simp at h1)
          clear hseen hx e0 b10 b11 HIN HEC
          go_wp2
          have hseen2 : Hid (BlkI wc bm (seenK M (prefX X i C 0))) := hseen1
          clear hseen1
          go_loopw [10] (fun j' wr => ∃ j : Nat, j ≤ cn ∧ j' = .int .i64 j ∧ Hid (BlkI wr bm (seenK M (prefX X i C j))) ∧ Hid (BlkB wr ab (endsT N A C)) ∧ Ext w3 wr) (fun j' _ => cn - (RowKit.intOf j').toNat)
          case atStart => exact ⟨0, Nat.zero_le _, rfl, hseen2, hab, hx1⟩
          case round =>
            clear hseen2 hab e1 HIN1
            obtain ⟨j, hj, rfl, hseen, hab, hx⟩ := hrel
            obtain ⟨g9, o9, ra9, rc9, hfa, e0, hin⟩ := (RowsIn.ext hrows.out hx) i (by rw [List.length_map, ← HK.out]; exact hli)
            cases hfa
            have hCi : (X.map zl)[i]'(by rw [List.length_map, ← HK.out]; exact hli) = zl C := by
              rw [List.getElem_map]
              have := HXI.out
              rw [List.getElem?_eq_getElem (by rw [← HK.out]; exact hli)] at this
              rw [Option.some.inj this]
            rw [hCi] at e0 hin
            rw [zl_len, ← HCN.out] at e0
            by_cases hlj : j < cn
            · have hjC : j < C.length := by rw [← HCN.out]; exact hlj
              obtain ⟨g2, o2, rfl, c0⟩ := hin j (by rw [zl_len]; exact hjC)
              rw [zl_at _ _ hjC] at c0
              have heM := HCE.out _ (List.getElem_mem hjC)
              have hst := HPS.out j hjC
              have hcnt := count_nodup (HPN.out j) C[j]
              obtain ⟨e, he⟩ : ∃ e, e = C[j] := ⟨_, rfl⟩
              rw [← he] at c0 heM hst hcnt
              have hse := seen_at (M := M) (prefX X i C j) heM
              have m0 := hseen.out.cellD (j := e) (by rw [seen_len]; exact heM)
              have f0 := hseen.out.frozen e
              obtain ⟨S, hS⟩ : ∃ S, S = seenK M (prefX X i C j) := ⟨_, rfl⟩
              rw [← hS] at hse m0 hseen
              obtain ⟨s, hs⟩ : ∃ s, s = S.getD e 0 := ⟨_, rfl⟩
              rw [← hs] at hse m0
              have hs0 : 0 ≤ s ∧ s ≤ 1 := by omega
              obtain ⟨hs1, hs2⟩ := hs0
              have ws := wrap_in (x := s + 1) (by omega) (by omega)
              have hFIN : Hid (BlkI (wr.setCell ⟨bm, e, none⟩ (.int .i64 (s + 1))) bm (seenK M (prefX X i C (j + 1)))) := Lib.hid (by
                rw [hst, seenK_snoc, ← hS]
                unfold incS
                rw [← hs]
                exact hseen.out.set e (s + 1))
              have hAB : Hid (BlkB (wr.setCell ⟨bm, e, none⟩ (.int .i64 (s + 1))) ab (endsT N A C)) := Lib.hid (by
                unfold BlkB
                rw [Go.heap_setCell_other _ _ _ _ hne.out]
                exact hab.out)
              have hxs : Hid (Ext w3 (wr.setCell ⟨bm, e, none⟩ (.int .i64 (s + 1)))) := Lib.hid (hx.setCell (by show w3.heap.size ≤ bm; rw [HBM.out]; exact Nat.le_refl _) _)
              have b2 : (0 : Int) ≤ (j : Int) := by omega
              have b3 : (j : Int) < (cn : Int) := by omega
              have b4 : (0 : Int) ≤ (e : Int) := by omega
              have b5 : (e : Int) < (M : Int) := by omega
              clear hse hs hS hst he hcnt hseen hab hx hin hCi
              go_wp2
              go_roundw
              case rel => exact ⟨j + 1, by omega, by go_num, hFIN, hAB, hxs.out⟩
              case measure => simp [RowKit.intOf]; omega
            · have hjn : j = cn := by omega
              rw [hjn, HPF.out] at hseen
              clear hjn hCi
              go_wp2
              have hx4 := Lib.hid hx
              have hab4 := hab
              have HRI4 := Lib.hid (fun (w5 : World) (x5 : Ext wr w5) => (⟨x5.cell e0, hin.ext x5⟩ : w5.cell? ⟨g1, o1 + i, none⟩ = some (.slice ra9 cn rc9) ∧ IntIn w5 ra9 (zl C)))
              clear e0 hx hab hin
              obtain ⟨w4, hw4⟩ : ∃ w4 : World, w4 = wr := ⟨_, rfl⟩
              subst hw4
              go_loopw [11] (fun k' wr => ∃ k : Nat, k ≤ i ∧ k' = .int .i64 k ∧ Ext w4 wr) (fun k' _ => i - (RowKit.intOf k').toNat)
              case atStart => exact ⟨0, Nat.zero_le _, rfl, Ext.refl _⟩
              case round =>
                obtain ⟨k, hk, rfl, hx⟩ := hrel
                by_cases hlk : k < i
                · have hkX : k < X.length := by rw [← HK.out]; omega
                  obtain ⟨gk, ok', rd, rdc, hfa, e0k, hink⟩ := (RowsIn.ext hrows.out hx4.out) k (by simpa using hkX)
                  cases hfa
                  rw [List.getElem_map, zl_len] at e0k
                  rw [List.getElem_map] at hink
                  have hXb := HX.out
                  have hDX : X[k] ∈ X := List.getElem_mem hkX
                  have hde := blocks_elem (N := N) HOK.out (C := X[k]) (by rw [← hXb]; exact hDX)
                  have hce := blocks_elem (N := N) HOK.out (C := C) (by rw [← hXb]; exact HCX.out)
                  have hiX : i < X.length := by rw [← HK.out]; exact hli
                  have hCi : X[i] = C := by have := HXI.out; rw [List.getElem?_eq_getElem hiX] at this; exact Option.some.inj this
                  have hCD : C ≠ X[k] := by
                    rw [← hCi]
                    subst hXb
                    exact idx_ne HOK.out hiX hkX hlk
                  obtain ⟨D, hD⟩ : ∃ D, D = X[k] := ⟨_, rfl⟩
                  rw [← hD] at e0k hink hDX hde hCD
                  obtain ⟨dn, hdn⟩ : ∃ n, n = D.length := ⟨_, rfl⟩
                  rw [← hdn] at e0k
                  have hdn1 : 1 ≤ dn := by rw [hdn]; exact List.length_pos_iff.2 hde.1
                  have hdnM : dn ≤ M := by rw [hdn, HM.out]; exact hde.2.1
                  have HBOX : Hid (∀ w5 : World, Ext wr w5 → w5.cell? ⟨w.heap.size, 0, none⟩ = some (.int .i64 (N : Int)) ∧ w5.cell? ⟨w.heap.size, 1, none⟩ = some (.slice a M cap)) := Lib.hid (fun w5 x5 => box_two (hx0.out.trans (hx4.out.trans (hx.trans x5))))
                  have HRI : Hid (∀ w5 : World, Ext wr w5 → w5.cell? ⟨g1, o1 + i, none⟩ = some (.slice ra9 cn rc9) ∧ IntIn w5 ra9 (zl C)) := Lib.hid (fun w5 x5 => HRI4.out w5 (hx.trans x5))
                  have HRK : Hid (∀ w5 : World, Ext wr w5 → w5.cell? ⟨g1, o1 + k, none⟩ = some (.slice rd dn rdc) ∧ IntIn w5 rd (zl D)) := Lib.hid (fun w5 x5 => ⟨(hx.trans x5).cell e0k, hink.ext (hx.trans x5)⟩)
                  have HARC : Hid (∀ w5 : World, Ext wr w5 → ArcIn w5 a (zarc A)) := Lib.hid (fun w5 x5 => HI.out.ext (XC.out.trans (hx4.out.trans (hx.trans x5))))
                  have HED : Hid (∀ w5 : World, Ext wr w5 → Calls Try.prog 25 #[.agg #[.int .i64 (N : Int), .slice a M cap], .slice rd dn rdc] w5 fun e w' => (∃ b, e = .returned (.tuple #[.slice (some ⟨b, 0, none⟩) N N, .bool true]) ∧ BlkB w' b (endsT N A D)) ∧ Ext w5 w') := Lib.hid (fun w5 x5 => by
                    have := HE.out rd D rdc hDX w5 (XC.out.trans (hx4.out.trans (hx.trans x5))) (hink.ext (hx.trans x5))
                    rw [← hdn] at this
                    exact this)
                  have HAS : Hid (∀ v : Nat, v < N → v ∈ vertsOf A C → v ∈ vertsOf A D → isLp A C = false → isLp A D = false → ∀ w5 : World, Ext wr w5 → Calls Try.prog 26 #[.slice ca cl cc, .int .i64 (v : Int)] w5 fun e w' => e = .returned (.bool true) ∧ Ext w5 w') := Lib.hid (fun v hv h1 h2 l1 l2 w5 x5 => by
                    have hmem := share_cut HOK.out (by rw [← hXb]; exact HCX.out) (by rw [← hXb]; exact hDX) hCD hv h1 h2 l1 l2
                    rw [← HCU.out] at hmem
                    have hlen : CU.length ≤ N := by rw [HCU.out, cuts_eq HOK.out]; exact cutRK_len N A N
                    have := has_any ca (zl CU) cc (v : Int) w5 (hcin.out.ext (hx4.out.trans (hx.trans x5))) (by rw [zl_len]; omega)
                    rw [zl_len, ← HCL.out] at this
                    refine this.mono ?_
                    rintro e w' ⟨rfl, y⟩
                    refine ⟨?_, y⟩
                    rw [show (zl CU).contains (v : Int) = true by rw [List.contains_iff_mem]; unfold zl; exact List.mem_map.2 ⟨v, hmem, rfl⟩])
                  have HCM : Hid ((cmnK (endsT N A C) (endsT N A D) N).length ≤ 1) := Lib.hid (common_le HOK.out (by rw [← hXb]; exact HCX.out) (by rw [← hXb]; exact hDX) hCD)
                  have HDN := Lib.hid hdn
                  have HCLm : Hid (hd C < M) := Lib.hid (HCE.out _ (hd_mem hce.1))
                  have HDLm : Hid (hd D < M) := Lib.hid (by rw [HM.out]; exact hde.2.2 _ (hd_mem hde.1))
                  have habr := Lib.hid (hab4.out.ext hx)
                  clear hde hce hCi hCD hD hdn hDX e0k hink hXb
                  refine d3_round (w := w) hN hA hlk hli hKM HBOX HRI HRK HARC HM HCN HDN hcn1 hcnM hdn1 hdnM HCLm HDLm habr HED HAS HCM (Lib.hid ?_)
                  intro x2 x12 x13 x14 x15 x16 x93 x94 x95 x96 x97 x98 x99 x100 x101 x102 x103 x104 x105 x106 x107 x108 x109 x110 x111 x112 x113 x114 x115 x116 x117 x118 x119 x120 x121 x122 x123 x124 x125 x126 x127 x128 x129 x130 x131 x132 x133 x134 x135 x136 x137 x138 x139 x140 x141 x142 x143 x144 x145 x146 x147 x148 x149 x150 x151 x152 x153 x154 x155 x156 x157 x158 x159 x160 x161 x162 x163 x164 x165 x166 x167 x168 x169 x170 x171 x172 x173 x174 x175 x176 x177 x178 x179 x180 x181 x182 w' i' hi' hxx
                  subst hi'
                  go_roundw
                  case rel => exact ⟨k + 1, by omega, by go_num, hx.trans hxx.out⟩
                  case measure => simp [RowKit.intOf]; omega
                · go_wp2
                  go_roundw
                  case rel => exact ⟨i + 1, by omega, by go_num, Lib.hid (hseen.out.ext hx), hx4.out.trans hx⟩
                  case measure => simp [RowKit.intOf]; omega
      · have hiK : i = K := by omega
        rw [hiK] at hseen
        clear hiK
        have hx4 := Lib.hid hx
        have y4 := Lib.hid (XC.out.trans hx)
        have hS1 : Hid (∀ e, e < M → (seenK M (X.take K).flatten).getD e 0 = 1) := Lib.hid (fun e he => by
          have := seen_one HOK.out (e := e) (by rw [← HM.out]; exact he)
          rw [← HX.out, ← HK.out, ← HM.out] at this
          exact this)
        have hblM : bl ≤ M := by
          rw [HBL.out, HBR.out, bridges_eq HOK.out, HM.out]
          exact brRK_len N A A.length
        clear hx b10 b11
        obtain ⟨w4, hw4⟩ : ∃ w4 : World, w4 = wr := ⟨_, rfl⟩
        subst hw4
        go_wp2
        go_loopw [17] (fun e' wr => ∃ e : Nat, e ≤ M ∧ e' = .int .i64 e ∧ Ext w4 wr) (fun e' _ => M - (RowKit.intOf e').toNat)
        case atStart => exact ⟨0, Nat.zero_le _, rfl, Ext.refl _⟩
        case round =>
          obtain ⟨e, he, rfl, hx⟩ := hrel
          by_cases hle' : e < M
          · have m0 := (hseen.out.ext hx).cellD (j := e) (by rw [seen_len]; exact hle')
            rw [hS1.out e hle'] at m0
            have b0 : (0 : Int) ≤ (e : Int) := by omega
            have b1 : (e : Int) < (M : Int) := by omega
            go_wp2
            go_roundw
            case rel => exact ⟨e + 1, by omega, by go_num, hx⟩
            case measure => simp [RowKit.intOf]; omega
          · have hx5 := Lib.hid (hx4.out.trans hx)
            have y5 := Lib.hid (y4.out.trans hx)
            clear hseen hx
            obtain ⟨w5, hw5⟩ : ∃ w5 : World, w5 = wr := ⟨_, rfl⟩
            subst hw5
            go_wp2
            go_loopw [18] (fun i' wr => ∃ i : Nat, i ≤ bl ∧ i' = .int .i64 i ∧ Ext w5 wr) (fun i' _ => bl - (RowKit.intOf i').toNat)
            case atStart => exact ⟨0, Nat.zero_le _, rfl, Ext.refl _⟩
            case round =>
              obtain ⟨i, hi', rfl, hx⟩ := hrel
              by_cases hlb : i < bl
              · have hiB : i < BR.length := by rw [← HBL.out]; exact hlb
                obtain ⟨gb, ob, rfl, hb0⟩ := (hbin.out.ext (hx5.out.trans hx)) i (by rw [zl_len]; exact hiB)
                rw [zl_at _ _ hiB] at hb0
                have hbm' : BR[i] ∈ bridgesT N A := by rw [← HBR.out]; exact List.getElem_mem hiB
                obtain ⟨b, hb⟩ : ∃ b, b = BR[i] := ⟨_, rfl⟩
                rw [← hb] at hb0 hbm'
                have hal := alone_true N A hbm'
                rw [← HX.out, ← HK.out] at hal
                have HAL := Lib.hid hal
                have b2 : (0 : Int) ≤ (i : Int) := by omega
                have b3 : (i : Int) < (bl : Int) := by omega
                clear hal hbm' hb hiB
                obtain ⟨w6, hw6⟩ : ∃ w6 : World, w6 = wr := ⟨_, rfl⟩
                subst hw6
                go_wp2
                go_loopw [19, 20] (fun c' k' wr => ∃ k : Nat, k ≤ K ∧ c' = .bool (aloneK X b k) ∧ k' = .int .i64 k ∧ Ext w6 wr) (fun _ k' _ => K - (RowKit.intOf k').toNat)
                case atStart => exact ⟨0, Nat.zero_le _, by simp [aloneK], rfl, Ext.refl _⟩
                case round =>
                  obtain ⟨k, hk, rfl, rfl, hy⟩ := hrel
                  by_cases hlk : k < K
                  · have hkX : k < X.length := by rw [← HK.out]; exact hlk
                    obtain ⟨gk, ok', rd, rdc, hfa, e0k, hink⟩ := (RowsIn.ext hrows.out ((hx5.out.trans hx).trans hy)) k (by simpa using hkX)
                    subst hfa
                    rw [List.getElem_map, zl_len] at e0k
                    rw [List.getElem_map] at hink
                    have hde := blocks_elem (N := N) HOK.out (C := X[k]) (by rw [← HX.out]; exact List.getElem_mem hkX)
                    have hst := aloneK_succ X b k hkX
                    obtain ⟨D, hD⟩ : ∃ D, D = X[k] := ⟨_, rfl⟩
                    rw [← hD] at e0k hink hde hst
                    have hlD : 0 < D.length := List.length_pos_iff.2 hde.1
                    obtain ⟨gd, od, rfl, hd0⟩ := hink 0 (by rw [zl_len]; exact hlD)
                    rw [zl_at _ _ hlD, Nat.add_zero] at hd0
                    rw [show D[0] = hd D by unfold hd; rw [List.getD_eq_getElem?_getD, List.getElem?_eq_getElem hlD]; rfl] at hd0
                    have hb1 := hy.cell hb0
                    have hab' : aloneB b D = ((D.length : Int) == 1 && (hd D : Int) == (b : Int)) := by
                      unfold aloneB
                      rw [Bool.eq_iff_iff]
                      simp only [Bool.and_eq_true, beq_iff_eq]
                      omega
                    rw [hab'] at hst
                    obtain ⟨dn, hdn⟩ : ∃ n, n = D.length := ⟨_, rfl⟩
                    obtain ⟨h0, hh0⟩ : ∃ n, n = hd D := ⟨_, rfl⟩
                    rw [← hdn] at e0k hst hlD; rw [← hh0] at hd0 hst
                    obtain ⟨al, hale⟩ : ∃ c, c = aloneK X b k := ⟨_, rfl⟩
                    rw [← hale] at hst ⊢
                    have HST := Lib.hid hst
                    have b4 : (0 : Int) ≤ (k : Int) := by omega
                    have b5 : (k : Int) < (K : Int) := by omega
                    have b6 : (0 : Int) < (dn : Int) := by omega
                    clear hst hab' hde hink hdn hh0 hale hD
                    cases al with
                    | true =>
                      have hE : Hid (aloneK X b (k + 1) = true) := Lib.hid (by rw [HST.out]; rfl)
                      go_wp2_with fail
                      go_quiet (fail)
                      go_wp2
                      go_roundw
                      case rel => exact ⟨k + 1, by omega, by rw [hE.out], by go_num, by first | exact hy.drewN _ | exact hy.drew⟩
                      case measure => simp [RowKit.intOf]; omega
                    | false =>
                      by_cases c1 : (dn : Int) = 1
                      · obtain ⟨f1, f2⟩ := eq_facts c1
                        by_cases c2 : (h0 : Int) = (b : Int)
                        · obtain ⟨f3, f4⟩ := eq_facts c2
                          have hE : Hid (aloneK X b (k + 1) = true) := Lib.hid (by rw [HST.out, f1, f3]; rfl)
                          clear c1 c2
                          go_wp2_with fail
                          go_quiet (fail)
                          go_wp2
                          go_roundw
                          case rel => exact ⟨k + 1, by omega, by rw [hE.out], by go_num, by first | exact hy.drewN _ | exact hy.drew⟩
                          case measure => simp [RowKit.intOf]; omega
                        · obtain ⟨f3, f4⟩ := neq_facts c2
                          have hE : Hid (aloneK X b (k + 1) = false) := Lib.hid (by rw [HST.out, f1, f3]; rfl)
                          clear c1 c2
                          go_wp2_with fail
                          go_quiet (fail)
                          go_wp2
                          go_roundw
                          case rel => exact ⟨k + 1, by omega, by rw [hE.out], by go_num, by first | exact hy.drewN _ | exact hy.drew⟩
                          case measure => simp [RowKit.intOf]; omega
                      · obtain ⟨f1, f2⟩ := neq_facts c1
                        have hE : Hid (aloneK X b (k + 1) = false) := Lib.hid (by rw [HST.out, f1]; rfl)
                        clear c1
                        go_wp2_with fail
                        go_quiet (fail)
                        go_wp2
                        go_roundw
                        case rel => exact ⟨k + 1, by omega, by rw [hE.out], by go_num, by first | exact hy.drewN _ | exact hy.drew⟩
                        case measure => simp [RowKit.intOf]; omega
                  · have hkK : k = K := by omega
                    rw [hkK, HAL.out]
                    go_wp2
                    go_roundw
                    case rel => exact ⟨i + 1, by omega, by go_num, hx.trans hy⟩
                    case measure => simp [RowKit.intOf]; omega
              · go_wp2_with (go_at_call 9; refine (awake_any vis _).mono ?_; rintro e w8 ⟨rfl, x8⟩)
                go_ret
                exact ⟨rfl, (y5.out.trans hx).trans x8⟩
end Go.Proofs.Ytaipcpdncmnelaa.Pt
