/- Packed texts: NorIdxR -/
import Derived.Test.YtnancphlkbfglaaGreatDoorPb15
import Derived.Test.YtnancphlkbfglaaGreatDoorPb20
import Derived.Test.YtnancphlkbfglaaGreatDoorPb17
set_option linter.unusedVariables false
set_option linter.unusedSimpArgs false
namespace Go.Proofs.YtnancphlkbfglaaGreatDoor.Nm
open Go.RowKit Go.Sort Go.Lib Go.Shelf Fx Lx Tr At
def oI : Option Nat → Int
  | some v => v
  | none => -1
theorem idxGo_cons (n : ByteArray) (k : Nat) (q : ByteArray × Int) (r : List (ByteArray × Int)) : idxGo n k (q :: r) = if q.1 = n then some k else idxGo n (k + 1) r := rfl
variable {w0 : World} {bb B : Nat} {nm : ByteArray} {dir : Bool} {nv av cv lv : Value} {aw : List Value} {ks : List (Lk × Value)} {S : St} {E : Int}
set_option maxHeartbeats 4000000 in
set_option maxRecDepth 100000 in
theorem nodeD_any (n : ByteArray) (w : World) (h : Doc w0 bb B nm dir w nv av cv lv aw ks S E) (hN : S.N.length ≤ 4611686018427387904) :
    Calls Tryz.prog 123 #[.pointer (some ⟨bb, 0, none⟩), .string n] w fun e w' => e = .returned (.int .i64 (oI (S.idx n))) ∧ Ext w w' := by
  obtain ⟨V, hV⟩ : ∃ V, V = oI (S.idx n) := ⟨_, rfl⟩
  have H0 : Hid (V = oI (idxGo n 0 (S.N.drop 0))) := Lib.hid (by rw [List.drop_zero]; exact hV)
  rw [← hV]
  obtain ⟨a, c, rfl, -, -⟩ := row_val h.N
  obtain ⟨q, hq⟩ : ∃ n, n = S.N.length := ⟨_, rfl⟩
  have HD := Lib.hid h; have HQ := Lib.hid hq
  rw [← hq] at hN
  clear hV h hq
  go_enter Tryz.func123, Tryz.ntmps123
  go_wp2_with fail
  go_loopw [5] (fun i' wr => ∃ k : Nat, k ≤ q ∧ i' = .int .i64 k ∧ Hid (V = oI (idxGo n k (S.N.drop k))) ∧ Ext w wr) (fun i' _ => q - (RowKit.intOf i').toNat)
  case atStart => exact ⟨0, Nat.zero_le _, rfl, H0, Ext.refl _⟩
  case round =>
    clear H0
    obtain ⟨k, hk, rfl, hv, hx⟩ := hrel
    have D := HD.out.ext hx
    obtain ⟨-, -, d2, -, -, -, -⟩ := D.cells
    rw [← HQ.out] at d2
    by_cases hlt : k < q
    · have hkN : k < S.N.length := by rw [← HQ.out]; exact hlt
      obtain ⟨g, gc, hnv, -, -, -⟩ := row_has D.N (by omega)
      injection hnv with e1 e2 e3
      subst e1
      have x0 := D.N.cells (g := g) rfl (k * 6 + 0) (.string S.N[k].1) (by unfold ndsC; rw [fm_get (s := 6) (f := ndC) (fun _ => rfl) S.N k hkN 0 (by omega)]; rfl)
      rw [add0, Nat.add_zero] at x0
      have hv1 := hv.out
      rw [List.drop_eq_getElem_cons hkN, idxGo_cons] at hv1
      obtain ⟨s, hs⟩ : ∃ s, s = S.N[k].1 := ⟨_, rfl⟩
      rw [← hs] at x0 hv1
      have HV := Lib.hid hv1
      have b0 : (0 : Int) ≤ (k : Int) := by omega
      have b1 : (k : Int) < (q : Int) := by omega
      clear hs hv hv1 D e2 e3
      by_cases heq : s = n
      · have f1 : (s.toList == n.toList) = true := by rw [At.beqs]; exact decide_eq_true heq
        have hr : Hid (V = (k : Int)) := Lib.hid (by rw [HV.out, if_pos heq]; rfl)
        clear heq HV
        go_wp2
        go_ret
        exact ⟨ret_i hr.out.symm, hx⟩
      · have f1 : (s.toList == n.toList) = false := by rw [At.beqs]; exact decide_eq_false heq
        have hr : Hid (V = oI (idxGo n (k + 1) (S.N.drop (k + 1)))) := Lib.hid (by rw [HV.out, if_neg heq])
        clear heq HV
        go_wp2
        go_roundw
        case rel => exact ⟨k + 1, by omega, by go_num, hr, hx⟩
        case measure => simp [RowKit.intOf]; omega
    · have hr : Hid (V = -1) := Lib.hid (by rw [hv.out, List.drop_eq_nil_of_le (by rw [← HQ.out]; omega)]; rfl)
      clear hv D
      go_wp2
      go_ret
      exact ⟨ret_i hr.out.symm, hx⟩
set_option maxHeartbeats 4000000 in
set_option maxRecDepth 100000 in
theorem clusD_any (n : ByteArray) (w : World) (h : Doc w0 bb B nm dir w nv av cv lv aw ks S E) (hN : S.C.length ≤ 4611686018427387904) :
    Calls Tryz.prog 122 #[.pointer (some ⟨bb, 0, none⟩), .string n] w fun e w' => e = .returned (.bool (S.taken n)) ∧ Ext w w' := by
  obtain ⟨V, hV⟩ : ∃ V, V = S.taken n := ⟨_, rfl⟩
  have H0 : Hid (V = (S.C.drop 0).any fun q => decide (q.1 = n)) := Lib.hid (by rw [List.drop_zero]; exact hV)
  rw [← hV]
  obtain ⟨a, c, rfl, -, -⟩ := row_val h.C
  obtain ⟨q, hq⟩ : ∃ n, n = S.C.length := ⟨_, rfl⟩
  have HD := Lib.hid h; have HQ := Lib.hid hq
  rw [← hq] at hN
  clear hV h hq
  go_enter Tryz.func122, Tryz.ntmps122
  go_wp2_with fail
  go_loopw [5] (fun i' wr => ∃ k : Nat, k ≤ q ∧ i' = .int .i64 k ∧ Hid (V = (S.C.drop k).any fun q => decide (q.1 = n)) ∧ Ext w wr) (fun i' _ => q - (RowKit.intOf i').toNat)
  case atStart => exact ⟨0, Nat.zero_le _, rfl, H0, Ext.refl _⟩
  case round =>
    clear H0
    obtain ⟨k, hk, rfl, hv, hx⟩ := hrel
    have D := HD.out.ext hx
    obtain ⟨-, -, -, d2, -, -, -⟩ := D.cells
    rw [← HQ.out] at d2
    by_cases hlt : k < q
    · have hkN : k < S.C.length := by rw [← HQ.out]; exact hlt
      obtain ⟨g, gc, hnv, -, -, -⟩ := row_has D.C (by omega)
      injection hnv with e1 e2 e3
      subst e1
      have x0 := D.C.cells (g := g) rfl (k * 2 + 0) (.string S.C[k].1) (by unfold clsC; rw [fm_get (s := 2) (f := clC) (fun _ => rfl) S.C k hkN 0 (by omega)]; rfl)
      rw [add0, Nat.add_zero] at x0
      have hv1 := hv.out
      rw [List.drop_eq_getElem_cons hkN, List.any_cons] at hv1
      obtain ⟨s, hs⟩ : ∃ s, s = S.C[k].1 := ⟨_, rfl⟩
      rw [← hs] at x0 hv1
      have HV := Lib.hid hv1
      have b0 : (0 : Int) ≤ (k : Int) := by omega
      have b1 : (k : Int) < (q : Int) := by omega
      clear hs hv hv1 D e2 e3
      by_cases heq : s = n
      · have f1 : (s.toList == n.toList) = true := by rw [At.beqs]; exact decide_eq_true heq
        have hr : Hid (V = true) := Lib.hid (by rw [HV.out, decide_eq_true heq]; rfl)
        clear heq HV
        go_wp2
        go_ret
        exact ⟨by rw [hr.out]; rfl, hx⟩
      · have f1 : (s.toList == n.toList) = false := by rw [At.beqs]; exact decide_eq_false heq
        have hr : Hid (V = (S.C.drop (k + 1)).any fun q => decide (q.1 = n)) := Lib.hid (by rw [HV.out, decide_eq_false heq]; rfl)
        clear heq HV
        go_wp2
        go_roundw
        case rel => exact ⟨k + 1, by omega, by go_num, hr, hx⟩
        case measure => simp [RowKit.intOf]; omega
    · have hr : Hid (V = false) := Lib.hid (by rw [hv.out, List.drop_eq_nil_of_le (by rw [← HQ.out]; omega)]; rfl)
      clear hv D
      go_wp2
      go_ret
      exact ⟨by rw [hr.out]; rfl, hx⟩
end Go.Proofs.YtnancphlkbfglaaGreatDoor.Nm
