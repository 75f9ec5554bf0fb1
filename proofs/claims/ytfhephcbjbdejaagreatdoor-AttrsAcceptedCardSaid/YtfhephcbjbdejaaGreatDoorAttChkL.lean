/- What the document's Check returns of a label, and whole. -/
import Derived.Test.YtfhephcbjbdejaaGreatDoorAttChkR
namespace Go.Proofs.YtfhephcbjbdejaaGreatDoor.At
open Go.RowKit Go.Sort Go.Lib Go.Shelf Fx Lx

set_option maxHeartbeats 4000000 in
set_option maxRecDepth 100000 in
theorem chkR_long (kind lo hi d : Int) (k v : ByteArray) (w : World) (hkd : kind = 1 ∨ kind = 2 ∨ kind = 4) (hr : knownT kind k.data.toList = (1, lo, hi, d)) (hv : 32 < v.size) :
    Calls Tryz.prog 24 #[.int .i64 kind, .agg #[.string k, .string v]] w fun e w' => e = .returned (.int .i64 (2)) ∧ Ext w w' := by
  have hkn := fun w => known_any kind k w
  rw [hr] at hkn
  unfold knownV at hkn
  dsimp only at hkn
  have hx0 : Ext w (w.alloc (.cells #[.string k, .string v] 39)) := (Ext.refl _).alloc _
  have hcl := atr_cells w k v
  have HCL := Lib.hid hcl
  have HKN := Lib.hid hkn
  clear hkn hr hcl
  rcases hkd with rfl | rfl | rfl
  all_goals
    go_enter Tryz.func24, Tryz.ntmps24
    go_wp2_with (first | (go_at_call 21; refine (HKN.out _).mono ?_; rintro e w1 ⟨rfl, x1⟩; have q1 := (HCL.out _ (x1.alloc (.cells #[.int .i64 1, .int .i64 lo, .int .i64 hi, .int .i64 d] 42))).1; have q2 := (HCL.out _ (x1.alloc (.cells #[.int .i64 1, .int .i64 lo, .int .i64 hi, .int .i64 d] 42))).2))
    go_returns
    exact ⟨rfl, (hx0.trans x1).alloc _⟩
set_option maxHeartbeats 4000000 in
set_option maxRecDepth 100000 in
theorem chkR_label (kind lo hi d : Int) (k v : ByteArray) (w : World) (hkd : kind = 1 ∨ kind = 2 ∨ kind = 4) (hr : knownT kind k.data.toList = (1, lo, hi, d)) (hv : v.size ≤ 32) :
    Calls Tryz.prog 24 #[.int .i64 kind, .agg #[.string k, .string v]] w fun e w' => e = .returned (.int .i64 (if v.data.toList.all okT then 0 else 7)) ∧ Ext w w' := by
  have hkn := fun w => known_any kind k w
  rw [hr] at hkn
  unfold knownV at hkn
  dsimp only at hkn
  have hx0 : Ext w (w.alloc (.cells #[.string k, .string v] 39)) := (Ext.refl _).alloc _
  have hcl := atr_cells w k v
  have HCL := Lib.hid hcl
  have HKN := Lib.hid hkn
  clear hkn hr hcl
  obtain ⟨R, hR⟩ : ∃ R, R = v.data.toList.all okT := ⟨_, rfl⟩
  have HR : Hid (R = (true && (v.data.toList.drop 0).all okT)) := Lib.hid (by rw [hR, List.drop_zero, Bool.true_and])
  rw [← hR]
  clear hR
  obtain ⟨V, hV⟩ : ∃ V : Int, V = if R then 0 else 7 := ⟨_, rfl⟩
  rw [← hV]
  have HV := Lib.hid hV
  clear hV
  rcases hkd with rfl | rfl | rfl
  all_goals
    go_enter Tryz.func24, Tryz.ntmps24
    go_wp2_with (go_at_call 21; refine (HKN.out _).mono ?_; rintro e w1 ⟨rfl, x1⟩; have q1 := (HCL.out _ (x1.alloc (.cells #[.int .i64 1, .int .i64 lo, .int .i64 hi, .int .i64 d] 42))).1; have q2 := (HCL.out _ (x1.alloc (.cells #[.int .i64 1, .int .i64 lo, .int .i64 hi, .int .i64 d] 42))).2)
    go_loop [6, 7] (fun ok n => ∃ (k : Nat) (b : Bool), k ≤ v.size ∧ n = .int .i64 k ∧ ok = .bool b ∧ Hid (R = (b && (v.data.toList.drop k).all okT))) (fun _ n => v.size - (RowKit.intOf n).toNat)
    case atStart => exact ⟨0, true, by omega, rfl, rfl, HR⟩
    case round =>
      obtain ⟨k, b, hk, rfl, rfl, ha⟩ := hrel
      clear HR
      by_cases hlt : k < v.size
      · have hst := ha.out
        have hd : v.data.toList.drop k = v[k] :: v.data.toList.drop (k + 1) := by
          rw [List.drop_eq_getElem_cons (by rw [← size_len]; exact hlt)]; rfl
        rw [hd, List.all_cons] at hst
        clear ha hd
        cases b
        · have hf : Hid (R = (false && (v.data.toList.drop (k + 1)).all okT)) := Lib.hid (by rw [hst]; rfl)
          clear hst
          go_wp2
          go_round
          case rel => exact ⟨k + 1, false, by omega, by go_num, rfl, hf⟩
          case measure => simp [RowKit.intOf]; omega
        · by_cases c1 : 32 ≤ v[k].toNat
          · by_cases c2 : v[k].toNat ≤ 126
            · have hf : Hid (R = (true && (v.data.toList.drop (k + 1)).all okT)) := Lib.hid (by
                rw [hst]; unfold okT; rw [decide_eq_true c1, decide_eq_true c2]; rfl)
              have g2 : decide ((v[k].toNat : Int) ≤ 126) = true := decide_eq_true (by omega)
              clear hst
              go_wp2
              go_round
              case rel => exact ⟨k + 1, true, by omega, by go_num, rfl, hf⟩
              case measure => simp [RowKit.intOf]; omega
            · have hf : Hid (R = (false && (v.data.toList.drop (k + 1)).all okT)) := Lib.hid (by
                rw [hst]; unfold okT; rw [decide_eq_false c2]; simp)
              have g2 : decide ((v[k].toNat : Int) ≤ 126) = false := decide_eq_false (by omega)
              clear hst
              go_wp2
              go_round
              case rel => exact ⟨k + 1, false, by omega, by go_num, rfl, hf⟩
              case measure => simp [RowKit.intOf]; omega
          · have hf : Hid (R = (false && (v.data.toList.drop (k + 1)).all okT)) := Lib.hid (by
              rw [hst]; unfold okT; rw [decide_eq_false c1]; simp)
            clear hst
            go_wp2
            go_round
            case rel => exact ⟨k + 1, false, by omega, by go_num, rfl, hf⟩
            case measure => simp [RowKit.intOf]; omega
      · have hf : Hid (R = b) := Lib.hid (by
          rw [ha.out, List.drop_eq_nil_of_le (by rw [← size_len]; omega)]; simp)
        clear ha
        cases b
        all_goals
          go_wp2
          go_returns
          refine ⟨ret_int ?_, (hx0.trans x1).alloc _⟩
          rw [HV.out, hf.out]
          rfl
end Go.Proofs.YtfhephcbjbdejaaGreatDoor.At
