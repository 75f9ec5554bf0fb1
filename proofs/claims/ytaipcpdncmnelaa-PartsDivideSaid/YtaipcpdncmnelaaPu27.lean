/- Packed texts: PrtFinE -/
import Derived.Test.YtaipcpdncmnelaaPu26
set_option linter.unusedVariables false
set_option linter.unusedSimpArgs false
/- The law of divided parts, for every argument. -/
namespace Go.Proofs.Ytaipcpdncmnelaa.Pt
open Go.RowKit Go.Sort Go.Lib Fx Tp

set_option maxHeartbeats 4000000 in
set_option maxRecDepth 100000 in
theorem divide_card (g : Value) (w : World) (hg : DigArg w g) : Calls Try.prog 6 #[g] w fun e w' => e = .returned (.bool true) ∧ Ext w w' := by
  obtain ⟨n, a, L, cap, rfl, hn0, hn1, h, hk, hL⟩ := hg
  have hval := fun w1 (x : Ext w w1) => validR_any n a L cap w1 hn0 hn1 (h.ext x) hk hL
  by_cases hv : validL n L = true
  · by_cases h100 : L.length ≤ 100
    · obtain ⟨N, A, rfl, hN, hz, hA, ok⟩ := valid_nat hv
      have hz : L = zarc A := hz
      subst hz
      rw [zarc_len] at h100 ⊢
      exact divide_in N a A cap w hN h h100 ok
    · rw [hv] at hval
      obtain ⟨M, hM⟩ : ∃ M, M = L.length := ⟨_, rfl⟩
      rw [← hM] at hL hval h100 ⊢
      have HV := Lib.hid hval
      have hgt : (100 : Int) < (M : Int) := by omega
      clear h hM hval hk hv
      go_enter Try.func6, Try.ntmps6
      go_wp2_with (first
        | (go_at_call 24; refine (HV.out _ ((Ext.refl _).alloc _)).mono ?_; rintro e w1 ⟨rfl, x1⟩; have b1 := box_two x1; have b10 := b1.1; have b11 := b1.2)
        | (go_at_call 9; refine (awake_any vis _).mono ?_; rintro e w4 ⟨rfl, x4⟩))
      go_ret
      exact ⟨rfl, (((Ext.refl _).alloc _).trans x1).trans x4⟩
  · have hv : validL n L = false := by simpa using hv
    rw [hv] at hval
    obtain ⟨M, hM⟩ : ∃ M, M = L.length := ⟨_, rfl⟩
    rw [← hM] at hL hval ⊢
    have HV := Lib.hid hval
    clear h hM hval hk hv
    go_enter Try.func6, Try.ntmps6
    go_wp2_with (first
      | (go_at_call 24; refine (HV.out _ ((Ext.refl _).alloc _)).mono ?_; rintro e w1 ⟨rfl, x1⟩; have b1 := box_two x1; have b10 := b1.1; have b11 := b1.2)
      | (go_at_call 9; refine (awake_any vis _).mono ?_; rintro e w4 ⟨rfl, x4⟩))
    go_ret
    exact ⟨rfl, (((Ext.refl _).alloc _).trans x1).trans x4⟩
end Go.Proofs.Ytaipcpdncmnelaa.Pt
