/- The walks of the laws FixedComputes, FixedRoots, FixedParses: each returns true. -/
import Derived.Test.YthhjemojblaoeaaDoorFixAwake
namespace Go.Proofs.YthhjemojblaoeaaDoor.Fx
open Go.RowKit Go.Sort Go.Lib Go.Shelf

theorem computes_walk (a b : Int) (w : World) (wa : (Lit.int .i64 a).wf = true) (wb : (Lit.int .i64 b).wf = true) (he : Env w) :
    Calls Tryd.prog 6 #[.int .i64 a, .int .i64 b] w fun e w' => e = .returned (.bool true) ∧ Ext w w' := by
  obtain ⟨a0, a1⟩ := bounds_i64 wa
  obtain ⟨b0, b1⟩ := bounds_i64 wb
  obtain ⟨m1, m2⟩ : ∃ m1, m1 = (mulR a b).1 := ⟨_, rfl⟩
  obtain ⟨v, c, hm⟩ : ∃ v c, mulR a b = (v, c) := ⟨_, _, rfl⟩
  obtain ⟨d, g, hd⟩ : ∃ d g, divR a b = (d, g) := ⟨_, _, rfl⟩
  have HM := Lib.hid hm; have HD := Lib.hid hd; have HE := Lib.hid he
  clear hm hd he wa wb m2 m1
  go_enter Tryd.func6, Tryd.ntmps6
  go_wp2_with fail
  refine (mul_n a b v c _ a0 a1 b0 b1 HM.out).mono ?_
  rintro e w1 ⟨rfl, x1⟩
  go_wp2_with fail
  have hr := mulR_any a b w1 a0 a1 b0 b1
  rw [HM.out] at hr
  refine hr.mono ?_
  rintro e w1 ⟨rfl, rfl⟩
  clear hr
  go_wp2_with fail
  refine (div_n a b d g _ a0 a1 b0 b1 HD.out).mono ?_
  rintro e w2 ⟨rfl, x2⟩
  have hr := divR_any a b w2 a0 a1 b0 b1
  rw [HD.out] at hr
  have HR := Lib.hid hr; clear hr
  go_wp2_with fail
  refine HR.out.mono ?_
  rintro e w3 ⟨rfl, x3⟩
  have x123 := (Ext.trans x1 x2).trans x3
  go_wp2_with fail
  refine (awake_any _ (HE.out.ext x123)).mono ?_
  rintro e w4 ⟨rfl, x4⟩
  go_wp2
  go_ret
  exact ⟨rfl, x123.trans x4⟩

theorem root_facts (s n : Int) (h1 : 1 ≤ n) (h : IsRoot n s) : 1 ≤ s ∧ s ≤ n / s ∧ n / (s + 1) < s + 1 ∧ s ≤ n ∧ 0 ≤ n / s ∧ n / s ≤ n ∧ 0 ≤ n / (s + 1) ∧ n / (s + 1) ≤ n := by
  obtain ⟨t, rfl, a, b⟩ := h
  have ht : 1 ≤ (t : Int) := by
    rcases Nat.eq_zero_or_pos t with h | h
    · subst h; simp at b; omega
    · omega
  refine ⟨ht, (Int.le_ediv_iff_mul_le (by omega)).2 a, (Int.ediv_lt_iff_lt_mul (by omega)).2 b, ?_, Int.ediv_nonneg (by omega) (by omega), Int.ediv_le_self _ (by omega), Int.ediv_nonneg (by omega) (by omega), Int.ediv_le_self _ (by omega)⟩
  have : (t : Int) * 1 ≤ (t : Int) * t := Int.mul_le_mul_of_nonneg_left ht (by omega)
  omega
theorem root_small (s n : Int) (h1 : n ≤ 9223372036854775807) (h : IsRoot n s) : s ≤ 4294967295 := by
  obtain ⟨t, rfl, a, b⟩ := h
  rcases (show (t : Int) ≤ 4294967295 ∨ 4294967296 ≤ (t : Int) by omega) with h | h
  · exact h
  · have h2 : (4294967296 : Int) * 4294967296 ≤ (t : Int) * t := Int.mul_le_mul h h (by omega) (by omega)
    omega
theorem isqrt (n : Nat) : ∃ s : Nat, s * s ≤ n ∧ n < (s + 1) * (s + 1) := by
  induction n with
  | zero => exact ⟨0, by omega, by omega⟩
  | succ n ih =>
    obtain ⟨s, h1, h2⟩ := ih
    by_cases h : (s + 1) * (s + 1) ≤ n + 1
    · refine ⟨s + 1, h, ?_⟩
      have e : (s + 1 + 1) * (s + 1 + 1) = (s + 1) * (s + 1) + 2 * (s + 1) + 1 := by
        rw [Nat.add_mul (s + 1) 1, Nat.mul_add (s + 1) (s + 1) 1]; omega
      omega
    · exact ⟨s, by omega, by omega⟩
theorem root_ex (n : Int) (h : 1 ≤ n) : ∃ r, IsRoot n r := by
  obtain ⟨m, rfl⟩ := Int.eq_ofNat_of_zero_le (show 0 ≤ n by omega)
  obtain ⟨s, a, b⟩ := isqrt m
  exact ⟨s, s, rfl, by exact_mod_cast a, by exact_mod_cast b⟩
theorem sqrtR_n (n : Nat) (r : Int) (w : World) (h1 : 1 ≤ n) (hn : n ≤ 9223372036854775807) (hr : IsRoot n r) :
    Calls Tryd.prog 19 #[.int .i64 n] w fun e w' => e = .returned (.int .i64 r) ∧ w = w' := by
  refine (sqrtR_any n w h1 hn).mono ?_
  rintro e w' ⟨x, hx, rfl, rfl⟩
  exact ⟨ret_int (hx.eq hr), rfl⟩

theorem roots_walk (n : Int) (w : World) (wn : (Lit.int .i64 n).wf = true) (he : Env w) :
    Calls Tryd.prog 8 #[.int .i64 n] w fun e w' => e = .returned (.bool true) ∧ Ext w w' := by
  obtain ⟨n0, n1⟩ := bounds_i64 wn
  have HE := Lib.hid he
  clear wn he
  by_cases h : n < 1
  · go_enter Tryd.func8, Tryd.ntmps8
    go_wp2_with (first
      | (go_at_call 18; refine (sqrt_none n _ h).mono ?_; rintro e w ⟨rfl, rfl⟩)
      | (go_at_call 13; refine (awake_any _ HE.out).mono ?_; rintro e w4 ⟨rfl, x4⟩))
    go_ret
    exact ⟨rfl, x4⟩
  · obtain ⟨r, hr⟩ := root_ex n (by omega)
    obtain ⟨f1, f2, f3, f4, f5, f6, f7, f8⟩ := root_facts r n (by omega) hr
    have f9 := root_small r n n1 hr
    obtain ⟨m, rfl⟩ := Int.eq_ofNat_of_zero_le (show 0 ≤ n by omega)
    have HR := Lib.hid hr; clear hr
    go_enter Tryd.func8, Tryd.ntmps8
    go_wp2_with (first
      | (go_at_call 18; refine (sqrt_n m r _ (by omega) (by omega) HR.out).mono ?_; rintro e w ⟨rfl, rfl⟩)
      | (go_at_call 19; refine (sqrtR_n m r _ (by omega) (by omega) HR.out).mono ?_; rintro e w ⟨rfl, rfl⟩)
      | (go_at_call 13; refine (awake_any _ HE.out).mono ?_; rintro e w4 ⟨rfl, x4⟩))
    go_ret
    exact ⟨rfl, x4⟩

theorem parses_walk (s : ByteArray) (w : World) (ws : s.size ≤ maxLen) (he : Env w) :
    Calls Tryd.prog 4 #[.string s] w fun e w' => e = .returned (.bool true) ∧ Ext w w' := by
  unfold maxLen at ws
  have HE := Lib.hid he
  clear he
  by_cases h : 200 < s.size
  · go_enter Tryd.func4, Tryd.ntmps4
    go_wp2_with (go_at_call 13; refine (awake_any _ HE.out).mono ?_; rintro e w4 ⟨rfl, x4⟩)
    go_ret
    exact ⟨rfl, x4⟩
  · obtain ⟨v, c, hp⟩ : ∃ v c, parse s.data.toList = (v, c) := ⟨_, _, rfl⟩
    have HP := Lib.hid hp; clear hp
    go_enter Tryd.func4, Tryd.ntmps4
    go_wp2_with fail
    refine (parse_n s v c _ (by omega) HE.out HP.out).mono ?_
    rintro e w1 ⟨rfl, x1⟩
    have hr := parseR_any s w1 (by omega)
    rw [HP.out] at hr
    have HR := Lib.hid hr; clear hr
    go_wp2_with fail
    refine HR.out.mono ?_
    rintro e w2 ⟨rfl, rfl⟩
    go_wp2_with fail
    refine (awake_any _ (HE.out.ext x1)).mono ?_
    rintro e w4 ⟨rfl, x4⟩
    go_wp2
    go_ret
    exact ⟨rfl, x1.trans x4⟩
end Go.Proofs.YthhjemojblaoeaaDoor.Fx
