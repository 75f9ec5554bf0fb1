/- The walks of the laws FixedFormats, FixedExact, FixedProducts: each returns true. -/
import Derived.Test.YthhjemojblaoeaaDoorFixLawA
import Derived.Test.YthhjemojblaoeaaDoorFixRound
namespace Go.Proofs.YthhjemojblaoeaaDoor.Fx
open Go.RowKit Go.Sort Go.Lib Go.Shelf

theorem fmt_size (n : Int) (h0 : -9223372036854775808 ≤ n) (h1 : n ≤ 9223372036854775807) : (⟨(fmt n).toArray⟩ : ByteArray).size ≤ 100 := by
  obtain ⟨u, q, r, A, D, hab, eq, er, hr9, hu64, hq64, q1, hA, hD, hAl, hDl, hf⟩ := fmt_parts n h0 h1
  rw [size_mk, hf]
  have ht := (trim_props (D.drop 1)).2.2
  simp only [List.length_append]
  have h3 : (if n < 0 then [(45 : UInt8)] else []).length ≤ 1 := by split <;> simp
  have h4 : (if 0 < r then 46 :: trimRightB (D.drop 1) 48 else []).length ≤ 5 := by
    split
    · simp only [List.length_cons]; have : (D.drop 1).length ≤ 4 := by simp; omega
      omega
    · simp
  omega

theorem formats_walk (n : Int) (w : World) (wn : (Lit.int .i64 n).wf = true) (he : Env w) :
    Calls Tryd.prog 3 #[.int .i64 n] w fun e w' => e = .returned (.bool true) ∧ Ext w w' := by
  obtain ⟨n0, n1⟩ := bounds_i64 wn
  have hp := parse_fmt n
  have hsz := fmt_size n n0 n1
  obtain ⟨T, hT⟩ : ∃ T : ByteArray, (⟨(fmt n).toArray⟩ : ByteArray) = T := ⟨_, rfl⟩
  have hTl : fmt n = T.data.toList := by rw [← hT]
  rw [hT] at hsz
  have HE := Lib.hid he; have HT := Lib.hid hTl
  rw [hTl] at hp
  clear wn he hT hTl
  by_cases hn : n.natAbs ≤ 268435456
  · rw [if_pos hn] at hp
    have HP := Lib.hid hp; clear hp
    have k1 : n ≤ 268435456 := by omega
    have k2 : -268435456 ≤ n := by omega
    clear hn
    go_enter Tryd.func3, Tryd.ntmps3
    go_wp2_with fail
    refine (format_n n T _ n0 n1 HE.out HT.out).mono ?_
    rintro e w1 ⟨rfl, x1⟩
    go_wp2_with fail
    refine (parse_n T n 0 _ (by omega) (HE.out.ext x1) HP.out).mono ?_
    rintro e w2 ⟨rfl, x2⟩
    have x12 := x1.trans x2
    have hr := parseR_any T w2 (by omega)
    rw [HP.out] at hr
    have HR := Lib.hid hr; clear hr
    go_wp2_with fail
    refine HR.out.mono ?_
    rintro e w3 ⟨rfl, rfl⟩
    have hf := formatR_any n w2 n0 n1
    rw [HT.out] at hf
    have HF := Lib.hid hf; clear hf
    go_wp2_with fail
    refine HF.out.mono ?_
    rintro e w4 ⟨rfl, rfl⟩
    go_wp2_with fail
    refine (awake_any _ (HE.out.ext x12)).mono ?_
    rintro e w5 ⟨rfl, x5⟩
    go_wp2
    go_ret
    exact ⟨rfl, x12.trans x5⟩
  · rw [if_neg hn] at hp
    have HP := Lib.hid hp; clear hp
    rcases (show 268435456 < n ∨ n < -268435456 by omega) with k1 | k1
    all_goals
      clear hn
      go_enter Tryd.func3, Tryd.ntmps3
      go_wp2_with fail
      refine (format_n n T _ n0 n1 HE.out HT.out).mono ?_
      rintro e w1 ⟨rfl, x1⟩
      go_wp2_with fail
      refine (parse_n T 0 16 _ (by omega) (HE.out.ext x1) HP.out).mono ?_
      rintro e w2 ⟨rfl, x2⟩
      have x12 := x1.trans x2
      have hr := parseR_any T w2 (by omega)
      rw [HP.out] at hr
      have HR := Lib.hid hr; clear hr
      go_wp2_with fail
      refine HR.out.mono ?_
      rintro e w3 ⟨rfl, rfl⟩
      have hf := formatR_any n w2 n0 n1
      rw [HT.out] at hf
      have HF := Lib.hid hf; clear hf
      go_wp2_with fail
      refine HF.out.mono ?_
      rintro e w4 ⟨rfl, rfl⟩
      go_wp2_with fail
      refine (awake_any _ (HE.out.ext x12)).mono ?_
      rintro e w5 ⟨rfl, x5⟩
      go_wp2
      go_ret
      refine ⟨?_, x12.trans x5⟩
      first
        | rfl
        | (rw [show decide (-268435456 ≤ n) = false from decide_eq_false (by omega)]; rfl)

theorem exact_walk (s : ByteArray) (w : World) (ws : s.size ≤ maxLen) (he : Env w) :
    Calls Tryd.prog 5 #[.string s] w fun e w' => e = .returned (.bool true) ∧ Ext w w' := by
  unfold maxLen at ws
  have HE := Lib.hid he
  clear he
  by_cases h : 200 < s.size
  · go_enter Tryd.func5, Tryd.ntmps5
    go_wp2_with (go_at_call 13; refine (awake_any _ HE.out).mono ?_; rintro e w4 ⟨rfl, x4⟩)
    go_ret
    exact ⟨rfl, x4⟩
  · obtain ⟨v, c, hp⟩ : ∃ v c, parse s.data.toList = (v, c) := ⟨_, _, rfl⟩
    have HP := Lib.hid hp
    by_cases hc : c = 0
    · subst hc
      obtain ⟨e1, e2, e3⟩ := exact_ok _ _ hp
      have HF := Lib.hid e1
      clear hp e1
      go_enter Tryd.func5, Tryd.ntmps5
      go_wp2_with fail
      refine (parse_n s v 0 _ (by omega) HE.out HP.out).mono ?_
      rintro e w1 ⟨rfl, x1⟩
      go_wp2_with fail
      refine (format_n v s _ (by omega) (by omega) (HE.out.ext x1) HF.out).mono ?_
      rintro e w2 ⟨rfl, x2⟩
      have x12 := x1.trans x2
      go_wp2_with fail
      refine (awake_any _ (HE.out.ext x12)).mono ?_
      rintro e w5 ⟨rfl, x5⟩
      go_wp2
      go_ret
      exact ⟨rfl, x12.trans x5⟩
    · obtain ⟨e1, e2⟩ := exact_err _ _ _ hp hc
      subst e1
      clear hp hc
      rcases e2 with rfl | rfl
      all_goals
        go_enter Tryd.func5, Tryd.ntmps5
        go_wp2_with fail
        refine (parse_n s 0 _ _ (by omega) HE.out HP.out).mono ?_
        rintro e w1 ⟨rfl, x1⟩
        go_wp2_with fail
        refine (awake_any _ (HE.out.ext x1)).mono ?_
        rintro e w5 ⟨rfl, x5⟩
        go_wp2
        go_ret
        exact ⟨rfl, x1.trans x5⟩

/-! ### Products -/
theorem opp_comm (a b : Int) : opp a b = opp b a := by unfold opp; cases decide (a < 0) <;> cases decide (b < 0) <;> rfl
theorem mulR_comm (a b : Int) : mulR a b = mulR b a := by unfold mulR; rw [opp_comm, Int.mul_comm]
theorem sg_self (a : Int) (h0 : -268435456 ≤ a) (h1 : a ≤ 268435456) : sg (ab a) (opp a 1000) = (a, 0) := by
  have hb : ab a ≤ 268435456 := by unfold ab; split <;> omega
  rw [sg_in hb]
  by_cases ha : a < 0
  · rw [opp_tf ha (by decide)]; unfold ab; rw [if_pos ha]; simp
  · rw [opp_ff ha (by decide)]; unfold ab; rw [if_neg ha]; simp
theorem mulR_1000 (a : Int) (h0 : -268435456 ≤ a) (h1 : a ≤ 268435456) : mulR a 1000 = (a, 0) := by
  have e : ab 1000 = 1000 := by decide
  have e2 : (ab a * 1000 + 500) / 1000 = ab a := by omega
  unfold mulR; rw [e, e2]; exact sg_self a h0 h1
theorem divR_1000 (a : Int) (h0 : -268435456 ≤ a) (h1 : a ≤ 268435456) : divR a 1000 = (a, 0) := by
  have e : ab 1000 = 1000 := by decide
  unfold divR; rw [if_neg (by decide), e]
  have e2 : quoR (ab a) 1000 = ab a := by
    unfold quoR
    rw [Int.mul_emod_left, if_neg (by decide), Int.mul_ediv_cancel _ (by decide)]; omega
  rw [e2]; exact sg_self a h0 h1
theorem ab_prod (a b : Int) : a * b = if opp a b then -(ab a * ab b) else ab a * ab b := by
  by_cases ha : a < 0
  · by_cases hb : b < 0
    · rw [opp_tt ha hb]; unfold ab; rw [if_pos ha, if_pos hb]; exact (Int.neg_mul_neg a b).symm
    · rw [opp_tf ha hb]; unfold ab; rw [if_pos ha, if_neg hb, if_pos rfl, Int.neg_mul, Int.neg_neg]
  · by_cases hb : b < 0
    · rw [opp_ft ha hb]; unfold ab; rw [if_neg ha, if_pos hb, if_pos rfl, Int.mul_neg, Int.neg_neg]
    · rw [opp_ff ha hb]; unfold ab; rw [if_neg ha, if_neg hb]; simp
theorem mulR_near (a b : Int) (a0 : -268435456 ≤ a) (a1 : a ≤ 268435456) (b0 : -268435456 ≤ b) (b1 : b ≤ 268435456) :
    -72057594037927936 ≤ a * b ∧ a * b ≤ 72057594037927936 ∧ (mulR a b = (0, 16) ∨ ∃ m, mulR a b = (m, 0) ∧ -268435456 ≤ m ∧ m ≤ 268435456 ∧ 1000 * m - a * b ≤ 500 ∧ -500 ≤ 1000 * m - a * b) := by
  have x0 := ab_nonneg a; have y0 := ab_nonneg b
  have x1 : ab a ≤ 268435456 := by unfold ab; split <;> omega
  have y1 : ab b ≤ 268435456 := by unfold ab; split <;> omega
  have p0 : 0 ≤ ab a * ab b := Int.mul_nonneg x0 y0
  have p1 : ab a * ab b ≤ 72057594037927936 := by
    have h1 : ab a * ab b ≤ 268435456 * ab b := Int.mul_le_mul_of_nonneg_right x1 y0
    omega
  have e := ab_prod a b
  unfold mulR
  generalize ab a * ab b = P at *
  generalize a * b = ab' at *
  cases ho : opp a b
  · rw [ho] at e; simp at e
    refine ⟨by omega, by omega, ?_⟩
    by_cases h : 268435456 < (P + 500) / 1000
    · exact Or.inl (sg_over h _)
    · exact Or.inr ⟨(P + 500) / 1000, by rw [sg_in (by omega)]; rfl, by omega, by omega, by omega, by omega⟩
  · rw [ho] at e; simp at e
    refine ⟨by omega, by omega, ?_⟩
    by_cases h : 268435456 < (P + 500) / 1000
    · exact Or.inl (sg_over h _)
    · exact Or.inr ⟨-((P + 500) / 1000), by rw [sg_in (by omega)]; rfl, by omega, by omega, by omega, by omega⟩

theorem products_walk (a b : Int) (w : World) (wa : (Lit.int .i64 a).wf = true) (wb : (Lit.int .i64 b).wf = true) (he : Env w) :
    Calls Tryd.prog 7 #[.int .i64 a, .int .i64 b] w fun e w' => e = .returned (.bool true) ∧ Ext w w' := by
  obtain ⟨a0, a1⟩ := bounds_i64 wa
  obtain ⟨b0, b1⟩ := bounds_i64 wb
  have HE := Lib.hid he
  clear wa wb he
  by_cases c1 : 268435456 < a
  · go_enter Tryd.func7, Tryd.ntmps7
    go_wp2_with (go_at_call 13; refine (awake_any _ HE.out).mono ?_; rintro e w4 ⟨rfl, x4⟩)
    go_ret
    exact ⟨rfl, x4⟩
  by_cases c2 : a < -268435456
  · go_enter Tryd.func7, Tryd.ntmps7
    go_wp2_with (go_at_call 13; refine (awake_any _ HE.out).mono ?_; rintro e w4 ⟨rfl, x4⟩)
    go_ret
    exact ⟨rfl, x4⟩
  by_cases c3 : 268435456 < b
  · go_enter Tryd.func7, Tryd.ntmps7
    go_wp2_with (go_at_call 13; refine (awake_any _ HE.out).mono ?_; rintro e w4 ⟨rfl, x4⟩)
    go_ret
    exact ⟨rfl, x4⟩
  by_cases c4 : b < -268435456
  · go_enter Tryd.func7, Tryd.ntmps7
    go_wp2_with (go_at_call 13; refine (awake_any _ HE.out).mono ?_; rintro e w4 ⟨rfl, x4⟩)
    go_ret
    exact ⟨rfl, x4⟩
  obtain ⟨n0, n1, hn⟩ := mulR_near a b (by omega) (by omega) (by omega) (by omega)
  have HC := Lib.hid (mulR_comm b a)
  have H1 := Lib.hid (mulR_1000 a (by omega) (by omega))
  have H2 := Lib.hid (divR_1000 a (by omega) (by omega))
  rcases hn with hn | ⟨m, hn, m0, m1, r0, r1⟩
  · have HN := Lib.hid hn; clear hn
    go_enter Tryd.func7, Tryd.ntmps7
    go_wp2_with fail
    refine (mul_n a b 0 16 _ a0 a1 b0 b1 HN.out).mono ?_
    rintro e w1 ⟨rfl, x1⟩
    go_wp2_with fail
    refine (mul_n b a 0 16 _ b0 b1 a0 a1 (HC.out.trans HN.out)).mono ?_
    rintro e w2 ⟨rfl, x2⟩
    go_wp2_with fail
    refine (mul_n a 1000 a 0 _ a0 a1 (by decide) (by decide) H1.out).mono ?_
    rintro e w3 ⟨rfl, x3⟩
    go_wp2_with fail
    refine (div_n a 1000 a 0 _ a0 a1 (by decide) (by decide) H2.out).mono ?_
    rintro e w4 ⟨rfl, x4⟩
    have x := ((x1.trans x2).trans x3).trans x4
    go_wp2_with fail
    refine (awake_any _ (HE.out.ext x)).mono ?_
    rintro e w5 ⟨rfl, x5⟩
    go_wp2
    go_ret
    exact ⟨rfl, x.trans x5⟩
  · have HN := Lib.hid hn; clear hn
    go_enter Tryd.func7, Tryd.ntmps7
    go_wp2_with fail
    refine (mul_n a b m 0 _ a0 a1 b0 b1 HN.out).mono ?_
    rintro e w1 ⟨rfl, x1⟩
    go_wp2_with fail
    refine (mul_n b a m 0 _ b0 b1 a0 a1 (HC.out.trans HN.out)).mono ?_
    rintro e w2 ⟨rfl, x2⟩
    go_wp2_with fail
    refine (mul_n a 1000 a 0 _ a0 a1 (by decide) (by decide) H1.out).mono ?_
    rintro e w3 ⟨rfl, x3⟩
    go_wp2_with fail
    refine (div_n a 1000 a 0 _ a0 a1 (by decide) (by decide) H2.out).mono ?_
    rintro e w4 ⟨rfl, x4⟩
    have x := ((x1.trans x2).trans x3).trans x4
    go_wp2_with fail
    refine (awake_any _ (HE.out.ext x)).mono ?_
    rintro e w5 ⟨rfl, x5⟩
    go_wp2
    go_ret
    exact ⟨rfl, x.trans x5⟩
end Go.Proofs.YthhjemojblaoeaaDoor.Fx
