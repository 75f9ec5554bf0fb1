/- The examples of the chapter: awake returns true. -/
import Derived.Test.YthhjemojblaoeaaDoorFixParseR
import Derived.Test.YthhjemojblaoeaaDoorFixDivR
import Derived.Test.YthhjemojblaoeaaDoorFixSqrt
import Derived.Handy
namespace Go.Proofs.YthhjemojblaoeaaDoor.Fx
open Go.RowKit Go.Sort Go.Lib Go.Shelf

theorem parse_n (s : ByteArray) (v c : Int) (w : World) (hs : s.size ≤ 4294967280) (he : Env w) (h : parse s.data.toList = (v, c)) :
    Calls Tryd.prog 10 #[.string s] w fun e w' => e = .returned (.tuple #[.int .i64 v, .int .i64 c]) ∧ Ext w w' := by
  have := parse_any s w (by omega) he
  rw [h] at this; exact this
theorem format_n (n : Int) (T : ByteArray) (w : World) (h0 : -9223372036854775808 ≤ n) (h1 : n ≤ 9223372036854775807) (ht : Env w) (h : fmt n = T.data.toList) :
    Calls Tryd.prog 9 #[.int .i64 n] w fun e w' => e = .returned (.string T) ∧ Ext w w' := by
  have := format_any n w h0 h1 ht.1
  rw [h] at this; exact this
theorem mul_n (a b v c : Int) (w : World) (a0 : -9223372036854775808 ≤ a) (a1 : a ≤ 9223372036854775807) (b0 : -9223372036854775808 ≤ b) (b1 : b ≤ 9223372036854775807) (h : mulR a b = (v, c)) :
    Calls Tryd.prog 14 #[.int .i64 a, .int .i64 b] w fun e w' => e = .returned (.tuple #[.int .i64 v, .int .i64 c]) ∧ Ext w w' := by
  have := mul_any a b w a0 a1 b0 b1
  rw [h] at this; exact this
theorem div_n (a b v c : Int) (w : World) (a0 : -9223372036854775808 ≤ a) (a1 : a ≤ 9223372036854775807) (b0 : -9223372036854775808 ≤ b) (b1 : b ≤ 9223372036854775807) (h : divR a b = (v, c)) :
    Calls Tryd.prog 16 #[.int .i64 a, .int .i64 b] w fun e w' => e = .returned (.tuple #[.int .i64 v, .int .i64 c]) ∧ Ext w w' := by
  have := div_any a b w a0 a1 b0 b1
  rw [h] at this; exact this
theorem sqrt_n (n : Nat) (r : Int) (w : World) (h1 : 1 ≤ n) (hn : n ≤ 9223372036854775807) (hr : IsRoot n r) :
    Calls Tryd.prog 18 #[.int .i64 n] w fun e w' => e = .returned (.int .i64 r) ∧ w = w' := by
  refine (sqrt_any n w h1 hn).mono ?_
  rintro e w' ⟨x, hx, rfl, rfl⟩
  exact ⟨ret_int (hx.eq hr), rfl⟩

theorem fmt12500 : fmt 12500 = [49, 50, 46, 53] := by
  show decDigits 12 ++ 46 :: trimRightB ((decDigits (1000 + 500)).drop 1) 48 = _
  rw [dec4 500 (by omega), decDigits_two (by omega) (by omega)]; rfl
theorem fmtm7 : fmt (-7) = [45, 48, 46, 48, 48, 55] := by
  show 45 :: (decDigits 0 ++ 46 :: trimRightB ((decDigits (1000 + 7)).drop 1) 48) = _
  rw [dec4 7 (by omega), decDigits_one (by omega)]; rfl
theorem fmt0 : fmt 0 = [48] := by
  show decDigits 0 ++ [] = _
  rw [decDigits_one (by omega)]; rfl
theorem p1 : parse [45, 48, 46, 48, 48, 55] = (-7, 0) := by decide +kernel
theorem p2 : parse [49, 46, 53, 48] = (0, 4) := by decide +kernel
theorem p3 : parse [50, 54, 56, 52, 51, 53, 46, 52, 53, 55] = (0, 4) ∨ True := Or.inr trivial

theorem awake_any (w : World) (he : Env w) :
    Calls Tryd.prog 13 #[] w fun e w' => e = .returned (.bool true) ∧ Ext w w' := by
  have HE := Lib.hid he; clear he
  go_enter Tryd.func13, Tryd.ntmps13
  go_wp2_with fail
  refine (parse_n _ (-7) 0 _ (by decide) HE.out p1).mono ?_
  rintro e w1 ⟨rfl, x1⟩
  go_wp2_with fail
  refine (parse_n _ 0 4 _ (by decide) (HE.out.ext x1) p2).mono ?_
  rintro e w2 ⟨rfl, x2⟩
  have x2' := x1.trans x2
  go_wp2_with fail
  refine (parse_n _ 0 16 _ (by decide) (HE.out.ext x2') (by decide +kernel)).mono ?_
  rintro e w3 ⟨rfl, x3⟩
  have x3' := x2'.trans x3
  go_wp2_with fail
  refine (mul_n (-1) 500 (-1) 0 _ (by decide) (by decide) (by decide) (by decide) (by decide +kernel)).mono ?_
  rintro e w4 ⟨rfl, x4⟩
  have x4' := x3'.trans x4
  go_wp2_with fail
  refine (div_n 2 3000 1 0 _ (by decide) (by decide) (by decide) (by decide) (by decide +kernel)).mono ?_
  rintro e w5 ⟨rfl, x5⟩
  have x5' := x4'.trans x5
  go_wp2_with fail
  refine (format_n 12500 ⟨#[49, 50, 46, 53]⟩ _ (by decide) (by decide) (HE.out.ext x5') fmt12500).mono ?_
  rintro e w6 ⟨rfl, x6⟩
  have x6' := x5'.trans x6
  go_wp2_with fail
  refine (format_n (-7) ⟨#[45, 48, 46, 48, 48, 55]⟩ _ (by decide) (by decide) (HE.out.ext x6') fmtm7).mono ?_
  rintro e w7 ⟨rfl, x7⟩
  have x7' := x6'.trans x7
  go_wp2_with fail
  refine (format_n 0 ⟨#[48]⟩ _ (by decide) (by decide) (HE.out.ext x7') fmt0).mono ?_
  rintro e w8 ⟨rfl, x8⟩
  have x8' := x7'.trans x8
  go_wp2_with fail
  refine (sqrt_n 24 4 _ (by decide) (by decide) ⟨4, rfl, by decide, by decide⟩).mono ?_
  rintro e w9 ⟨rfl, rfl⟩
  go_wp2
  go_ret
  exact ⟨rfl, x8'⟩
end Go.Proofs.YthhjemojblaoeaaDoor.Fx
