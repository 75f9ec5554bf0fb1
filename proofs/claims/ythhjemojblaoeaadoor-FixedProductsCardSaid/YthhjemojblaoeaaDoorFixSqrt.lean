/- What both Sqrt functions return: the greatest number whose square is at most n, for every n of at least 1; 0 for every other n. -/
import Derived.Test.YthhjemojblaoeaaDoorRows
import Derived.Test.YthhjemojblaoeaaDoorFixWalkA
import Derived.WalkKit
import Derived.Lib.Hide
namespace Go.Proofs.YthhjemojblaoeaaDoor.Fx
open Go.RowKit

/-- The bit of round k of 32, counted down; none behind the last. -/
def bitOf : Nat → Nat
  | 0 => 0
  | k + 1 => 2 ^ k
theorem bitOf_half (k : Nat) : bitOf (k + 1) / 2 = bitOf k := by
  cases k with
  | zero => rfl
  | succ k => show 2 ^ (k + 1) / 2 = 2 ^ k; rw [Nat.pow_succ]; omega
theorem bitOf_le (k : Nat) : bitOf k ≤ 2 ^ k := by
  cases k with
  | zero => decide
  | succ k => show 2 ^ k ≤ 2 ^ (k + 1); exact Nat.pow_le_pow_right (by omega) (by omega)
theorem two_bitOf (k : Nat) : 2 ^ (k + 1) = 2 * bitOf (k + 1) := by show 2 ^ (k + 1) = 2 * 2 ^ k; rw [Nat.pow_succ]; omega
/-- The state of the search: s and what is left of the bits. -/
def SqI (n s k : Nat) : Prop := k ≤ 32 ∧ s * s ≤ n ∧ n < (s + 2 ^ k) * (s + 2 ^ k) ∧ s + 2 ^ k ≤ 4294967296
theorem SqI.start (n : Nat) (h : n ≤ 9223372036854775807) : SqI n 0 32 := ⟨by omega, by omega, by omega, by omega⟩
theorem SqI.yes {n s k : Nat} (h : SqI n s (k + 1)) (ht : (s + bitOf (k + 1)) * (s + bitOf (k + 1)) ≤ n) : SqI n (s + bitOf (k + 1)) k := by
  obtain ⟨h1, h2, h3, h4⟩ := h
  have e : s + 2 ^ (k + 1) = s + bitOf (k + 1) + 2 ^ k := by rw [two_bitOf]; show _ = s + 2 ^ k + 2 ^ k; show s + 2 * 2 ^ k = _; omega
  rw [e] at h3 h4
  exact ⟨by omega, ht, h3, h4⟩
theorem SqI.no {n s k : Nat} (h : SqI n s (k + 1)) (ht : n < (s + bitOf (k + 1)) * (s + bitOf (k + 1))) : SqI n s k := by
  obtain ⟨h1, h2, h3, h4⟩ := h
  have e : 2 ^ (k + 1) = 2 * 2 ^ k := by rw [Nat.pow_succ]; omega
  exact ⟨by omega, h2, ht, by omega⟩
theorem SqI.sq {n s k : Nat} (h : SqI n s (k + 1)) : s + bitOf (k + 1) ≤ 4294967295 ∧ (s + bitOf (k + 1)) * (s + bitOf (k + 1)) ≤ 18446744065119617025 := by
  obtain ⟨h1, h2, h3, h4⟩ := h
  have e : 2 ^ (k + 1) = 2 * bitOf (k + 1) := two_bitOf k
  have p : 0 < bitOf (k + 1) := Nat.two_pow_pos k
  have : s + bitOf (k + 1) ≤ 4294967295 := by omega
  exact ⟨this, Nat.mul_le_mul this this⟩
theorem bitOf_32 : ((2147483648 : Int)) = ((bitOf 32 : Nat) : Int) := by decide
theorem bitOf_pos (k : Nat) : 0 < bitOf (k + 1) := Nat.two_pow_pos k
theorem half_int (k : Nat) : (bitOf (k + 1) : Int) / 2 = (bitOf k : Nat) := by rw [← bitOf_half k]; rfl

/-- The number that both return. -/
def IsRoot (n : Int) (r : Int) : Prop := ∃ s : Nat, r = s ∧ (s : Int) * s ≤ n ∧ n < ((s : Int) + 1) * (s + 1)
def RootPost (n : Int) (w : World) (e : Ending) (w' : World) : Prop := ∃ r : Int, IsRoot n r ∧ e = .returned (.int .i64 r) ∧ w = w'

theorem sqrt_none (n : Int) (w : World) (h : n < 1) :
    Calls Tryd.prog 18 #[.int .i64 n] w fun e w' => e = .returned (.int .i64 0) ∧ w = w' := by
  go_enter Tryd.func18, Tryd.ntmps18
  go_wp2
  go_ret
  exact ⟨rfl, rfl⟩
theorem sqrtR_none (n : Int) (w : World) (h : n < 1) :
    Calls Tryd.prog 19 #[.int .i64 n] w fun e w' => e = .returned (.int .i64 0) ∧ w = w' := by
  go_enter Tryd.func19, Tryd.ntmps19
  go_wp2
  go_ret
  exact ⟨rfl, rfl⟩

theorem sqrt_any (n : Nat) (w : World) (h1 : 1 ≤ n) (hn : n ≤ 9223372036854775807) :
    Calls Tryd.prog 18 #[.int .i64 n] w (RootPost n w) := by
  go_enter Tryd.func18, Tryd.ntmps18
  go_wp2
  go_loop [3, 4] (fun s b => ∃ (k t : Nat), SqI n t k ∧ s = .int .u64 t ∧ b = .int .u64 (bitOf k)) (fun _ b => (intOf b).toNat)
  case atStart => exact ⟨32, 0, SqI.start n hn, rfl, rfl⟩
  case round =>
    obtain ⟨k, t, hI, rfl, rfl⟩ := hrel
    cases k with
    | zero =>
      obtain ⟨_, hA, hB, _⟩ := hI
      have HA := Lib.hid hA; have HB := Lib.hid hB; clear hA hB
      have hz : (bitOf 0 : Int) = 0 := rfl
      go_wp2
      go_ret
      refine ⟨t, ⟨t, rfl, ?_, ?_⟩, ret_int ?_, rfl⟩
      · have := HA.out; exact_mod_cast this
      · have := HB.out; simp only [Nat.pow_zero] at this; exact_mod_cast this
      · have := HA.out
        have : t ≤ 4294967295 := by
          rcases Nat.lt_or_ge t 4294967296 with h | h
          · omega
          · have := Nat.mul_le_mul h h; omega
        first | rfl | (simp only [wrap64]; omega)
    | succ k =>
      have hs := hI.sq
      have hp := bitOf_pos k
      have hh := half_int k
      have hy := hI.yes
      have hno := hI.no
      have HI := Lib.hid hI
      generalize bitOf (k + 1) = b at *
      clear hI
      have s1 : (t : Int) + b ≤ 4294967295 := by omega
      have s2 : ((t : Int) + b) * (t + b) ≤ 18446744065119617025 := by have h := Int.ofNat_le.2 hs.2; rw [Int.natCast_mul, Int.natCast_add] at h; exact h
      have s0 : 0 ≤ ((t : Int) + b) * (t + b) := by exact_mod_cast Nat.zero_le _
      have HH := Lib.hid hh; have HY := Lib.hid hy; have HN := Lib.hid hno; clear hh hy hno hs
      by_cases hc : ((t : Int) + b) * (t + b) ≤ n
      · go_wp2
        go_round
        case rel => exact ⟨k, t + b, HY.out (by exact_mod_cast hc), by go_num, by rw [HH.out]⟩
        case measure => show ((b : Int) / 2).toNat < (b : Int).toNat; omega
      · go_wp2
        go_round
        case rel => exact ⟨k, t, HN.out (by have : (n : Int) < ((t : Int) + b) * (t + b) := by omega
                                            exact_mod_cast this), rfl, by rw [HH.out]⟩
        case measure => show ((b : Int) / 2).toNat < (b : Int).toNat; omega

/-- The document's bisection: low and high. -/
def BiI (n l h : Nat) : Prop := 1 ≤ l ∧ l ≤ h ∧ h ≤ 3037000499 ∧ l * l ≤ n ∧ n < (h + 1) * (h + 1)
theorem BiI.start (n : Nat) (h1 : 1 ≤ n) (h : n ≤ 9223372036854775807) : BiI n 1 3037000499 := ⟨by omega, by omega, by omega, by omega, by omega⟩
theorem div_test (n m : Nat) (hm : 1 ≤ m) : (m : Int) ≤ (n : Int) / m ↔ m * m ≤ n := by
  rw [← Nat.le_div_iff_mul_le (by omega)]; exact_mod_cast Iff.rfl
theorem sqrtR_any (n : Nat) (w : World) (h1 : 1 ≤ n) (hn : n ≤ 9223372036854775807) :
    Calls Tryd.prog 19 #[.int .i64 n] w (RootPost n w) := by
  go_enter Tryd.func19, Tryd.ntmps19
  go_wp2
  go_loop [3, 4] (fun l h => ∃ (a b : Nat), BiI n a b ∧ l = .int .i64 a ∧ h = .int .i64 b) (fun l h => (intOf h).toNat - (intOf l).toNat)
  case atStart => exact ⟨1, 3037000499, BiI.start n h1 hn, rfl, rfl⟩
  case round =>
    obtain ⟨a, b, hI, rfl, rfl⟩ := hrel
    obtain ⟨i1, i2, i3, hA, hB⟩ := hI
    have HA := Lib.hid hA; have HB := Lib.hid hB; clear hA hB
    by_cases hlt : a < b
    · obtain ⟨m, hm, hm1, hm2⟩ : ∃ m : Nat, ((a : Int) + b + 1) / 2 = m ∧ a < m ∧ m ≤ b := ⟨(a + b + 1) / 2, by omega, by omega, by omega⟩
      have hq0 : 0 ≤ (n : Int) / m := by exact_mod_cast Nat.zero_le _
      have hq1 : (n : Int) / m ≤ n := Int.ediv_le_self _ (by omega)
      have ht := div_test n m (by omega)
      by_cases hc : (m : Int) ≤ (n : Int) / m
      · have HC := Lib.hid (ht.1 hc); clear ht
        go_wp2
        go_round
        case rel => exact ⟨m, b, ⟨by omega, hm2, i3, HC.out, HB.out⟩, by go_num, rfl⟩
        case measure => simp [intOf]; omega
      · have HC := Lib.hid (Nat.lt_of_not_le fun h => hc (ht.2 h)); clear ht
        go_wp2
        go_round
        case rel => exact ⟨a, m - 1, ⟨i1, by omega, by omega, HA.out, by have := HC.out; rw [show m - 1 + 1 = m by omega]; exact this⟩, rfl, by go_num⟩
        case measure => simp [intOf]; omega
    · go_wp2
      go_ret
      have e : a = b := by omega
      subst e
      refine ⟨a, ⟨a, rfl, ?_, ?_⟩, rfl, rfl⟩
      · have := HA.out; exact_mod_cast this
      · have := HB.out; exact_mod_cast this
theorem IsRoot.eq {n r s : Int} (h : IsRoot n r) (k : IsRoot n s) : r = s := by
  obtain ⟨a, rfl, a1, a2⟩ := h
  obtain ⟨b, rfl, b1, b2⟩ := k
  obtain ⟨m, rfl⟩ : ∃ m : Nat, n = m := ⟨n.toNat, by have : (0 : Int) ≤ (a : Int) * a := Int.mul_nonneg (by omega) (by omega); omega⟩
  congr 1
  exact sqrt_unique (by exact_mod_cast a1) (by exact_mod_cast a2) (by exact_mod_cast b1) (by exact_mod_cast b2)
end Go.Proofs.YthhjemojblaoeaaDoor.Fx
