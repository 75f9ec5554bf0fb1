/- Packed texts: FixRound, LexJoin, LexJoinB -/
import Derived.Test.YtnjnfkfmkbnkhaaGreatDoorPa03
import Derived.Test.YtnjnfkfmkbnkhaaGreatDoorPa05
import Derived.Test.YtnjnfkfmkbnkhaaGreatDoorPa20
set_option linter.unusedVariables false
set_option linter.unusedSimpArgs false
/- Format and Parse are inverse to one another, as plain functions on lists of bytes; no program in sight. -/
namespace Go.Proofs.YtnjnfkfmkbnkhaaGreatDoor.Fx
open Go.Lib

theorem valF_app : ∀ (x y : List UInt8) (a : Nat), valF a (x ++ y) = valF (valF a x) y
  | [], _, _ => rfl
  | b :: r, y, a => valF_app r y (10 * a + (b.toNat - 48))
theorem dbyte (d : Nat) (h : d ≤ 9) : (UInt8.ofNat (48 + d)).toNat = 48 + d := by
  rw [UInt8.toNat_ofNat']; omega
theorem dbyte_isD (d : Nat) (h : d ≤ 9) : isD (UInt8.ofNat (48 + d)) = true := by
  unfold isD; rw [dbyte d h]; simp; omega
theorem byte_of (b : UInt8) (h : isD b = true) : UInt8.ofNat (48 + (b.toNat - 48)) = b := by
  unfold isD at h; simp at h
  rw [show 48 + (b.toNat - 48) = b.toNat by omega]; simp
theorem dd_big (u : Nat) (h : 10 ≤ u) : decDigits u = decDigits (u / 10) ++ [UInt8.ofNat (48 + u % 10)] := by rw [decDigits, dif_neg (by omega)]
theorem dd_props (u : Nat) : valF 0 (decDigits u) = u ∧ (decDigits u).all isD = true ∧ decDigits u ≠ [] ∧ (1 ≤ u → (decDigits u)[0]?.getD 0 ≠ 48) := by
  induction u using Nat.strongRecOn with
  | ind u ih =>
    by_cases h : u < 10
    · rw [decDigits_one h]
      refine ⟨?_, ?_, by simp, fun h1 => ?_⟩
      · show 10 * 0 + ((UInt8.ofNat (48 + u)).toNat - 48) = u; rw [dbyte u (by omega)]; omega
      · rw [List.all_cons, dbyte_isD u (by omega)]; rfl
      · intro e
        have e' : UInt8.ofNat (48 + u) = 48 := e
        have := congrArg UInt8.toNat e'
        rw [dbyte u (by omega)] at this
        have e48 : (48 : UInt8).toNat = 48 := rfl
        omega
    · obtain ⟨i1, i2, i3, i4⟩ := ih (u / 10) (by omega)
      rw [dd_big u (by omega)]
      refine ⟨?_, ?_, by simp, fun _ => ?_⟩
      · rw [valF_app, i1]
        show 10 * (u / 10) + ((UInt8.ofNat (48 + u % 10)).toNat - 48) = u
        rw [dbyte _ (by omega)]; omega
      · rw [List.all_append, i2, List.all_cons, dbyte_isD (u % 10) (by omega)]; rfl
      · have := i4 (by omega)
        cases hd : decDigits (u / 10) with
        | nil => exact absurd hd i3
        | cons a r => rw [hd] at this; simpa using this
theorem isD_dot' : isD 46 = false := by decide
theorem split_app : ∀ (A T : List UInt8), A.all isD = true → splitDot (A ++ 46 :: T) = (A, T, true)
  | [], T, _ => by simp [splitDot]
  | b :: r, T, h => by
    simp only [List.all_cons, Bool.and_eq_true] at h
    have hb : (b == 46) = false := by
      rw [beq_eq_false_iff_ne]; intro e; subst e; rw [isD_dot'] at h; exact absurd h.1 (by decide)
    rw [List.cons_append]; unfold splitDot; rw [hb, split_app r T h.2]; rfl
theorem split_digits : ∀ (A : List UInt8), A.all isD = true → splitDot A = (A, [], false)
  | [], _ => rfl
  | b :: r, h => by
    simp only [List.all_cons, Bool.and_eq_true] at h
    have hb : (b == 46) = false := by
      rw [beq_eq_false_iff_ne]; intro e; subst e; rw [isD_dot'] at h; exact absurd h.1 (by decide)
    unfold splitDot; rw [hb, split_digits r h.2]; rfl
/-- Whole and fraction back together. -/
theorem split_join : ∀ (l : List UInt8), l = (splitDot l).1 ++ (if (splitDot l).2.2 then 46 :: (splitDot l).2.1 else [])
  | [] => rfl
  | b :: r => by
    have ih := split_join r
    unfold splitDot
    by_cases h : b = 46
    · simp [h]
    · have hb : (b == 46) = false := by simpa using h
      rw [hb]
      simp only [Bool.false_eq_true, if_false, List.cons_append]
      rw [← ih]
/-- Noughts behind digits that do not end in one. -/
theorem trim_pad (F : List UInt8) (k : Nat) (h : F = [] ∨ F[F.length - 1]?.getD 0 ≠ 48) : trimRightB (F ++ List.replicate k 48) 48 = F := by
  have hr : ∀ (k : Nat) (l : List UInt8), (List.replicate k (48 : UInt8) ++ l).dropWhile (· == 48) = l.dropWhile (· == 48) := by
    intro k
    induction k with
    | zero => intro l; rfl
    | succ k ih => intro l; rw [List.replicate_succ, List.cons_append, List.dropWhile_cons]; simp [ih]
  unfold trimRightB
  rw [List.reverse_append, List.reverse_replicate, hr]
  by_cases hF0 : F = []
  · subst hF0; rfl
  · replace h := h.resolve_left hF0
    have : ∃ x r, F.reverse = x :: r ∧ x ≠ 48 := by
      cases hF : F.reverse with
      | nil => exact absurd (by simpa using hF) hF0
      | cons x r =>
        refine ⟨x, r, rfl, ?_⟩
        have e : F = r.reverse ++ [x] := by have := congrArg List.reverse hF; simpa using this
        rw [e] at h; simpa using h
    obtain ⟨x, r, e, hx⟩ := this
    rw [e, List.dropWhile_cons]
    have hx' : (x == 48) = false := by simpa using hx
    rw [hx']
    simp only [Bool.false_eq_true, if_false]
    rw [← e, List.reverse_reverse]
/-- Cut off the noughts, fill them up again. -/
theorem pad_trim (l : List UInt8) (h : l.length = 3) : pad3 (trimRightB l 48) = l := by
  have key : ∀ (l : List UInt8), ∃ k, l = trimRightB l 48 ++ List.replicate k 48 := by
    intro l
    have hd : ∀ m : List UInt8, ∃ k, m = List.replicate k 48 ++ m.dropWhile (· == 48) := by
      intro m
      induction m with
      | nil => exact ⟨0, rfl⟩
      | cons a t ih =>
        obtain ⟨k, hk⟩ := ih
        by_cases ha : a = 48
        · refine ⟨k + 1, ?_⟩
          rw [List.dropWhile_cons]; simp [ha]; rw [List.replicate_succ, List.cons_append, ← hk]
        · refine ⟨0, ?_⟩
          rw [List.dropWhile_cons]; simp [ha]
    obtain ⟨k, hk⟩ := hd l.reverse
    refine ⟨k, ?_⟩
    unfold trimRightB
    have := congrArg List.reverse hk
    rw [List.reverse_reverse, List.reverse_append, List.reverse_replicate] at this
    exact this
  obtain ⟨k, hk⟩ := key l
  have hl : (trimRightB l 48).length + k = 3 := by have := congrArg List.length hk; simp at this; omega
  unfold pad3
  rw [show 3 - (trimRightB l 48).length = k by omega]
  exact hk.symm
theorem trim_props (l : List UInt8) : (trimRightB l 48 = [] ∨ (trimRightB l 48)[(trimRightB l 48).length - 1]?.getD 0 ≠ 48) ∧ (l.all isD = true → (trimRightB l 48).all isD = true) ∧ (trimRightB l 48).length ≤ l.length := by
  unfold trimRightB
  refine ⟨?_, fun h => ?_, ?_⟩
  · cases hm : l.reverse.dropWhile (· == 48) with
    | nil => exact Or.inl rfl
    | cons x r =>
      refine Or.inr ?_
      have hx : (x == 48) = false := by
        have := List.head?_dropWhile_not (p := (· == (48 : UInt8))) (l := l.reverse)
        rw [hm] at this; simpa using this
      have hx' : x ≠ 48 := by simpa using hx
      simpa using hx'
  · rw [List.all_eq_true] at h ⊢
    intro x hx
    have h1 : x ∈ l.reverse.dropWhile (· == 48) := by simpa using hx
    have h2 := (List.dropWhile_sublist (· == (48 : UInt8)) (l := l.reverse)).subset h1
    exact h x (by simpa using h2)
  · have := (List.dropWhile_sublist (· == (48 : UInt8)) (l := l.reverse)).length_le
    simp at this ⊢; omega

/-- A numeral without a leading nought is the numeral of its value. -/
theorem dd_of : ∀ (n : Nat) (W : List UInt8), W.length = n → W.all isD = true → W ≠ [] → W[0]?.getD 0 ≠ 48 → decDigits (valF 0 W) = W ∧ 1 ≤ valF 0 W := by
  intro n
  induction n with
  | zero => intro W hl _ hne; exact absurd (List.eq_nil_of_length_eq_zero hl) hne
  | succ n ih =>
    intro W hl hd hne h0
    have hsplit : W = W.dropLast ++ [W.getLast hne] := (List.dropLast_concat_getLast hne).symm
    have hdl : (W.dropLast).all isD = true := by
      rw [List.all_eq_true] at hd ⊢; exact fun x hx => hd x (List.dropLast_subset _ hx)
    have hlast : isD (W.getLast hne) = true := (List.all_eq_true.1 hd) _ (List.getLast_mem hne)
    have hlb : 48 ≤ (W.getLast hne).toNat ∧ (W.getLast hne).toNat ≤ 57 := by unfold isD at hlast; simpa using hlast
    generalize hc : W.getLast hne = c at *
    generalize hp : W.dropLast = p at *
    have hval : valF 0 W = 10 * valF 0 p + (c.toNat - 48) := by rw [hsplit, valF_app]; rfl
    by_cases hpe : p = []
    · subst hpe
      have hW : W = [c] := by rw [hsplit]; rfl
      have hc0 : c ≠ 48 := by rw [hW] at h0; simpa using h0
      have hv : valF 0 W = c.toNat - 48 := by rw [hval]; show 10 * 0 + _ = _; omega
      have hne48 : c.toNat ≠ 48 := fun e => hc0 (UInt8.toNat_inj.1 (by have e48 : (48 : UInt8).toNat = 48 := rfl; omega))
      rw [hv, decDigits_one (by omega), byte_of c hlast, hW]
      exact ⟨rfl, by omega⟩
    · have hpl : p.length = n := by have := congrArg List.length hsplit; simp at this; omega
      have hp0 : p[0]?.getD 0 ≠ 48 := by
        cases p with
        | nil => exact absurd rfl hpe
        | cons a r => rw [hsplit] at h0; simpa using h0
      obtain ⟨i1, i2⟩ := ih p hpl hdl hpe hp0
      rw [hval, dd_big _ (by omega), show (10 * valF 0 p + (c.toNat - 48)) / 10 = valF 0 p by omega, show (10 * valF 0 p + (c.toNat - 48)) % 10 = c.toNat - 48 by omega, i1, byte_of c hlast]
      exact ⟨hsplit.symm, by omega⟩
theorem dd_word (W : List UInt8) (hd : W.all isD = true) (hne : W ≠ []) (h0 : ¬ (1 < W.length ∧ W[0]?.getD 0 = 48)) : decDigits (valF 0 W) = W := by
  by_cases h : W[0]?.getD 0 = 48
  · have hl : W.length = 1 := by have h1 := List.length_pos_iff.2 hne; have h2 : ¬ 1 < W.length := fun hh => h0 ⟨hh, h⟩; omega
    cases W with
    | nil => simp at hl
    | cons a r =>
      have : r = [] := List.eq_nil_of_length_eq_zero (by simpa using hl)
      subst this
      have : a = 48 := by simpa using h
      subst this
      show decDigits 0 = [48]
      rw [decDigits_one (by omega)]; rfl
  · exact (dd_of _ W rfl hd hne h).1
/-- Three digits. -/
theorem three (l : List UInt8) (hl : l.length = 3) (hd : l.all isD = true) : valF 0 l ≤ 999 ∧ (decDigits (1000 + valF 0 l)).drop 1 = l := by
  match l, hl with
  | [x, y, z], _ =>
    simp only [List.all_cons, List.all_nil, Bool.and_true, Bool.and_eq_true] at hd
    obtain ⟨hx, hy, hz⟩ := hd
    have bx : 48 ≤ x.toNat ∧ x.toNat ≤ 57 := by unfold isD at hx; simpa using hx
    have by' : 48 ≤ y.toNat ∧ y.toNat ≤ 57 := by unfold isD at hy; simpa using hy
    have bz : 48 ≤ z.toNat ∧ z.toNat ≤ 57 := by unfold isD at hz; simpa using hz
    have hv : valF 0 [x, y, z] = 10 * (10 * (10 * 0 + (x.toNat - 48)) + (y.toNat - 48)) + (z.toNat - 48) := rfl
    have h9 : valF 0 [x, y, z] ≤ 999 := by omega
    refine ⟨h9, ?_⟩
    rw [dec4 _ h9]
    show [UInt8.ofNat (48 + valF 0 [x, y, z] / 100), UInt8.ofNat (48 + valF 0 [x, y, z] / 10 % 10), UInt8.ofNat (48 + valF 0 [x, y, z] % 10)] = _
    rw [show valF 0 [x, y, z] / 100 = x.toNat - 48 by omega, show valF 0 [x, y, z] / 10 % 10 = y.toNat - 48 by omega, show valF 0 [x, y, z] % 10 = z.toNat - 48 by omega, byte_of x hx, byte_of y hy, byte_of z hz]
theorem frac3 (r : Nat) (hr : r ≤ 999) : ((decDigits (1000 + r)).drop 1).length = 3 ∧ ((decDigits (1000 + r)).drop 1).all isD = true ∧ valF 0 ((decDigits (1000 + r)).drop 1) = r := by
  rw [dec4 r hr]
  show [UInt8.ofNat (48 + r / 100), UInt8.ofNat (48 + r / 10 % 10), UInt8.ofNat (48 + r % 10)].length = 3 ∧ [UInt8.ofNat (48 + r / 100), UInt8.ofNat (48 + r / 10 % 10), UInt8.ofNat (48 + r % 10)].all isD = true ∧ valF 0 [UInt8.ofNat (48 + r / 100), UInt8.ofNat (48 + r / 10 % 10), UInt8.ofNat (48 + r % 10)] = r
  refine ⟨rfl, ?_, ?_⟩
  · rw [List.all_cons, List.all_cons, List.all_cons, dbyte_isD _ (by omega), dbyte_isD _ (by omega), dbyte_isD _ (by omega)]; rfl
  · show 10 * (10 * (10 * 0 + ((UInt8.ofNat (48 + r / 100)).toNat - 48)) + ((UInt8.ofNat (48 + r / 10 % 10)).toNat - 48)) + ((UInt8.ofNat (48 + r % 10)).toNat - 48) = r
    rw [dbyte _ (by omega), dbyte _ (by omega), dbyte _ (by omega)]; omega
theorem valF_lin : ∀ (l : List UInt8) (a : Nat), valF a l = a * 10 ^ l.length + valF 0 l
  | [], a => by simp [valF]
  | b :: r, a => by
    have h1 := valF_lin r (10 * a + (b.toNat - 48))
    have h2 := valF_lin r (10 * 0 + (b.toNat - 48))
    show valF (10 * a + (b.toNat - 48)) r = a * 10 ^ (r.length + 1) + valF (10 * 0 + (b.toNat - 48)) r
    rw [h1, h2, Nat.pow_succ, Nat.add_mul, Nat.add_mul]
    have : 10 * a * 10 ^ r.length = a * (10 ^ r.length * 10) := by rw [Nat.mul_comm 10 a, Nat.mul_assoc, Nat.mul_comm 10]
    omega

/-- The text of a number's size reads back. -/
theorem parse_fmt (n : Int) : parse (fmt n) = if n.natAbs ≤ 268435456 then (n, 0) else (0, 16) := by
  obtain ⟨u, hu⟩ : ∃ u, n.natAbs = u := ⟨_, rfl⟩
  rw [hu]
  obtain ⟨v1, v2, v3, v4⟩ := dd_props (u / 1000)
  obtain ⟨f1, f2, f3⟩ := frac3 (u % 1000) (by omega)
  have hA0 : ¬ (1 < (decDigits (u / 1000)).length ∧ (decDigits (u / 1000))[0]?.getD 0 = 48) := by
    intro h
    by_cases hq : 1 ≤ u / 1000
    · exact v4 hq h.2
    · have : u / 1000 = 0 := by omega
      rw [this, decDigits_one (by omega)] at h
      simp at h
  generalize hA : decDigits (u / 1000) = A at *
  generalize hD : (decDigits (1000 + u % 1000)).drop 1 = D at *
  have hh : ∀ r : List UInt8, hasPrefix (A ++ r) [45] = false := by
    intro r
    cases A with
    | nil => exact absurd rfl v3
    | cons a t =>
      have ha : isD a = true := by simp at v2; exact v2.1
      have : (45 == a) = false := by rw [beq_eq_false_iff_ne]; intro e; subst e; exact absurd ha (by decide)
      simp [hasPrefix, List.isPrefixOf, this]
  -- the body of the text
  have hbody : ∀ r : List UInt8, fmtU u = r → hasPrefix (if n < 0 then 45 :: r else r) [45] = decide (n < 0) ∧ trimPrefix (if n < 0 then 45 :: r else r) [45] = r := by
    intro r hr
    have hr' : hasPrefix r [45] = false := by rw [← hr]; unfold fmtU; rw [hA]; exact hh _
    by_cases hn : n < 0
    · rw [if_pos hn]
      have : hasPrefix (45 :: r) [45] = true := by simp [hasPrefix, List.isPrefixOf]
      unfold trimPrefix; rw [this]; simp [hn]
    · rw [if_neg hn]
      unfold trimPrefix; rw [hr']; simp [hn]
  obtain ⟨b1, b2⟩ := hbody _ rfl
  have hfmt : fmt n = if n < 0 then 45 :: fmtU u else fmtU u := by unfold fmt; rw [hu]
  rw [← hfmt] at b1 b2
  unfold parse
  rw [b1, b2]
  have key : ∀ T : List UInt8, T.length ≤ 3 → T.all isD = true → pad3 T = D → valF 0 (A ++ (T ++ [48, 48, 48]).take 3) = u := by
    intro T hT _ hp
    rw [take_pad T hT, hp, valF_app, v1, valF_lin, f1, f3]; omega
  have big : 9 < A.length → 268435456 < u := by
    intro h9
    have h0 : A[0]?.getD 0 ≠ 48 := fun e => hA0 ⟨by omega, e⟩
    have := big_over A [] v2 h9 h0
    rw [List.append_nil, v1] at this; omega
  have fin : ∀ (p : Bool) (T : List UInt8), T.length ≤ 3 → T.all isD = true → pad3 T = D → (p = true → T ≠ [] ∧ T[T.length - 1]?.getD 0 ≠ 48) → (p = false → T = [] ∧ u % 1000 = 0) →
      parse3 (decide (n < 0)) p A T = if u ≤ 268435456 then (n, 0) else (0, 16) := by
    intro p T hT hTd hp hpt hpf
    have hdA : digs A = true := by unfold digs; rw [v2]; simp; exact v3
    have hdT : p = true → digs T = true := fun h => by unfold digs; rw [hTd]; simp; exact (hpt h).1
    unfold parse3
    rw [if_neg, if_neg, if_neg, key T hT hTd hp]
    · by_cases h9 : 9 < A.length
      · have := big h9
        rw [if_pos h9, if_neg (show ¬ u ≤ 268435456 by omega)]
      · rw [if_neg h9]
        by_cases hb : 268435456 < u
        · rw [if_pos hb, if_neg (show ¬ u ≤ 268435456 by omega)]
        · rw [if_neg hb, if_pos (show u ≤ 268435456 by omega)]
          by_cases hn : n < 0
          · rw [decide_eq_true hn, if_pos rfl]
            exact Prod.ext (show -(u : Int) = n by omega) rfl
          · rw [decide_eq_false hn, if_neg (by decide)]
            exact Prod.ext (show (u : Int) = n by omega) rfl
    · intro hc
      cases p
      · simp at hc
        obtain ⟨hn, hW⟩ := hc
        obtain ⟨_, hz⟩ := hpf rfl
        have : u / 1000 = 0 := by rw [← v1, hW]; rfl
        omega
      · simp at hc
    · intro hc
      cases p
      · simp at hc
      · have := hpt rfl
        simp [hdT rfl, this.2] at hc
        omega
    · intro hc
      simp [hdA] at hc
      exact hA0 hc
  by_cases hr : 0 < u % 1000
  · have hfu : fmtU u = A ++ 46 :: trimRightB D 48 := by unfold fmtU fracT; rw [hA, hD, if_pos hr]
    obtain ⟨t1, t2, t3⟩ := trim_props D
    rw [hfu, split_app _ _ v2]
    have hne : trimRightB D 48 ≠ [] := by
      intro e
      have := pad_trim D f1
      rw [e] at this
      have hz : valF 0 D = 0 := by rw [← this]; rfl
      omega
    exact fin true (trimRightB D 48) (by omega) (t2 f2) (pad_trim D f1) (fun _ => ⟨hne, t1.resolve_left hne⟩) (fun h => by cases h)
  · have hfu : fmtU u = A := by unfold fmtU; rw [hA, if_neg hr, List.append_nil]
    rw [hfu, split_digits _ v2]
    have hD0 : D = [48, 48, 48] := by
      have hz : u % 1000 = 0 := by omega
      rw [← hD, hz, dec4 0 (by omega)]; rfl
    exact fin false [] (by simp) rfl (by rw [hD0]; rfl) (fun h => by cases h) (fun _ => ⟨rfl, by omega⟩)

/-- What parse3 can answer. -/
theorem parse3_cases (m p : Bool) (A B : List UInt8) : parse3 m p A B = (0, 4) ∨ parse3 m p A B = (0, 16) ∨
    (digs A = true ∧ ¬ (1 < A.length ∧ A[0]?.getD 0 = 48) ∧ (p = true → digs B = true ∧ B.length ≤ 3 ∧ B[B.length - 1]?.getD 0 ≠ 48) ∧ (p = false → ¬ (m = true ∧ A = [48])) ∧ valF 0 (A ++ (B ++ [48, 48, 48]).take 3) ≤ 268435456 ∧
      parse3 m p A B = (if m then -(valF 0 (A ++ (B ++ [48, 48, 48]).take 3) : Int) else valF 0 (A ++ (B ++ [48, 48, 48]).take 3), 0)) := by
  unfold parse3
  by_cases c1 : (!digs A || (decide (1 < A.length) && A[0]?.getD 0 == 48)) = true
  · rw [if_pos c1]; exact Or.inl rfl
  rw [if_neg c1]
  by_cases c2 : (p && (!digs B || decide (3 < B.length) || B[B.length - 1]?.getD 0 == 48)) = true
  · rw [if_pos c2]; exact Or.inl rfl
  rw [if_neg c2]
  by_cases c3 : (m && !p && A == [48]) = true
  · rw [if_pos c3]; exact Or.inl rfl
  rw [if_neg c3]
  by_cases c4 : 9 < A.length
  · rw [if_pos c4]; exact Or.inr (Or.inl rfl)
  rw [if_neg c4]
  by_cases c5 : 268435456 < valF 0 (A ++ (B ++ [48, 48, 48]).take 3)
  · rw [if_pos c5]; exact Or.inr (Or.inl rfl)
  rw [if_neg c5]
  refine Or.inr (Or.inr ⟨?_, ?_, ?_, ?_, by omega, rfl⟩)
  · simp at c1; exact c1.1
  · simp at c1; exact fun h => c1.2 h.1 h.2
  · intro hp; subst hp; simp at c2; exact ⟨c2.1.1, c2.1.2, c2.2⟩
  · intro hp; subst hp; simp at c3; exact fun h => c3 h.1 h.2
theorem exact_err (s : List UInt8) (v c : Int) (h : parse s = (v, c)) (hc : c ≠ 0) : v = 0 ∧ (c = 4 ∨ c = 16) := by
  unfold parse at h
  rcases parse3_cases (hasPrefix s [45]) (splitDot (trimPrefix s [45])).2.2 (splitDot (trimPrefix s [45])).1 (splitDot (trimPrefix s [45])).2.1 with e | e | ⟨_, _, _, _, _, e⟩
  · rw [h] at e; simp only [Prod.mk.injEq] at e; exact ⟨e.1, Or.inl e.2⟩
  · rw [h] at e; simp only [Prod.mk.injEq] at e; exact ⟨e.1, Or.inr e.2⟩
  · rw [h] at e; simp only [Prod.mk.injEq] at e; exact absurd e.2 hc
theorem head_join (s : List UInt8) : s = (if hasPrefix s [45] then [45] else []) ++ trimPrefix s [45] := by
  unfold trimPrefix
  cases hp : hasPrefix s [45]
  · rfl
  · cases s with
    | nil => cases hp
    | cons a r =>
      have : (45 == a) = true := by simpa [hasPrefix, List.isPrefixOf] using hp
      have : (45 : UInt8) = a := by simpa using this
      subst this; rfl
theorem exact_ok (s : List UInt8) (v : Int) (h : parse s = (v, 0)) : fmt v = s ∧ v ≤ 268435456 ∧ -268435456 ≤ v := by
  have hs := head_join s
  have hj := split_join (trimPrefix s [45])
  have hn := splitDot_none (trimPrefix s [45])
  unfold parse at h
  generalize hm : hasPrefix s [45] = m at *
  generalize htp : trimPrefix s [45] = t at *
  generalize hA : (splitDot t).1 = A at *
  generalize hB : (splitDot t).2.1 = B at *
  generalize hP : (splitDot t).2.2 = p at *
  rcases parse3_cases m p A B with e | e | ⟨d1, d2, d3, d4, d5, e⟩
  · rw [h] at e; simp at e
  · rw [h] at e; simp at e
  · rw [h] at e
    have hv := congrArg Prod.fst e
    simp only at hv
    have hAd : A.all isD = true ∧ A ≠ [] := by unfold digs at d1; simp at d1; exact ⟨by simpa using d1.1, d1.2⟩
    -- the three digits
    have hB3 : B.length ≤ 3 ∧ B.all isD = true := by
      cases p
      · rw [hn rfl]; exact ⟨by simp, rfl⟩
      · obtain ⟨k1, k2, k3⟩ := d3 rfl
        unfold digs at k1; simp at k1; exact ⟨k2, by simpa using k1.1⟩
    rw [take_pad B hB3.1] at d5 hv
    have hpl : (pad3 B).length = 3 := by unfold pad3; simp; omega
    have hpd : (pad3 B).all isD = true := by
      unfold pad3; rw [List.all_append, hB3.2, Bool.true_and, List.all_eq_true]
      intro x hx; rw [(List.mem_replicate.1 hx).2]; rfl
    obtain ⟨r9, rD⟩ := three (pad3 B) hpl hpd
    have hval : valF 0 (A ++ pad3 B) = valF 0 A * 1000 + valF 0 (pad3 B) := by rw [valF_app, valF_lin, hpl]
    have hw := dd_word A hAd.1 hAd.2 d2
    generalize hU : valF 0 (A ++ pad3 B) = u at *
    have q1 : u / 1000 = valF 0 A := by omega
    have q2 : u % 1000 = valF 0 (pad3 B) := by omega
    have hBl : B = [] ∨ B[B.length - 1]?.getD 0 ≠ 48 := by
      cases p
      · exact Or.inl (hn rfl)
      · exact Or.inr (d3 rfl).2.2
    have hfr : fracT (u % 1000) = B := by
      unfold fracT; rw [q2, rD]; exact trim_pad B _ hBl
    have hpos : p = true → 0 < u % 1000 := by
      intro hp
      obtain ⟨k1, k2, k3⟩ := d3 hp
      rcases Nat.eq_zero_or_pos (u % 1000) with h0 | h0
      · have hz : pad3 B = [48, 48, 48] := by rw [← rD, ← q2, h0, dec4 0 (by omega)]; rfl
        have : trimRightB (pad3 B) 48 = B := trim_pad B _ hBl
        rw [hz] at this
        have hB0 : B = [] := by rw [← this]; rfl
        rw [hB0] at k1; cases k1
      · exact h0
    have hbody : fmtU u = t := by
      unfold fmtU
      rw [q1, hw, hj]
      cases p
      · have : u % 1000 = 0 := by rw [q2, hn rfl]; rfl
        rw [if_neg (by omega)]; rfl
      · rw [if_pos (hpos rfl), hfr]; rfl
    cases m
    · simp at hv
      subst hv
      refine ⟨?_, by omega, by omega⟩
      unfold fmt
      rw [if_neg (by omega), show ((u : Int)).natAbs = u by omega, hbody]
      rw [hs]; rfl
    · simp at hv
      subst hv
      have hu0 : 0 < u := by
        cases p
        · have hne : A ≠ [48] := fun h => d4 rfl ⟨rfl, h⟩
          rcases Nat.eq_zero_or_pos u with h0 | h0
          · have hv0 : valF 0 A = 0 := by omega
            rw [hv0, decDigits_one (by omega)] at hw
            exact absurd hw.symm hne
          · exact h0
        · have := hpos rfl; omega
      refine ⟨?_, by omega, by omega⟩
      unfold fmt
      rw [if_pos (by omega), show (-(u : Int)).natAbs = u by omega, hbody]
      rw [hs]; rfl
end Go.Proofs.YtnjnfkfmkbnkhaaGreatDoor.Fx

/- Written tokens as plain functions, and that each is read back; no program in sight. -/
namespace Go.Proofs.YtnjnfkfmkbnkhaaGreatDoor.Lx
open Go.Lib Fx

theorem scan_all {p : Nat → Bool} : ∀ (f n : Nat), (∀ k, n ≤ k → k < n + f → p k = true) → scan p f n = n + f
  | 0, _, _ => rfl
  | f + 1, n, h => by
    show (if p n then scan p f (n + 1) else n) = n + (f + 1)
    rw [h n (Nat.le_refl _) (by omega), if_pos rfl, scan_all f (n + 1) (fun k h1 h2 => h k (by omega) (by omega))]
    omega
def isN (b : UInt8) : Bool := isD b || b == 46
theorem fmtU_bytes (u : Nat) : ∃ b r, fmtU u = b :: r ∧ isD b = true ∧ r.all isN = true := by
  obtain ⟨v1, v2, v3, v4⟩ := dd_props (u / 1000)
  obtain ⟨f1, f2, f3⟩ := frac3 (u % 1000) (by omega)
  have ht := (trim_props ((decDigits (1000 + u % 1000)).drop 1)).2.1 f2
  have tail : (if 0 < u % 1000 then 46 :: fracT (u % 1000) else []).all isN = true := by
    split
    · unfold fracT
      rw [List.all_cons, Bool.and_eq_true]
      refine ⟨rfl, ?_⟩
      rw [List.all_eq_true] at ht ⊢
      exact fun x hx => by unfold isN; rw [ht x hx]; rfl
    · rfl
  cases hd : decDigits (u / 1000) with
  | nil => exact absurd hd v3
  | cons b r =>
    rw [hd, List.all_cons, Bool.and_eq_true] at v2
    refine ⟨b, r ++ (if 0 < u % 1000 then 46 :: fracT (u % 1000) else []), ?_, v2.1, ?_⟩
    · unfold fmtU; rw [hd]; rfl
    · rw [List.all_append, tail, Bool.and_true]
      have h2 := v2.2
      rw [List.all_eq_true] at h2 ⊢
      exact fun x hx => by unfold isN; rw [h2 x hx]; rfl
theorem bt_zero (b : UInt8) (r : List UInt8) : bt (b :: r) 0 = b := rfl
theorem bt_one (a b : UInt8) (r : List UInt8) : bt (a :: b :: r) 1 = b := rfl
theorem bt_all {r : List UInt8} (h : r.all isN = true) (b : UInt8) (k : Nat) (hk : k + 1 < (b :: r).length) : isN (bt (b :: r) (k + 1)) = true := by
  rw [List.all_eq_true] at h
  have hk' : k < r.length := by simpa using hk
  have e : bt (b :: r) (k + 1) = r[k] := by
    unfold bt
    rw [List.getElem?_cons_succ, List.getElem?_eq_getElem hk']; rfl
  rw [e]; exact h _ (List.getElem_mem hk')
theorem okN_of (s : List UInt8) (k : Nat) (h : isN (bt s k) = true) : okN s k = true := by
  unfold isN at h; unfold okN
  rw [Bool.or_assoc, h, Bool.or_true]
theorem isD_notL {b : UInt8} (h : isD b = true) : isL b = false := by
  unfold isD at h; unfold isL
  rw [decide_eq_true_eq] at h
  simp; omega
theorem wordN_zero (b : UInt8) (r : List UInt8) (h : isL b = false) : wordN (b :: r) = 0 := by
  unfold wordN
  rw [List.length_cons]
  show (if okW (b :: r) 0 then _ else 0) = 0
  rw [show okW (b :: r) 0 = false from by unfold okW; rw [bt_zero, h]; rfl]; rfl
/-- A written number is read back. -/
theorem next_fmt (n : Int) (h : n.natAbs ≤ 268435456) : next (fmt n) = (⟨3, [], n, 0⟩, (fmt n).length, 0) := by
  have hp := parse_fmt n
  rw [if_pos h] at hp
  obtain ⟨b, r, hu, hb, hr⟩ := fmtU_bytes n.natAbs
  have key : ∀ s : List UInt8, s = fmt n → wordN s = 0 → (isD (bt s 0) || (bt s 0 == 45 && decide (1 < s.length) && isD (bt s 1))) = true → numN s = s.length → next s = (⟨3, [], n, 0⟩, s.length, 0) := by
    intro s hs h1 h2 h3
    unfold next
    rw [h1, if_neg (by omega), if_pos h2, h3, List.take_length, hs, hp, if_pos rfl]
  refine key (fmt n) rfl ?_ ?_ ?_
  all_goals unfold fmt
  all_goals split
  · exact wordN_zero 45 _ rfl
  · rw [hu]; exact wordN_zero b r (isD_notL hb)
  · rw [hu, bt_zero, bt_one, hb, decide_eq_true (by simp)]; rfl
  · rw [hu, bt_zero, hb]; rfl
  · rw [hu]
    unfold numN
    rw [scan_all _ _ (fun k h1 h2 => ?_)]
    · simp; omega
    · obtain ⟨k, rfl⟩ : ∃ k', k = k' + 1 := ⟨k - 1, by omega⟩
      refine okN_of _ _ (bt_all ?_ 45 k ?_)
      · rw [List.all_cons, Bool.and_eq_true]; exact ⟨by unfold isN; rw [hb]; rfl, hr⟩
      · simp only [List.length_cons] at h2 ⊢; omega
  · rw [hu]
    unfold numN
    rw [scan_all _ _ (fun k h1 h2 => ?_)]
    · simp; omega
    · obtain ⟨k, rfl⟩ : ∃ k', k = k' + 1 := ⟨k - 1, by omega⟩
      exact okN_of _ _ (bt_all hr b k (by simp only [List.length_cons] at h2 ⊢; omega))
/-- A name is read back. -/
theorem next_name (l : List UInt8) (h : nameB l = true) : next l = (⟨1, l, 0, 0⟩, l.length, 0) := by
  unfold nameB at h
  simp only [Bool.and_eq_true, Bool.not_eq_true', decide_eq_true_eq] at h
  obtain ⟨⟨⟨h1, h2⟩, h3⟩, h4⟩ := h
  have hl : 0 < l.length := by cases l with
    | nil => simp at h1
    | cons a r => simp
  unfold next
  rw [h3, if_pos hl, List.take_length, h4, if_neg (by simp), if_neg (by omega)]
theorem next_kw (l : List UInt8) (h : kw l = true) : next l = (⟨2, l, 0, 0⟩, l.length, 0) := by
  unfold kw at h
  simp only [Bool.or_eq_true, beq_iff_eq] at h
  rcases h with ((((rfl | rfl) | rfl) | rfl) | rfl) | rfl <;> decide
theorem next_marks (l : List UInt8) (h : l ∈ marks) : next l = (⟨5, l, 0, 0⟩, l.length, 0) := by
  simp only [marks, List.mem_cons, List.not_mem_nil, or_false] at h
  rcases h with rfl | rfl | rfl | rfl | rfl | rfl | rfl | rfl | rfl | rfl <;> decide
end Go.Proofs.YtnjnfkfmkbnkhaaGreatDoor.Lx

/- Joined tokens are read back, all on line 1; no program in sight. -/
namespace Go.Proofs.YtnjnfkfmkbnkhaaGreatDoor.Lx
open Go.Lib Fx

/-- A token as it is written, and whether it is valid. -/
def written (t : Tok) : List UInt8 × Bool :=
  if t.kind = 1 then (t.text, decide (t.n = 0) && nameB t.text)
  else if t.kind = 2 then (t.text, decide (t.n = 0) && kw t.text)
  else if t.kind = 3 then (fmt t.n, t.text.isEmpty && decide (-268435456 ≤ t.n) && decide (t.n ≤ 268435456))
  else if t.kind = 4 then ((quote t.text).1, decide (t.n = 0) && decide ((quote t.text).2 = 0))
  else if t.kind = 5 then (t.text, decide (t.n = 0) && marks.contains t.text)
  else ([], false)
/-- No blank, no line feed, no comment. -/
def headOk (s : List UInt8) : Prop := ∃ b r, s = b :: r ∧ b ≠ 10 ∧ (decide (b = 32) || decide (b = 9)) = false ∧ b ≠ 35
theorem headOk_L {b : UInt8} (r : List UInt8) (h : isL b = true) : headOk (b :: r) := by
  refine ⟨b, r, rfl, ?_, ?_, ?_⟩
  · rintro rfl; exact absurd h (by decide)
  · by_cases h1 : b = 32
    · subst h1; exact absurd h (by decide)
    · by_cases h2 : b = 9
      · subst h2; exact absurd h (by decide)
      · simp [h1, h2]
  · rintro rfl; exact absurd h (by decide)
theorem headOk_D {b : UInt8} (r : List UInt8) (h : isD b = true) : headOk (b :: r) := by
  refine ⟨b, r, rfl, ?_, ?_, ?_⟩
  · rintro rfl; exact absurd h (by decide)
  · by_cases h1 : b = 32
    · subst h1; exact absurd h (by decide)
    · by_cases h2 : b = 9
      · subst h2; exact absurd h (by decide)
      · simp [h1, h2]
  · rintro rfl; exact absurd h (by decide)
theorem headOk_at (b : UInt8) (r : List UInt8) (h : b ≠ 10 ∧ (decide (b = 32) || decide (b = 9)) = false ∧ b ≠ 35) : headOk (b :: r) := ⟨b, r, rfl, h⟩
theorem wordN_pos (l : List UInt8) (h : 0 < wordN l) : ∃ b r, l = b :: r ∧ isL b = true := by
  cases l with
  | nil => exact absurd h (by decide)
  | cons b r =>
    refine ⟨b, r, rfl, ?_⟩
    cases hb : isL b
    · rw [wordN_zero b r hb] at h; exact absurd h (by decide)
    · rfl
theorem next_written (t : Tok) (h : (written t).2 = true) : next (written t).1 = (⟨t.kind, t.text, t.n, 0⟩, (written t).1.length, 0) ∧ headOk (written t).1 := by
  obtain ⟨k, x, n, ln⟩ := t
  unfold written at h ⊢
  dsimp only at h ⊢
  by_cases c1 : k = 1
  · subst c1
    rw [if_pos rfl] at h ⊢
    simp only [Bool.and_eq_true, decide_eq_true_eq] at h
    obtain ⟨rfl, hn⟩ := h
    refine ⟨next_name x hn, ?_⟩
    have h2 := hn
    unfold nameB at h2
    simp only [Bool.and_eq_true, Bool.not_eq_true', decide_eq_true_eq] at h2
    obtain ⟨⟨⟨g1, _⟩, g3⟩, _⟩ := h2
    obtain ⟨b, r, rfl, hb⟩ := wordN_pos x (by rw [g3]; cases x with
      | nil => simp at g1
      | cons a r => simp)
    exact headOk_L r hb
  rw [if_neg c1] at h ⊢
  by_cases c2 : k = 2
  · subst c2
    rw [if_pos rfl] at h ⊢
    simp only [Bool.and_eq_true, decide_eq_true_eq] at h
    obtain ⟨rfl, hn⟩ := h
    refine ⟨next_kw x hn, ?_⟩
    unfold kw at hn
    simp only [Bool.or_eq_true, beq_iff_eq] at hn
    rcases hn with ((((rfl | rfl) | rfl) | rfl) | rfl) | rfl <;> exact headOk_at _ _ (by decide)
  rw [if_neg c2] at h ⊢
  by_cases c3 : k = 3
  · subst c3
    rw [if_pos rfl] at h ⊢
    simp only [Bool.and_eq_true, decide_eq_true_eq] at h
    obtain ⟨⟨hx, h1⟩, h2⟩ := h
    have : x = [] := by simpa using hx
    subst this
    refine ⟨next_fmt n (by omega), ?_⟩
    obtain ⟨b, r, hu, hb, _⟩ := fmtU_bytes n.natAbs
    unfold fmt
    split
    · exact headOk_at _ _ (by decide)
    · rw [hu]; exact headOk_D r hb
  rw [if_neg c3] at h ⊢
  by_cases c4 : k = 4
  · subst c4
    rw [if_pos rfl] at h ⊢
    simp only [Bool.and_eq_true, decide_eq_true_eq] at h
    obtain ⟨rfl, hq⟩ := h
    unfold quote at hq ⊢
    by_cases g1 : 32 < x.length
    · rw [if_pos g1] at hq; exact absurd hq (by decide)
    rw [if_neg g1] at hq ⊢
    cases hp : plainB x
    · rw [hp, if_pos (by decide)] at hq; exact absurd hq (by decide)
    · rw [hp] at hq
      rw [if_neg (by simp)]
      refine ⟨?_, headOk_at _ _ (by decide)⟩
      rw [next_quote x [] hp (by omega)]
      simp
  rw [if_neg c4] at h ⊢
  by_cases c5 : k = 5
  · subst c5
    rw [if_pos rfl] at h ⊢
    simp only [Bool.and_eq_true, decide_eq_true_eq, List.contains_iff_mem] at h
    obtain ⟨rfl, hm⟩ := h
    refine ⟨next_marks x hm, ?_⟩
    simp only [marks, List.mem_cons, List.not_mem_nil, or_false] at hm
    rcases hm with rfl | rfl | rfl | rfl | rfl | rfl | rfl | rfl | rfl | rfl <;> exact headOk_at _ _ (by decide)
  · rw [if_neg c5] at h; exact absurd h (by decide)

/-- The tokens, separated by blanks. -/
def joinT : List Tok → List UInt8
  | [] => []
  | [t] => (written t).1
  | t :: u :: r => (written t).1 ++ 32 :: joinT (u :: r)
def online (t : Tok) : Tok := ⟨t.kind, t.text, t.n, 1⟩
theorem tokz_join : ∀ (l : List Tok), (∀ t ∈ l, (written t).2 = true) → ∀ (f : Nat) (L : List Tok), (joinT l).length ≤ f → tokz f 1 L (joinT l) = (L ++ l.map online, 0, 0)
  | [], _, f, L, _ => by rw [show joinT [] = [] from rfl, tokz_nil]; simp
  | [t], h, f, L, hf => by
    obtain ⟨h1, b, r, h2, n1, n2, n3⟩ := next_written t (h t (by simp))
    have e : joinT [t] = (written t).1 := rfl
    rw [e] at hf ⊢
    obtain ⟨f, rfl⟩ : ∃ f', f = f' + 1 := ⟨f - 1, by rw [h2, List.length_cons] at hf; omega⟩
    rw [h2] at h1 ⊢
    rw [tokz_cons, if_neg n1, if_neg (by rw [n2]; decide), if_neg n3, h1, if_pos rfl]
    show tokz f 1 (L ++ [online t]) ((b :: r).drop (b :: r).length) = _
    rw [List.drop_length, tokz_nil]; rfl
  | t :: u :: r, h, f, L, hf => by
    obtain ⟨h1, b, q, h2, n1, n2, n3⟩ := next_written t (h t (by simp))
    have ih := tokz_join (u :: r) (fun x hx => h x (by simp [hx]))
    have e : joinT (t :: u :: r) = (written t).1 ++ 32 :: joinT (u :: r) := rfl
    rw [e, h2] at hf ⊢
    rw [h2] at h1
    have ha := next_app (b :: q) (joinT (u :: r)) (by simp) (by rw [h1])
    rw [h1] at ha
    generalize joinT (u :: r) = J at *
    simp only [List.length_append, List.length_cons] at hf
    obtain ⟨f, rfl⟩ : ∃ f', f = f' + 2 := ⟨f - 2, by omega⟩
    rw [List.cons_append] at ha ⊢
    rw [tokz_cons, if_neg n1, if_neg (by rw [n2]; decide), if_neg n3, ha, if_pos rfl]
    show tokz (f + 1) 1 (L ++ [online t]) ((b :: (q ++ 32 :: J)).drop (b :: q).length) = _
    rw [← List.cons_append, List.drop_left, tokz_cons, if_neg (by decide), if_pos (by decide), ih f _ (by omega)]
    simp [online]
theorem tokenize_join (l : List Tok) (h : ∀ t ∈ l, (written t).2 = true) (hl : (joinT l).length ≤ 16384) : tokenize (joinT l) = (l.map online, 0, 0) := by
  unfold tokenize
  rw [if_neg (by omega), tokz_join l h _ [] (Nat.le_refl _)]; rfl
end Go.Proofs.YtnjnfkfmkbnkhaaGreatDoor.Lx
