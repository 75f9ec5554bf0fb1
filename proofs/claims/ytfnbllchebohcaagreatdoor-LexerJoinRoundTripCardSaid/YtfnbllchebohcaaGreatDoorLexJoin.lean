/- Written tokens as plain functions, and that each is read back; no program in sight. -/
import Derived.Test.YtfnbllchebohcaaGreatDoorLexQuote
import Derived.Test.YtfnbllchebohcaaGreatDoorLexLawB
import Derived.Test.YtfnbllchebohcaaGreatDoorFixRound
namespace Go.Proofs.YtfnbllchebohcaaGreatDoor.Lx
open Go.Lib Fx

theorem scan_all {p : Nat → Bool} : ∀ (f n : Nat), (∀ k, n ≤ k → k < n + f → p k = true) → scan p f n = n + f
  | 0, _, _ => rfl
  | f + 1, n, h => by
    show (if p n then scan p f (n + 1) else n) = n + (f + 1)
    rw [h n (Nat.le_refl _) (by omega), if_pos rfl, scan_all f (n + 1) (fun k h1 h2 => h k (by omega) (by omega))]
    omega
def isN (b : UInt8) : Bool := isD b || b == 46
theorem fmtU_bytes (u : Nat) : ∃ b r, fmtU u = b :: r ∧ isD b = true ∧ r.all isN = true := by
  obtain ⟨v1, v2, v3, v4⟩ := dd_props (u / 1000)
  obtain ⟨f1, f2, f3⟩ := frac3 (u % 1000) (by omega)
  have ht := (trim_props ((decDigits (1000 + u % 1000)).drop 1)).2.1 f2
  have tail : (if 0 < u % 1000 then 46 :: fracT (u % 1000) else []).all isN = true := by
    split
    · unfold fracT
      rw [List.all_cons, Bool.and_eq_true]
      refine ⟨rfl, ?_⟩
      rw [List.all_eq_true] at ht ⊢
      exact fun x hx => by unfold isN; rw [ht x hx]; rfl
    · rfl
  cases hd : decDigits (u / 1000) with
  | nil => exact absurd hd v3
  | cons b r =>
    rw [hd, List.all_cons, Bool.and_eq_true] at v2
    refine ⟨b, r ++ (if 0 < u % 1000 then 46 :: fracT (u % 1000) else []), ?_, v2.1, ?_⟩
    · unfold fmtU; rw [hd]; rfl
    · rw [List.all_append, tail, Bool.and_true]
      have h2 := v2.2
      rw [List.all_eq_true] at h2 ⊢
      exact fun x hx => by unfold isN; rw [h2 x hx]; rfl
theorem bt_zero (b : UInt8) (r : List UInt8) : bt (b :: r) 0 = b := rfl
theorem bt_one (a b : UInt8) (r : List UInt8) : bt (a :: b :: r) 1 = b := rfl
theorem bt_all {r : List UInt8} (h : r.all isN = true) (b : UInt8) (k : Nat) (hk : k + 1 < (b :: r).length) : isN (bt (b :: r) (k + 1)) = true := by
  rw [List.all_eq_true] at h
  have hk' : k < r.length := by simpa using hk
  have e : bt (b :: r) (k + 1) = r[k] := by
    unfold bt
    rw [List.getElem?_cons_succ, List.getElem?_eq_getElem hk']; rfl
  rw [e]; exact h _ (List.getElem_mem hk')
theorem okN_of (s : List UInt8) (k : Nat) (h : isN (bt s k) = true) : okN s k = true := by
  unfold isN at h; unfold okN
  rw [Bool.or_assoc, h, Bool.or_true]
theorem isD_notL {b : UInt8} (h : isD b = true) : isL b = false := by
  unfold isD at h; unfold isL
  rw [decide_eq_true_eq] at h
  simp; omega
theorem wordN_zero (b : UInt8) (r : List UInt8) (h : isL b = false) : wordN (b :: r) = 0 := by
  unfold wordN
  rw [List.length_cons]
  show (if okW (b :: r) 0 then _ else 0) = 0
  rw [show okW (b :: r) 0 = false from by unfold okW; rw [bt_zero, h]; rfl]; rfl
/-- A written number is read back. -/
theorem next_fmt (n : Int) (h : n.natAbs ≤ 268435456) : next (fmt n) = (⟨3, [], n, 0⟩, (fmt n).length, 0) := by
  have hp := parse_fmt n
  rw [if_pos h] at hp
  obtain ⟨b, r, hu, hb, hr⟩ := fmtU_bytes n.natAbs
  have key : ∀ s : List UInt8, s = fmt n → wordN s = 0 → (isD (bt s 0) || (bt s 0 == 45 && decide (1 < s.length) && isD (bt s 1))) = true → numN s = s.length → next s = (⟨3, [], n, 0⟩, s.length, 0) := by
    intro s hs h1 h2 h3
    unfold next
    rw [h1, if_neg (by omega), if_pos h2, h3, List.take_length, hs, hp, if_pos rfl]
  refine key (fmt n) rfl ?_ ?_ ?_
  all_goals unfold fmt
  all_goals split
  · exact wordN_zero 45 _ rfl
  · rw [hu]; exact wordN_zero b r (isD_notL hb)
  · rw [hu, bt_zero, bt_one, hb, decide_eq_true (by simp)]; rfl
  · rw [hu, bt_zero, hb]; rfl
  · rw [hu]
    unfold numN
    rw [scan_all _ _ (fun k h1 h2 => ?_)]
    · simp; omega
    · obtain ⟨k, rfl⟩ : ∃ k', k = k' + 1 := ⟨k - 1, by omega⟩
      refine okN_of _ _ (bt_all ?_ 45 k ?_)
      · rw [List.all_cons, Bool.and_eq_true]; exact ⟨by unfold isN; rw [hb]; rfl, hr⟩
      · simp only [List.length_cons] at h2 ⊢; omega
  · rw [hu]
    unfold numN
    rw [scan_all _ _ (fun k h1 h2 => ?_)]
    · simp; omega
    · obtain ⟨k, rfl⟩ : ∃ k', k = k' + 1 := ⟨k - 1, by omega⟩
      exact okN_of _ _ (bt_all hr b k (by simp only [List.length_cons] at h2 ⊢; omega))
/-- A name is read back. -/
theorem next_name (l : List UInt8) (h : nameB l = true) : next l = (⟨1, l, 0, 0⟩, l.length, 0) := by
  unfold nameB at h
  simp only [Bool.and_eq_true, Bool.not_eq_true', decide_eq_true_eq] at h
  obtain ⟨⟨⟨h1, h2⟩, h3⟩, h4⟩ := h
  have hl : 0 < l.length := by cases l with
    | nil => simp at h1
    | cons a r => simp
  unfold next
  rw [h3, if_pos hl, List.take_length, h4, if_neg (by simp), if_neg (by omega)]
theorem next_kw (l : List UInt8) (h : kw l = true) : next l = (⟨2, l, 0, 0⟩, l.length, 0) := by
  unfold kw at h
  simp only [Bool.or_eq_true, beq_iff_eq] at h
  rcases h with ((((rfl | rfl) | rfl) | rfl) | rfl) | rfl <;> decide
theorem next_marks (l : List UInt8) (h : l ∈ marks) : next l = (⟨5, l, 0, 0⟩, l.length, 0) := by
  simp only [marks, List.mem_cons, List.not_mem_nil, or_false] at h
  rcases h with rfl | rfl | rfl | rfl | rfl | rfl | rfl | rfl | rfl | rfl <;> decide
end Go.Proofs.YtfnbllchebohcaaGreatDoor.Lx
