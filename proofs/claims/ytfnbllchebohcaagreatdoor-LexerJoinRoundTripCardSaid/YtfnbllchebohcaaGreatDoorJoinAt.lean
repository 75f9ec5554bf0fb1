/- A list of tokens that came in; the law's small; the lengths of written tokens. -/
import Derived.Test.YtfnbllchebohcaaGreatDoorJoinRef
import Derived.Test.YtfnbllchebohcaaGreatDoorLexSame
import Derived.Test.YtfnbllchebohcaaGreatDoorLexAwake
import Derived.Test.YtfnbllchebohcaaGreatDoorBuildStr
namespace Go.Proofs.YtfnbllchebohcaaGreatDoor.Qo
open Go.RowKit Go.Lib Fx Lx

/-- A list of tokens behind a slice. -/
def TokIn (w : World) (a : Option Addr) (L : List Tok) : Prop :=
  ∀ k (h : k < L.length), ∃ g o, a = some ⟨g, o, none⟩ ∧ w.cell? ⟨g, o + k * 4, none⟩ = some (.int .i64 L[k].kind) ∧ w.cell? ⟨g, o + k * 4 + 1, none⟩ = some (.string ⟨L[k].text.toArray⟩) ∧
    w.cell? ⟨g, o + k * 4 + 2, none⟩ = some (.int .i64 L[k].n) ∧ w.cell? ⟨g, o + k * 4 + 3, none⟩ = some (.int .i64 L[k].line)
theorem TokIn.ext {w w' : World} {a : Option Addr} {L : List Tok} (h : TokIn w a L) (x : Ext w w') : TokIn w' a L := fun k hk => by
  obtain ⟨g, o, ha, h0, h1, h2, h3⟩ := h k hk
  exact ⟨g, o, ha, x.cell h0, x.cell h1, x.cell h2, x.cell h3⟩
/-- What a token that came in is. -/
def TokWf (t : Tok) : Prop := t.text.length ≤ 9223372036854775807 ∧ -9223372036854775808 ≤ t.n ∧ t.n ≤ 9223372036854775807
def smallB (L : List Tok) : Bool := decide (L.length ≤ 200) && L.all (fun t => decide (t.text.length ≤ 200))

set_option maxHeartbeats 4000000 in
set_option maxRecDepth 100000 in
theorem small_any (a : Option Addr) (L : List Tok) (cap : Nat) (w : World) (h : TokIn w a L) (hn : L.length ≤ 9223372036854775807) (hw : ∀ t ∈ L, TokWf t) :
    Calls Tryz.prog 11 #[.slice a L.length cap] w fun e w' => e = .returned (.bool (smallB L)) ∧ w = w' := by
  obtain ⟨N, hN⟩ : ∃ N, N = L.length := ⟨_, rfl⟩
  have HI := Lib.hid h; have HW := Lib.hid hw
  rw [← hN] at hn ⊢
  have HN := Lib.hid hN
  clear h hw hN
  go_enter Tryz.func11, Tryz.ntmps11
  go_wp2_with fail
  go_loop [3] (fun i' => ∃ k : Nat, k ≤ N ∧ k ≤ 201 ∧ i' = .int .i64 k ∧ Hid (∀ j (hj : j < L.length), j < k → L[j].text.length ≤ 200)) (fun i' => N - (RowKit.intOf i').toNat)
  case atStart => exact ⟨0, by omega, by omega, rfl, Lib.hid (fun j _ h => absurd h (by omega))⟩
  case round =>
    obtain ⟨k, hk, hk2, rfl, hall⟩ := hrel
    by_cases hlt : k < N
    · have g1 : decide ((k : Int) < (N : Int)) = true := by simp; omega
      by_cases h200 : k ≤ 200
      · have hkl : k < L.length := by rw [← HN.out]; exact hlt
        obtain ⟨g, o, rfl, _, c1, _, _⟩ := HI.out k hkl
        obtain ⟨x, hx⟩ : ∃ x : ByteArray, x = ⟨L[k].text.toArray⟩ := ⟨_, rfl⟩
        have hts : x.size = L[k].text.length := by rw [hx]; exact size_mk _
        rw [← hx] at c1
        have htl := (HW.out L[k] (List.getElem_mem hkl)).1
        clear hx
        by_cases hbig : 200 < L[k].text.length
        · have hf : Hid (smallB L = false) := Lib.hid (by
            unfold smallB
            rw [List.all_eq_false.2 ⟨L[k], List.getElem_mem hkl, by simp; omega⟩, Bool.and_false])
          rw [← hts] at hbig htl
          have HTS := Lib.hid hts
          clear hts
          go_wp2_with fail
          go_ret
          exact ⟨ret_bool hf.out.symm, rfl⟩
        · have hf : Hid (∀ j (hj : j < L.length), j < k + 1 → L[j].text.length ≤ 200) := Lib.hid (fun j hj h => by
            by_cases e : j = k
            · subst e; omega
            · exact hall.out j hj (by omega))
          rw [← hts] at hbig htl
          have HTS := Lib.hid hts
          clear hts hall
          go_wp2_with fail
          go_round
          case rel => exact ⟨k + 1, by omega, by omega, by go_num, hf⟩
          case measure => simp [RowKit.intOf]; omega
      · obtain rfl : k = 201 := by omega
        have hf : Hid (smallB L = false) := Lib.hid (by unfold smallB; rw [decide_eq_false (by rw [← HN.out]; omega), Bool.false_and])
        clear hall
        go_wp2_with fail
        go_ret
        exact ⟨ret_bool (by rw [hf.out]; simp; omega), rfl⟩
    · have g1 : decide ((k : Int) < (N : Int)) = false := by simp; omega
      obtain rfl : k = N := by omega
      have hf : Hid (smallB L = decide ((k : Int) ≤ 200)) := Lib.hid (by
        unfold smallB
        rw [List.all_eq_true.2 (fun t ht => by
          obtain ⟨j, hj, rfl⟩ := List.getElem_of_mem ht
          exact decide_eq_true (hall.out j hj (by rw [HN.out]; exact hj))), Bool.and_true, ← HN.out]
        rw [Bool.eq_iff_iff]; simp; omega)
      clear hall
      go_wp2_with fail
      go_ret
      exact ⟨ret_bool hf.out.symm, rfl⟩

/-- A valid token's text. -/
theorem fmt_len (n : Int) (h0 : -9223372036854775808 ≤ n) (h1 : n ≤ 9223372036854775807) : (fmt n).length ≤ 30 := by
  obtain ⟨u, q, r, A, D, _, _, _, _, _, _, _, _, hD, hA, hDl, hf⟩ := fmt_parts n h0 h1
  have ht := (trim_props (D.drop 1)).2.2
  rw [hf]
  simp only [List.length_append, List.length_drop] at ht ⊢
  have e1 : (if n < 0 then [45] else ([] : List UInt8)).length ≤ 1 := by split <;> simp
  have e2 : (if 0 < r then 46 :: trimRightB (D.drop 1) 48 else []).length ≤ 4 := by
    split
    · simp only [List.length_cons]; omega
    · simp
  omega
theorem written_len (t : Tok) (hw : TokWf t) (h : t.text.length ≤ 200) : (Lx.written t).1.length ≤ 200 := by
  obtain ⟨k, x, n, l⟩ := t
  obtain ⟨_, h1, h2⟩ := hw
  dsimp only at *
  by_cases c3 : k = 3
  · subst c3; rw [written_3]; have := fmt_len n h1 h2; dsimp only; omega
  by_cases c4 : k = 4
  · subst c4; rw [written_4]
    dsimp only
    unfold quote
    split
    · simp
    · split
      · simp
      · have := escL_le x; simp; omega
  by_cases c1 : k = 1
  · subst c1; rw [written_1]; exact h
  by_cases c2 : k = 2
  · subst c2; rw [written_2]; exact h
  by_cases c5 : k = 5
  · subst c5; rw [written_5]; exact h
  rw [written_else k x n l c1 c2 c3 c4 c5]; simp
theorem joinT_snoc : ∀ (l : List Tok) (t : Tok), l ≠ [] → joinT (l ++ [t]) = joinT l ++ 32 :: (Lx.written t).1
  | [], _, h => absurd rfl h
  | [a], t, _ => rfl
  | a :: b :: r, t, _ => by
    have ih := joinT_snoc (b :: r) t (by simp)
    show (Lx.written a).1 ++ 32 :: joinT ((b :: r) ++ [t]) = (Lx.written a).1 ++ 32 :: joinT (b :: r) ++ 32 :: (Lx.written t).1
    rw [ih]; simp
theorem joinT_one (t : Tok) : joinT [t] = (Lx.written t).1 := rfl
theorem take_snoc' (L : List Tok) (k : Nat) (h : k < L.length) : L.take (k + 1) = L.take k ++ [L[k]] := List.take_succ_eq_append_getElem h
theorem joinT_next (L : List Tok) (k : Nat) (h : k < L.length) : joinT (L.take (k + 1)) = (if k = 0 then [] else joinT (L.take k) ++ [32]) ++ (Lx.written L[k]).1 := by
  rw [take_snoc' L k h]
  by_cases h0 : k = 0
  · subst h0; rw [if_pos rfl]; rfl
  · rw [if_neg h0, joinT_snoc _ _ (by intro e; have h2 := congrArg List.length e; rw [List.length_take, List.length_nil] at h2; omega)]; simp
theorem joinT_len (L : List Tok) (hw : ∀ t ∈ L, TokWf t) (hs : ∀ t ∈ L, t.text.length ≤ 200) : ∀ k, k ≤ L.length → (joinT (L.take k)).length ≤ 201 * k
  | 0, _ => by simp [joinT]
  | k + 1, hk => by
    have ih := joinT_len L hw hs k (by omega)
    have hl := written_len L[k] (hw _ (List.getElem_mem (by omega))) (hs _ (List.getElem_mem (by omega)))
    rw [joinT_next L k (by omega)]
    split
    · simp; omega
    · simp; omega
theorem joinT_mono (L : List Tok) : ∀ k m, k ≤ m → m ≤ L.length → (joinT (L.take k)).length ≤ (joinT (L.take m)).length
  | k, 0, h, _ => by obtain rfl : k = 0 := by omega
                     exact Nat.le_refl _
  | k, m + 1, h, hm => by
    by_cases e : k = m + 1
    · subst e; exact Nat.le_refl _
    · have ih := joinT_mono L k m (by omega) (by omega)
      rw [joinT_next L m (by omega)]
      by_cases h0 : m = 0
      · subst h0
        obtain rfl : k = 0 := by omega
        simp [joinT]
      · rw [if_neg h0]; simp; omega
end Go.Proofs.YtfnbllchebohcaaGreatDoor.Qo
