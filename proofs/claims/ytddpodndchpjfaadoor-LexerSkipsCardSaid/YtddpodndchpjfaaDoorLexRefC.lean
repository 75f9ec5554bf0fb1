/- What the document's one returns. -/
import Derived.Test.YtddpodndchpjfaaDoorLexRefB
import Derived.Test.YtddpodndchpjfaaDoorFixParseR
namespace Go.Proofs.YtddpodndchpjfaaDoor.Lx
open Go.RowKit Go.Sort Go.Lib Go.Shelf Fx

set_option maxHeartbeats 4000000 in
theorem one_word (s : ByteArray) (w : World) (h0 : 0 < s.size) (hs : s.size ≤ 16384) (hn : 0 < wordN s.data.toList) :
    Calls Tryd.prog 19 #[.string s] w fun e w' => e = .returned (nextV (oneR s.data.toList)) ∧ Ext w w' := by
  obtain ⟨n, hN⟩ : ∃ n, n = wordN s.data.toList := ⟨_, rfl⟩
  have hle : n ≤ s.size := by rw [hN, size_len]; have := scan_le (okW s.data.toList) s.data.toList.length 0; unfold wordN; omega
  have hx : oneR s.data.toList = if kw (s.extract 0 n).data.toList then (⟨2, s.data.toList.take n, 0, 0⟩, n, 0) else if 16 < n then (⟨0, [], 0, 0⟩, 0, 2) else (⟨1, s.data.toList.take n, 0, 0⟩, n, 0) := by
    unfold oneR; rw [if_pos hn, ← hN, extract_upto]
  have hw := wordR_any s (by omega)
  rw [← hN] at hw hn
  have HW := Lib.hid hw; have HX := Lib.hid hx
  clear hw hx hN
  generalize oneR s.data.toList = NX at HX ⊢
  cases hk : kw (s.extract 0 n).data.toList
  · have HK := Lib.hid hk
    by_cases h16 : 16 < n
    · have hf : Hid (NX = (⟨0, [], 0, 0⟩, 0, 2)) := Lib.hid (by rw [HX.out, hk, if_pos h16]; rfl)
      clear HX hk
      go_enter Tryd.func19, Tryd.ntmps19
      go_wp2_with fail
      refine (HW.out _).mono ?_
      rintro e w1 ⟨rfl, rfl⟩
      go_wp2_with fail
      refine (isKeywordR_any (s.extract 0 n) _).mono ?_
      rintro e w1 ⟨rfl, rfl⟩
      rw [HK.out]
      go_wp2
      go_returns
      exact ⟨ret_val (by rw [hf.out]; rfl), (Ext.refl _).alloc _⟩
    · have hf : Hid (NX = (⟨1, (s.extract 0 n).data.toList, 0, 0⟩, n, 0)) := Lib.hid (by rw [HX.out, hk, if_neg h16, extract_upto]; rfl)
      clear HX hk
      go_enter Tryd.func19, Tryd.ntmps19
      go_wp2_with fail
      refine (HW.out _).mono ?_
      rintro e w1 ⟨rfl, rfl⟩
      go_wp2_with fail
      refine (isKeywordR_any (s.extract 0 n) _).mono ?_
      rintro e w1 ⟨rfl, rfl⟩
      rw [HK.out]
      go_wp2
      go_returns
      refine ⟨ret_val (by rw [hf.out]; rfl), ?_⟩
      exact (Ext.refl _).alloc _
  · have HK := Lib.hid hk
    have hf : Hid (NX = (⟨2, (s.extract 0 n).data.toList, 0, 0⟩, n, 0)) := Lib.hid (by rw [HX.out, hk, extract_upto]; rfl)
    clear HX hk
    go_enter Tryd.func19, Tryd.ntmps19
    go_wp2_with fail
    refine (HW.out _).mono ?_
    rintro e w1 ⟨rfl, rfl⟩
    go_wp2_with fail
    refine (isKeywordR_any (s.extract 0 n) _).mono ?_
    rintro e w1 ⟨rfl, rfl⟩
    rw [HK.out]
    go_wp2
    go_returns
    refine ⟨ret_val (by rw [hf.out]; rfl), ?_⟩
    exact (Ext.refl _).alloc _

theorem parseR_n (s : ByteArray) (v c : Int) (w : World) (hs : s.size ≤ 4294967280) (h : parse s.data.toList = (v, c)) :
    Calls Tryd.prog 30 #[.string s] w fun e w' => e = .returned (.tuple #[.int .i64 v, .int .i64 c]) ∧ w = w' := by
  have := parseR_any s w hs
  rw [h] at this; exact this

set_option maxHeartbeats 4000000 in
theorem one_num (s : ByteArray) (w : World) (h0 : 0 < s.size) (hs : s.size ≤ 16384) (hn : wordN s.data.toList = 0) (hp : 0 < numR s.data.toList) :
    Calls Tryd.prog 19 #[.string s] w fun e w' => e = .returned (nextV (oneR s.data.toList)) ∧ Ext w w' := by
  obtain ⟨n, hN⟩ : ∃ n, n = numR s.data.toList := ⟨_, rfl⟩
  have hle : n ≤ s.size := by
    rw [hN, (numR_pos s.data.toList).2 hp, size_len]
    have := scan_le (okN s.data.toList) (s.data.toList.length - 1) 1; unfold numN; rw [size_len] at h0; omega
  obtain ⟨v, c, hq⟩ : ∃ v c, parse (s.extract 0 n).data.toList = (v, c) := ⟨_, _, rfl⟩
  have hx : oneR s.data.toList = (⟨3, [], v, 0⟩, n, c) := by
    have hq' : parse (s.data.toList.take n) = (v, c) := by rw [← hq, extract_upto]
    unfold oneR; rw [if_neg (by omega), if_pos hp, ← hN, hq']
  have hw := wordR_any s (by omega)
  rw [hn] at hw
  have hm := numberR_any s
  rw [← hN] at hp
  have HM : Hid (∀ w, Calls Tryd.prog 29 #[.string s] w fun e w' => e = .returned (.int .i64 n) ∧ w = w') := Lib.hid (fun w => by have := hm w h0 hs; rw [← hN] at this; exact this)
  have HW := Lib.hid hw; have hf := Lib.hid hx; have HP := Lib.hid hq
  clear hw hx hN hq hm hn
  generalize oneR s.data.toList = NX at hf ⊢
  go_enter Tryd.func19, Tryd.ntmps19
  go_wp2_with fail
  refine (HW.out _).mono ?_
  rintro e w1 ⟨rfl, rfl⟩
  go_wp2_with fail
  refine (HM.out _).mono ?_
  rintro e w1 ⟨rfl, rfl⟩
  go_wp2_with fail
  refine (parseR_n (s.extract 0 n) v c _ (by rw [show (s.extract 0 n).size = n by simp; omega]; omega) HP.out).mono ?_
  rintro e w1 ⟨rfl, rfl⟩
  go_wp2
  go_returns
  exact ⟨ret_val (by rw [hf.out]; rfl), (Ext.refl _).alloc _⟩

theorem one_rest (s : ByteArray) (hn : wordN s.data.toList = 0) (hp : numR s.data.toList = 0) : oneR s.data.toList = if bt s.data.toList 0 == 34 then
    (⟨4, (contents false [] 0 (s.data.toList.drop 1)).1, 0, 0⟩, if (contents false [] 0 (s.data.toList.drop 1)).2.2 = 0 then (contents false [] 0 (s.data.toList.drop 1)).2.1 + 1 else (contents false [] 0 (s.data.toList.drop 1)).2.1, (contents false [] 0 (s.data.toList.drop 1)).2.2)
  else if decide (1 < s.data.toList.length) && isM (s.data.toList.take 2) then (⟨5, s.data.toList.take 2, 0, 0⟩, 2, 0)
  else if isM (s.data.toList.take 1) then (⟨5, s.data.toList.take 1, 0, 0⟩, 1, 0)
  else (⟨0, [], 0, 0⟩, 0, 4) := by
  unfold oneR; rw [if_neg (by omega), if_neg (by omega)]

set_option maxHeartbeats 4000000 in
theorem one_str (s : ByteArray) (w : World) (h0 : 0 < s.size) (hs : s.size ≤ 16384) (hn : wordN s.data.toList = 0) (hp : numR s.data.toList = 0) (hq : ((s[0].toNat : Int) == 34) = true) :
    Calls Tryd.prog 19 #[.string s] w fun e w' => e = .returned (nextV (oneR s.data.toList)) ∧ Ext w w' := by
  obtain ⟨T, n, c, hT⟩ : ∃ T n c, contents false [] 0 (s.data.toList.drop 1) = (T, n, c) := ⟨_, _, _, rfl⟩
  have hx : oneR s.data.toList = (⟨4, T, 0, 0⟩, if c = 0 then n + 1 else n, c) := by
    rw [one_rest s hn hp, bt_at s 0 h0, beq_int s[0] 34, show (((34 : UInt8).toNat : Nat) : Int) = 34 from rfl, hq, if_pos rfl, hT]
  have hw := wordR_any s (by omega)
  rw [hn] at hw
  have hm := numberR_any s
  have ht := text_any s h0 (by omega)
  rw [hT] at ht
  have HM : Hid (∀ w, Calls Tryd.prog 29 #[.string s] w fun e w' => e = .returned (.int .i64 0) ∧ w = w') := Lib.hid (fun w => by have := hm w h0 hs; rw [hp] at this; exact this)
  have hv : textV (T, n, c) = .tuple #[.string ⟨T.toArray⟩, .int .i64 ((if c = 0 then n + 1 else n : Nat) : Int), .int .i64 c] := by
    unfold textV
    by_cases h : c = 0
    · rw [if_pos h, if_pos h]; rfl
    · rw [if_neg h, if_neg h]
  rw [hv] at ht
  have HW := Lib.hid hw; have hf := Lib.hid hx; have HTX := Lib.hid ht
  clear hw hx hm ht hT hn hp hv
  generalize oneR s.data.toList = NX at hf ⊢
  generalize (if c = 0 then n + 1 else n : Nat) = n' at hf HTX
  go_enter Tryd.func19, Tryd.ntmps19
  go_wp2_with fail
  refine (HW.out _).mono ?_
  rintro e w1 ⟨rfl, rfl⟩
  go_wp2_with fail
  refine (HM.out _).mono ?_
  rintro e w1 ⟨rfl, rfl⟩
  go_wp2_with fail
  refine (HTX.out _).mono ?_
  rintro e w1 ⟨rfl, rfl⟩
  go_wp2
  go_returns
  exact ⟨ret_val (by rw [hf.out]; rfl), (Ext.refl _).alloc _⟩

theorem isM_n (s : ByteArray) (k : Nat) (b : Bool) (h : isM (s.data.toList.take k) = b) (w : World) : Calls Tryd.prog 32 #[.string (s.extract 0 k)] w fun e w' => e = .returned (.bool b) ∧ w = w' := by
  have e : (s.extract 0 k).data.toList = s.data.toList.take k := by rw [extract_upto]
  have := isMark_any (s.extract 0 k) w
  rw [e, h] at this; exact this

set_option maxHeartbeats 8000000 in
theorem one_mark (s : ByteArray) (w : World) (h0 : 0 < s.size) (hs : s.size ≤ 16384) (hn : wordN s.data.toList = 0) (hp : numR s.data.toList = 0) (hq : ((s[0].toNat : Int) == 34) = false) :
    Calls Tryd.prog 19 #[.string s] w fun e w' => e = .returned (nextV (oneR s.data.toList)) ∧ Ext w w' := by
  have hx : oneR s.data.toList = if decide (1 < s.size) && isM (s.data.toList.take 2) then (⟨5, (s.extract 0 2).data.toList, 0, 0⟩, 2, 0)
      else if isM (s.data.toList.take 1) then (⟨5, (s.extract 0 1).data.toList, 0, 0⟩, 1, 0) else (⟨0, [], 0, 0⟩, 0, 4) := by
    rw [one_rest s hn hp, bt_at s 0 h0, beq_int s[0] 34, show (((34 : UInt8).toNat : Nat) : Int) = 34 from rfl, hq, if_neg (by simp), extract_upto, extract_upto, size_len]
  have hw := wordR_any s (by omega)
  rw [hn] at hw
  have hm := numberR_any s
  have HM : Hid (∀ w, Calls Tryd.prog 29 #[.string s] w fun e w' => e = .returned (.int .i64 0) ∧ w = w') := Lib.hid (fun w => by have := hm w h0 hs; rw [hp] at this; exact this)
  have h2 := isM_n s 2
  have h1 := isM_n s 1
  generalize isM (s.data.toList.take 2) = b2 at hx h2
  generalize isM (s.data.toList.take 1) = b1 at hx h1
  have h2 := h2 b2 rfl
  have h1 := h1 b1 rfl
  have HW := Lib.hid hw; have H1 := Lib.hid h1; have H2 := Lib.hid h2
  clear hw hm hn hp h1 h2
  generalize oneR s.data.toList = NX at hx ⊢
  have e2 : 1 < s.size → s.extract 0 2 = ⟨(s.extract 0 2).data.toList.toArray⟩ := fun _ => rfl
  by_cases hl : 1 < s.size
  · rw [decide_eq_true hl, Bool.true_and] at hx
    cases b2
    · cases b1
      all_goals
        have hf := Lib.hid hx
        clear hx e2
        go_enter Tryd.func19, Tryd.ntmps19
        go_wp2_with fail
        refine (HW.out _).mono ?_
        rintro e w1 ⟨rfl, rfl⟩
        go_wp2_with fail
        refine (HM.out _).mono ?_
        rintro e w1 ⟨rfl, rfl⟩
        go_wp2_with fail
        refine (H2.out _).mono ?_
        rintro e w1 ⟨rfl, rfl⟩
        go_wp2_with fail
        refine (H1.out _).mono ?_
        rintro e w1 ⟨rfl, rfl⟩
        go_wp2
        go_returns
        exact ⟨ret_val (by rw [hf.out]; rfl), (Ext.refl _).alloc _⟩
    · have hf := Lib.hid hx
      clear hx e2
      go_enter Tryd.func19, Tryd.ntmps19
      go_wp2_with fail
      refine (HW.out _).mono ?_
      rintro e w1 ⟨rfl, rfl⟩
      go_wp2_with fail
      refine (HM.out _).mono ?_
      rintro e w1 ⟨rfl, rfl⟩
      go_wp2_with fail
      refine (H2.out _).mono ?_
      rintro e w1 ⟨rfl, rfl⟩
      go_wp2
      go_returns
      exact ⟨ret_val (by rw [hf.out]; rfl), (Ext.refl _).alloc _⟩
  · rw [decide_eq_false hl, Bool.false_and] at hx
    cases b1
    all_goals
      have hf := Lib.hid hx
      clear hx e2
      go_enter Tryd.func19, Tryd.ntmps19
      go_wp2_with fail
      refine (HW.out _).mono ?_
      rintro e w1 ⟨rfl, rfl⟩
      go_wp2_with fail
      refine (HM.out _).mono ?_
      rintro e w1 ⟨rfl, rfl⟩
      go_wp2_with fail
      refine (H1.out _).mono ?_
      rintro e w1 ⟨rfl, rfl⟩
      go_wp2
      go_returns
      exact ⟨ret_val (by rw [hf.out]; rfl), (Ext.refl _).alloc _⟩

theorem one_any (s : ByteArray) (w : World) (h0 : 0 < s.size) (hs : s.size ≤ 16384) :
    Calls Tryd.prog 19 #[.string s] w fun e w' => e = .returned (nextV (oneR s.data.toList)) ∧ Ext w w' := by
  rcases Nat.eq_zero_or_pos (wordN s.data.toList) with hn | hn
  · rcases Nat.eq_zero_or_pos (numR s.data.toList) with hp | hp
    · cases hq : ((s[0].toNat : Int) == 34)
      · exact one_mark s w h0 hs hn hp hq
      · exact one_str s w h0 hs hn hp hq
    · exact one_num s w h0 hs hn hp
  · exact one_word s w h0 hs hn
end Go.Proofs.YtddpodndchpjfaaDoor.Lx
