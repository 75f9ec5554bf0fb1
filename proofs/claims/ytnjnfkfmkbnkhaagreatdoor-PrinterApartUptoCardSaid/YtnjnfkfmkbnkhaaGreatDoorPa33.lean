/- Packed texts: LexRefB, LexRefC, LexRefD -/
import Derived.Test.YtnjnfkfmkbnkhaaGreatDoorPa11
import Derived.Test.YtnjnfkfmkbnkhaaGreatDoorPa20
import Derived.Test.YtnjnfkfmkbnkhaaGreatDoorPa08
import Derived.Test.YtnjnfkfmkbnkhaaGreatDoorPa32
import Derived.Test.YtnjnfkfmkbnkhaaGreatDoorPa05
set_option linter.unusedVariables false
set_option linter.unusedSimpArgs false
/- What the document's number and one return. -/
namespace Go.Proofs.YtnjnfkfmkbnkhaaGreatDoor.Lx
open Go.RowKit Go.Sort Go.Lib Go.Shelf Fx



theorem numR_of (s : ByteArray) (h0 : 0 < s.size) (hd : isD s[0] = true) : numR s.data.toList = scan (okN s.data.toList) (s.size - 0) 0 := by
  unfold numR
  rw [bt_at s 0 h0, hd, Bool.true_or, if_pos rfl, scan_step _ _ _ h0]
  have : okN s.data.toList 0 = true := by unfold okN; rw [bt_at s 0 h0, hd]; simp
  rw [this, if_pos rfl]
  unfold numN; rw [size_len]
theorem numR_of2 (s : ByteArray) (h0 : 0 < s.size) (h45 : ((s[0].toNat : Int) == 45) = true) (h1 : 1 < s.size) (hd : isD s[1] = true) : numR s.data.toList = scan (okN s.data.toList) (s.size - 1) 1 := by
  unfold numR
  rw [bt_at s 0 h0, bt_at s 1 h1, hd, beq_int s[0] 45, show (((45 : UInt8).toNat : Nat) : Int) = 45 from rfl, h45, decide_eq_true (by rw [← size_len]; exact h1)]
  rw [if_pos (by simp)]
  unfold numN; rw [size_len]
theorem numR_no (s : ByteArray) (h0 : 0 < s.size) (hd : isD s[0] = false) (hm : ((s[0].toNat : Int) == 45) = false ∨ s.size ≤ 1 ∨ ∃ h1 : 1 < s.size, isD s[1] = false) : numR s.data.toList = 0 := by
  unfold numR
  rw [bt_at s 0 h0, hd, Bool.false_or, if_neg]
  rcases hm with hm | hm | ⟨h1, hm⟩
  · rw [beq_int s[0] 45, show (((45 : UInt8).toNat : Nat) : Int) = 45 from rfl, hm]; simp
  · rw [decide_eq_false (show ¬ 1 < s.data.toList.length by rw [← size_len]; omega)]; simp
  · rw [bt_at s 1 h1, hm]; simp

theorem digR (s : ByteArray) (b : Bool) (k : Nat) (hk : k < s.size) (h : isD s[k] = b) (w : World) : Calls Tryz.prog 88 #[.int .u8 s[k].toNat] w fun e w' => e = .returned (.bool b) ∧ w = w' := by
  have := digitR_any s[k] w; rw [h] at this; exact this
theorem letR (s : ByteArray) (b : Bool) (k : Nat) (hk : k < s.size) (h : isL s[k] = b) (w : World) : Calls Tryz.prog 87 #[.int .u8 s[k].toNat] w fun e w' => e = .returned (.bool b) ∧ w = w' := by
  have := letterR_any s[k] w; rw [h] at this; exact this

set_option maxHeartbeats 8000000 in
theorem numberR_any (s : ByteArray) (w : World) (h0 : 0 < s.size) (hs : s.size ≤ 16384) :
    Calls Tryz.prog 60 #[.string s] w fun e w' => e = .returned (.int .i64 (numR s.data.toList)) ∧ w = w' := by
  obtain ⟨n, hN⟩ : ∃ n, n = numR s.data.toList := ⟨_, rfl⟩
  cases hd : isD s[0]
  · have HD := Lib.hid hd
    by_cases h45 : ((s[0].toNat : Int) == 45) = true
    · by_cases h1 : 1 < s.size
      · cases hd1 : isD s[1]
        · have hf : Hid (n = 0) := Lib.hid (by rw [hN]; exact numR_no s h0 hd (.inr (.inr ⟨h1, hd1⟩)))
          have HD1 := Lib.hid hd1
          rw [← hN]
          clear hN hd hd1
          go_enter Tryz.func60, Tryz.ntmps60
          go_wp2_with fail
          refine (digR s false 1 h1 HD1.out _).mono ?_
          rintro e w1 ⟨rfl, rfl⟩
          go_wp2_with fail
          refine (digR s false 0 h0 HD.out _).mono ?_
          rintro e w1 ⟨rfl, rfl⟩
          go_wp2
          go_ret
          exact ⟨ret_int (by rw [hf.out]; rfl), rfl⟩
        · have HSC := Lib.hid (hN.trans (numR_of2 s h0 h45 h1 hd1))
          have HD1 := Lib.hid hd1
          rw [← hN]
          clear hN hd hd1
          go_enter Tryz.func60, Tryz.ntmps60
          go_wp2_with fail
          refine (digR s true 1 h1 HD1.out _).mono ?_
          rintro e w1 ⟨rfl, rfl⟩
          go_wp2_with fail
          refine (digR s true 1 h1 HD1.out _).mono ?_
          rintro e w1 ⟨rfl, rfl⟩
          go_wp2_with fail
          go_loop [3] (fun v' => ∃ k : Nat, k ≤ s.size ∧ Hid (n = scan (okN s.data.toList) (s.size - k) k) ∧ v' = .int .i64 k) (fun v' => s.size - (RowKit.intOf v').toNat)
          case atStart => exact ⟨1, by omega, HSC, rfl⟩
          case round =>
            obtain ⟨k, hk, ha, rfl⟩ := hrel
            clear HSC
            by_cases hlt : k < s.size
            · have hst := ha.out
              rw [scan_step _ _ _ hlt] at hst
              have hok : okN s.data.toList k = (isL s[k] || isD s[k] || s[k] == 46) := by unfold okN; rw [bt_at s k hlt]
              rw [hok] at hst
              have HS := Lib.hid hst; clear hst hok ha
              by_cases c1 : isL s[k] = true
              · have HF : Hid (n = scan (okN s.data.toList) (s.size - (k + 1)) (k + 1)) := Lib.hid (by rw [HS.out, c1]; rfl)
                have HC1 := Lib.hid c1
                clear HS c1
                go_wp2_with fail
                refine (letR s true k hlt HC1.out _).mono ?_
                rintro e w1 ⟨rfl, rfl⟩
                go_wp2
                go_round
                case rel => exact ⟨k + 1, by omega, HF, by go_num⟩
                case measure => simp [RowKit.intOf]; omega
              · have c1' : isL s[k] = false := by simpa using c1
                clear c1
                by_cases c2 : isD s[k] = true
                · have HF : Hid (n = scan (okN s.data.toList) (s.size - (k + 1)) (k + 1)) := Lib.hid (by rw [HS.out, c1', c2]; rfl)
                  have HC1 := Lib.hid c1'; have HC2 := Lib.hid c2
                  clear HS c1' c2
                  go_wp2_with fail
                  refine (letR s false k hlt HC1.out _).mono ?_
                  rintro e w1 ⟨rfl, rfl⟩
                  go_wp2_with fail
                  refine (digR s true k hlt HC2.out _).mono ?_
                  rintro e w1 ⟨rfl, rfl⟩
                  go_wp2
                  go_round
                  case rel => exact ⟨k + 1, by omega, HF, by go_num⟩
                  case measure => simp [RowKit.intOf]; omega
                · have c2' : isD s[k] = false := by simpa using c2
                  clear c2
                  by_cases c3 : s[k] = 46
                  · have HF : Hid (n = scan (okN s.data.toList) (s.size - (k + 1)) (k + 1)) := Lib.hid (by rw [HS.out, c1', c2', c3]; rfl)
                    have b46 : ((s[k].toNat : Int) == 46) = true := by rw [c3]; rfl
                    have HC1 := Lib.hid c1'; have HC2 := Lib.hid c2'
                    clear HS c1' c2' c3
                    go_wp2_with fail
                    refine (letR s false k hlt HC1.out _).mono ?_
                    rintro e w1 ⟨rfl, rfl⟩
                    go_wp2_with fail
                    refine (digR s false k hlt HC2.out _).mono ?_
                    rintro e w1 ⟨rfl, rfl⟩
                    go_wp2
                    go_round
                    case rel => exact ⟨k + 1, by omega, HF, by go_num⟩
                    case measure => simp [RowKit.intOf]; omega
                  · have c3' : (s[k] == 46) = false := by simpa using c3
                    have HF : Hid (n = k) := Lib.hid (by rw [HS.out, c1', c2', c3']; rfl)
                    have b46 : ((s[k].toNat : Int) == 46) = false := by rw [beq_eq_false_iff_ne]; intro e; exact c3 (UInt8.toNat_inj.1 (by have e48 : (46 : UInt8).toNat = 46 := rfl; omega))
                    have HC1 := Lib.hid c1'; have HC2 := Lib.hid c2'
                    clear HS c1' c2' c3 c3'
                    go_wp2_with fail
                    refine (letR s false k hlt HC1.out _).mono ?_
                    rintro e w1 ⟨rfl, rfl⟩
                    go_wp2_with fail
                    refine (digR s false k hlt HC2.out _).mono ?_
                    rintro e w1 ⟨rfl, rfl⟩
                    go_wp2
                    go_ret
                    exact ⟨ret_int (by rw [HF.out]), rfl⟩
            · have HF : Hid (n = k) := Lib.hid (by rw [ha.out, show s.size - k = 0 by omega]; rfl)
              clear ha
              go_wp2
              go_ret
              exact ⟨ret_int (by rw [HF.out]), rfl⟩
      · have hf : Hid (n = 0) := Lib.hid (by rw [hN]; exact numR_no s h0 hd (.inr (.inl (by omega))))
        rw [← hN]
        clear hN hd
        go_enter Tryz.func60, Tryz.ntmps60
        go_wp2_with fail
        refine (digR s false 0 h0 HD.out _).mono ?_
        rintro e w1 ⟨rfl, rfl⟩
        go_wp2
        go_ret
        exact ⟨ret_int (by rw [hf.out]; rfl), rfl⟩
    · have h45' : ((s[0].toNat : Int) == 45) = false := by simpa using h45
      have hf : Hid (n = 0) := Lib.hid (by rw [hN]; exact numR_no s h0 hd (.inl h45'))
      rw [← hN]
      clear hN hd h45
      go_enter Tryz.func60, Tryz.ntmps60
      go_wp2_with fail
      all_goals
        refine (digR s false 0 h0 HD.out _).mono ?_
        rintro e w1 ⟨rfl, rfl⟩
        go_wp2
        go_ret
        exact ⟨ret_int (by rw [hf.out]; rfl), rfl⟩
  · have HSC := Lib.hid (hN.trans (numR_of s h0 hd))
    have h45 : ((s[0].toNat : Int) == 45) = false := by
      unfold isD at hd
      rw [decide_eq_true_eq] at hd
      rw [beq_eq_false_iff_ne]; omega
    have HD := Lib.hid hd
    rw [← hN]
    clear hN hd
    by_cases h1 : 1 < s.size
    all_goals
      go_enter Tryz.func60, Tryz.ntmps60
      go_wp2_with fail
      refine (digR s true 0 h0 HD.out _).mono ?_
      rintro e w1 ⟨rfl, rfl⟩
      go_wp2_with fail
      go_loop [3] (fun v' => ∃ k : Nat, k ≤ s.size ∧ Hid (n = scan (okN s.data.toList) (s.size - k) k) ∧ v' = .int .i64 k) (fun v' => s.size - (RowKit.intOf v').toNat)
      case atStart => exact ⟨0, by omega, HSC, rfl⟩
      case round =>
        obtain ⟨k, hk, ha, rfl⟩ := hrel
        clear HSC
        by_cases hlt : k < s.size
        · have hst := ha.out
          rw [scan_step _ _ _ hlt] at hst
          have hok : okN s.data.toList k = (isL s[k] || isD s[k] || s[k] == 46) := by unfold okN; rw [bt_at s k hlt]
          rw [hok] at hst
          have HS := Lib.hid hst; clear hst hok ha
          by_cases c1 : isL s[k] = true
          · have HF : Hid (n = scan (okN s.data.toList) (s.size - (k + 1)) (k + 1)) := Lib.hid (by rw [HS.out, c1]; rfl)
            have HC1 := Lib.hid c1
            clear HS c1
            go_wp2_with fail
            refine (letR s true k hlt HC1.out _).mono ?_
            rintro e w1 ⟨rfl, rfl⟩
            go_wp2
            go_round
            case rel => exact ⟨k + 1, by omega, HF, by go_num⟩
            case measure => simp [RowKit.intOf]; omega
          · have c1' : isL s[k] = false := by simpa using c1
            clear c1
            by_cases c2 : isD s[k] = true
            · have HF : Hid (n = scan (okN s.data.toList) (s.size - (k + 1)) (k + 1)) := Lib.hid (by rw [HS.out, c1', c2]; rfl)
              have HC1 := Lib.hid c1'; have HC2 := Lib.hid c2
              clear HS c1' c2
              go_wp2_with fail
              refine (letR s false k hlt HC1.out _).mono ?_
              rintro e w1 ⟨rfl, rfl⟩
              go_wp2_with fail
              refine (digR s true k hlt HC2.out _).mono ?_
              rintro e w1 ⟨rfl, rfl⟩
              go_wp2
              go_round
              case rel => exact ⟨k + 1, by omega, HF, by go_num⟩
              case measure => simp [RowKit.intOf]; omega
            · have c2' : isD s[k] = false := by simpa using c2
              clear c2
              by_cases c3 : s[k] = 46
              · have HF : Hid (n = scan (okN s.data.toList) (s.size - (k + 1)) (k + 1)) := Lib.hid (by rw [HS.out, c1', c2', c3]; rfl)
                have b46 : ((s[k].toNat : Int) == 46) = true := by rw [c3]; rfl
                have HC1 := Lib.hid c1'; have HC2 := Lib.hid c2'
                clear HS c1' c2' c3
                go_wp2_with fail
                refine (letR s false k hlt HC1.out _).mono ?_
                rintro e w1 ⟨rfl, rfl⟩
                go_wp2_with fail
                refine (digR s false k hlt HC2.out _).mono ?_
                rintro e w1 ⟨rfl, rfl⟩
                go_wp2
                go_round
                case rel => exact ⟨k + 1, by omega, HF, by go_num⟩
                case measure => simp [RowKit.intOf]; omega
              · have c3' : (s[k] == 46) = false := by simpa using c3
                have HF : Hid (n = k) := Lib.hid (by rw [HS.out, c1', c2', c3']; rfl)
                have b46 : ((s[k].toNat : Int) == 46) = false := by rw [beq_eq_false_iff_ne]; intro e; exact c3 (UInt8.toNat_inj.1 (by have e48 : (46 : UInt8).toNat = 46 := rfl; omega))
                have HC1 := Lib.hid c1'; have HC2 := Lib.hid c2'
                clear HS c1' c2' c3 c3'
                go_wp2_with fail
                refine (letR s false k hlt HC1.out _).mono ?_
                rintro e w1 ⟨rfl, rfl⟩
                go_wp2_with fail
                refine (digR s false k hlt HC2.out _).mono ?_
                rintro e w1 ⟨rfl, rfl⟩
                go_wp2
                go_ret
                exact ⟨ret_int (by rw [HF.out]), rfl⟩
        · have HF : Hid (n = k) := Lib.hid (by rw [ha.out, show s.size - k = 0 by omega]; rfl)
          clear ha
          go_wp2
          go_ret
          exact ⟨ret_int (by rw [HF.out]), rfl⟩
end Go.Proofs.YtnjnfkfmkbnkhaaGreatDoor.Lx

/- What the document's one returns. -/
namespace Go.Proofs.YtnjnfkfmkbnkhaaGreatDoor.Lx
open Go.RowKit Go.Sort Go.Lib Go.Shelf Fx

set_option maxHeartbeats 4000000 in
theorem one_word (s : ByteArray) (w : World) (h0 : 0 < s.size) (hs : s.size ≤ 16384) (hn : 0 < wordN s.data.toList) :
    Calls Tryz.prog 33 #[.string s] w fun e w' => e = .returned (nextV (oneR s.data.toList)) ∧ Ext w w' := by
  obtain ⟨n, hN⟩ : ∃ n, n = wordN s.data.toList := ⟨_, rfl⟩
  have hle : n ≤ s.size := by rw [hN, size_len]; have := scan_le (okW s.data.toList) s.data.toList.length 0; unfold wordN; omega
  have hx : oneR s.data.toList = if kw (s.extract 0 n).data.toList then (⟨2, s.data.toList.take n, 0, 0⟩, n, 0) else if 16 < n then (⟨0, [], 0, 0⟩, 0, 2) else (⟨1, s.data.toList.take n, 0, 0⟩, n, 0) := by
    unfold oneR; rw [if_pos hn, ← hN, extract_upto]
  have hw := wordR_any s (by omega)
  rw [← hN] at hw hn
  have HW := Lib.hid hw; have HX := Lib.hid hx
  clear hw hx hN
  generalize oneR s.data.toList = NX at HX ⊢
  cases hk : kw (s.extract 0 n).data.toList
  · have HK := Lib.hid hk
    by_cases h16 : 16 < n
    · have hf : Hid (NX = (⟨0, [], 0, 0⟩, 0, 2)) := Lib.hid (by rw [HX.out, hk, if_pos h16]; rfl)
      clear HX hk
      go_enter Tryz.func33, Tryz.ntmps33
      go_wp2_with fail
      refine (HW.out _).mono ?_
      rintro e w1 ⟨rfl, rfl⟩
      go_wp2_with fail
      refine (isKeywordR_any (s.extract 0 n) _).mono ?_
      rintro e w1 ⟨rfl, rfl⟩
      rw [HK.out]
      go_wp2
      go_returns
      exact ⟨ret_val (by rw [hf.out]; rfl), (Ext.refl _).alloc _⟩
    · have hf : Hid (NX = (⟨1, (s.extract 0 n).data.toList, 0, 0⟩, n, 0)) := Lib.hid (by rw [HX.out, hk, if_neg h16, extract_upto]; rfl)
      clear HX hk
      go_enter Tryz.func33, Tryz.ntmps33
      go_wp2_with fail
      refine (HW.out _).mono ?_
      rintro e w1 ⟨rfl, rfl⟩
      go_wp2_with fail
      refine (isKeywordR_any (s.extract 0 n) _).mono ?_
      rintro e w1 ⟨rfl, rfl⟩
      rw [HK.out]
      go_wp2
      go_returns
      refine ⟨ret_val (by rw [hf.out]; rfl), ?_⟩
      exact (Ext.refl _).alloc _
  · have HK := Lib.hid hk
    have hf : Hid (NX = (⟨2, (s.extract 0 n).data.toList, 0, 0⟩, n, 0)) := Lib.hid (by rw [HX.out, hk, extract_upto]; rfl)
    clear HX hk
    go_enter Tryz.func33, Tryz.ntmps33
    go_wp2_with fail
    refine (HW.out _).mono ?_
    rintro e w1 ⟨rfl, rfl⟩
    go_wp2_with fail
    refine (isKeywordR_any (s.extract 0 n) _).mono ?_
    rintro e w1 ⟨rfl, rfl⟩
    rw [HK.out]
    go_wp2
    go_returns
    refine ⟨ret_val (by rw [hf.out]; rfl), ?_⟩
    exact (Ext.refl _).alloc _

theorem parseR_n (s : ByteArray) (v c : Int) (w : World) (hs : s.size ≤ 4294967280) (h : parse s.data.toList = (v, c)) :
    Calls Tryz.prog 61 #[.string s] w fun e w' => e = .returned (.tuple #[.int .i64 v, .int .i64 c]) ∧ w = w' := by
  have := parseR_any s w hs
  rw [h] at this; exact this

set_option maxHeartbeats 4000000 in
theorem one_num (s : ByteArray) (w : World) (h0 : 0 < s.size) (hs : s.size ≤ 16384) (hn : wordN s.data.toList = 0) (hp : 0 < numR s.data.toList) :
    Calls Tryz.prog 33 #[.string s] w fun e w' => e = .returned (nextV (oneR s.data.toList)) ∧ Ext w w' := by
  obtain ⟨n, hN⟩ : ∃ n, n = numR s.data.toList := ⟨_, rfl⟩
  have hle : n ≤ s.size := by
    rw [hN, (numR_pos s.data.toList).2 hp, size_len]
    have := scan_le (okN s.data.toList) (s.data.toList.length - 1) 1; unfold numN; rw [size_len] at h0; omega
  obtain ⟨v, c, hq⟩ : ∃ v c, parse (s.extract 0 n).data.toList = (v, c) := ⟨_, _, rfl⟩
  have hx : oneR s.data.toList = (⟨3, [], v, 0⟩, n, c) := by
    have hq' : parse (s.data.toList.take n) = (v, c) := by rw [← hq, extract_upto]
    unfold oneR; rw [if_neg (by omega), if_pos hp, ← hN, hq']
  have hw := wordR_any s (by omega)
  rw [hn] at hw
  have hm := numberR_any s
  rw [← hN] at hp
  have HM : Hid (∀ w, Calls Tryz.prog 60 #[.string s] w fun e w' => e = .returned (.int .i64 n) ∧ w = w') := Lib.hid (fun w => by have := hm w h0 hs; rw [← hN] at this; exact this)
  have HW := Lib.hid hw; have hf := Lib.hid hx; have HP := Lib.hid hq
  clear hw hx hN hq hm hn
  generalize oneR s.data.toList = NX at hf ⊢
  go_enter Tryz.func33, Tryz.ntmps33
  go_wp2_with fail
  refine (HW.out _).mono ?_
  rintro e w1 ⟨rfl, rfl⟩
  go_wp2_with fail
  refine (HM.out _).mono ?_
  rintro e w1 ⟨rfl, rfl⟩
  go_wp2_with fail
  refine (parseR_n (s.extract 0 n) v c _ (by rw [show (s.extract 0 n).size = n by simp; omega]; omega) HP.out).mono ?_
  rintro e w1 ⟨rfl, rfl⟩
  go_wp2
  go_returns
  exact ⟨ret_val (by rw [hf.out]; rfl), (Ext.refl _).alloc _⟩

theorem one_rest (s : ByteArray) (hn : wordN s.data.toList = 0) (hp : numR s.data.toList = 0) : oneR s.data.toList = if bt s.data.toList 0 == 34 then
    (⟨4, (contents false [] 0 (s.data.toList.drop 1)).1, 0, 0⟩, if (contents false [] 0 (s.data.toList.drop 1)).2.2 = 0 then (contents false [] 0 (s.data.toList.drop 1)).2.1 + 1 else (contents false [] 0 (s.data.toList.drop 1)).2.1, (contents false [] 0 (s.data.toList.drop 1)).2.2)
  else if decide (1 < s.data.toList.length) && isM (s.data.toList.take 2) then (⟨5, s.data.toList.take 2, 0, 0⟩, 2, 0)
  else if isM (s.data.toList.take 1) then (⟨5, s.data.toList.take 1, 0, 0⟩, 1, 0)
  else (⟨0, [], 0, 0⟩, 0, 4) := by
  unfold oneR; rw [if_neg (by omega), if_neg (by omega)]

set_option maxHeartbeats 4000000 in
theorem one_str (s : ByteArray) (w : World) (h0 : 0 < s.size) (hs : s.size ≤ 16384) (hn : wordN s.data.toList = 0) (hp : numR s.data.toList = 0) (hq : ((s[0].toNat : Int) == 34) = true) :
    Calls Tryz.prog 33 #[.string s] w fun e w' => e = .returned (nextV (oneR s.data.toList)) ∧ Ext w w' := by
  obtain ⟨T, n, c, hT⟩ : ∃ T n c, contents false [] 0 (s.data.toList.drop 1) = (T, n, c) := ⟨_, _, _, rfl⟩
  have hx : oneR s.data.toList = (⟨4, T, 0, 0⟩, if c = 0 then n + 1 else n, c) := by
    rw [one_rest s hn hp, bt_at s 0 h0, beq_int s[0] 34, show (((34 : UInt8).toNat : Nat) : Int) = 34 from rfl, hq, if_pos rfl, hT]
  have hw := wordR_any s (by omega)
  rw [hn] at hw
  have hm := numberR_any s
  have ht := text_any s h0 (by omega)
  rw [hT] at ht
  have HM : Hid (∀ w, Calls Tryz.prog 60 #[.string s] w fun e w' => e = .returned (.int .i64 0) ∧ w = w') := Lib.hid (fun w => by have := hm w h0 hs; rw [hp] at this; exact this)
  have hv : textV (T, n, c) = .tuple #[.string ⟨T.toArray⟩, .int .i64 ((if c = 0 then n + 1 else n : Nat) : Int), .int .i64 c] := by
    unfold textV
    by_cases h : c = 0
    · rw [if_pos h, if_pos h]; rfl
    · rw [if_neg h, if_neg h]
  rw [hv] at ht
  have HW := Lib.hid hw; have hf := Lib.hid hx; have HTX := Lib.hid ht
  clear hw hx hm ht hT hn hp hv
  generalize oneR s.data.toList = NX at hf ⊢
  generalize (if c = 0 then n + 1 else n : Nat) = n' at hf HTX
  go_enter Tryz.func33, Tryz.ntmps33
  go_wp2_with fail
  refine (HW.out _).mono ?_
  rintro e w1 ⟨rfl, rfl⟩
  go_wp2_with fail
  refine (HM.out _).mono ?_
  rintro e w1 ⟨rfl, rfl⟩
  go_wp2_with fail
  refine (HTX.out _).mono ?_
  rintro e w1 ⟨rfl, rfl⟩
  go_wp2
  go_returns
  exact ⟨ret_val (by rw [hf.out]; rfl), (Ext.refl _).alloc _⟩

theorem isM_n (s : ByteArray) (k : Nat) (b : Bool) (h : isM (s.data.toList.take k) = b) (w : World) : Calls Tryz.prog 63 #[.string (s.extract 0 k)] w fun e w' => e = .returned (.bool b) ∧ w = w' := by
  have e : (s.extract 0 k).data.toList = s.data.toList.take k := by rw [extract_upto]
  have := isMark_any (s.extract 0 k) w
  rw [e, h] at this; exact this

set_option maxHeartbeats 8000000 in
theorem one_mark (s : ByteArray) (w : World) (h0 : 0 < s.size) (hs : s.size ≤ 16384) (hn : wordN s.data.toList = 0) (hp : numR s.data.toList = 0) (hq : ((s[0].toNat : Int) == 34) = false) :
    Calls Tryz.prog 33 #[.string s] w fun e w' => e = .returned (nextV (oneR s.data.toList)) ∧ Ext w w' := by
  have hx : oneR s.data.toList = if decide (1 < s.size) && isM (s.data.toList.take 2) then (⟨5, (s.extract 0 2).data.toList, 0, 0⟩, 2, 0)
      else if isM (s.data.toList.take 1) then (⟨5, (s.extract 0 1).data.toList, 0, 0⟩, 1, 0) else (⟨0, [], 0, 0⟩, 0, 4) := by
    rw [one_rest s hn hp, bt_at s 0 h0, beq_int s[0] 34, show (((34 : UInt8).toNat : Nat) : Int) = 34 from rfl, hq, if_neg (by simp), extract_upto, extract_upto, size_len]
  have hw := wordR_any s (by omega)
  rw [hn] at hw
  have hm := numberR_any s
  have HM : Hid (∀ w, Calls Tryz.prog 60 #[.string s] w fun e w' => e = .returned (.int .i64 0) ∧ w = w') := Lib.hid (fun w => by have := hm w h0 hs; rw [hp] at this; exact this)
  have h2 := isM_n s 2
  have h1 := isM_n s 1
  generalize isM (s.data.toList.take 2) = b2 at hx h2
  generalize isM (s.data.toList.take 1) = b1 at hx h1
  have h2 := h2 b2 rfl
  have h1 := h1 b1 rfl
  have HW := Lib.hid hw; have H1 := Lib.hid h1; have H2 := Lib.hid h2
  clear hw hm hn hp h1 h2
  generalize oneR s.data.toList = NX at hx ⊢
  have e2 : 1 < s.size → s.extract 0 2 = ⟨(s.extract 0 2).data.toList.toArray⟩ := fun _ => rfl
  by_cases hl : 1 < s.size
  · rw [decide_eq_true hl, Bool.true_and] at hx
    cases b2
    · cases b1
      all_goals
        have hf := Lib.hid hx
        clear hx e2
        go_enter Tryz.func33, Tryz.ntmps33
        go_wp2_with fail
        refine (HW.out _).mono ?_
        rintro e w1 ⟨rfl, rfl⟩
        go_wp2_with fail
        refine (HM.out _).mono ?_
        rintro e w1 ⟨rfl, rfl⟩
        go_wp2_with fail
        refine (H2.out _).mono ?_
        rintro e w1 ⟨rfl, rfl⟩
        go_wp2_with fail
        refine (H1.out _).mono ?_
        rintro e w1 ⟨rfl, rfl⟩
        go_wp2
        go_returns
        exact ⟨ret_val (by rw [hf.out]; rfl), (Ext.refl _).alloc _⟩
    · have hf := Lib.hid hx
      clear hx e2
      go_enter Tryz.func33, Tryz.ntmps33
      go_wp2_with fail
      refine (HW.out _).mono ?_
      rintro e w1 ⟨rfl, rfl⟩
      go_wp2_with fail
      refine (HM.out _).mono ?_
      rintro e w1 ⟨rfl, rfl⟩
      go_wp2_with fail
      refine (H2.out _).mono ?_
      rintro e w1 ⟨rfl, rfl⟩
      go_wp2
      go_returns
      exact ⟨ret_val (by rw [hf.out]; rfl), (Ext.refl _).alloc _⟩
  · rw [decide_eq_false hl, Bool.false_and] at hx
    cases b1
    all_goals
      have hf := Lib.hid hx
      clear hx e2
      go_enter Tryz.func33, Tryz.ntmps33
      go_wp2_with fail
      refine (HW.out _).mono ?_
      rintro e w1 ⟨rfl, rfl⟩
      go_wp2_with fail
      refine (HM.out _).mono ?_
      rintro e w1 ⟨rfl, rfl⟩
      go_wp2_with fail
      refine (H1.out _).mono ?_
      rintro e w1 ⟨rfl, rfl⟩
      go_wp2
      go_returns
      exact ⟨ret_val (by rw [hf.out]; rfl), (Ext.refl _).alloc _⟩

theorem one_any (s : ByteArray) (w : World) (h0 : 0 < s.size) (hs : s.size ≤ 16384) :
    Calls Tryz.prog 33 #[.string s] w fun e w' => e = .returned (nextV (oneR s.data.toList)) ∧ Ext w w' := by
  rcases Nat.eq_zero_or_pos (wordN s.data.toList) with hn | hn
  · rcases Nat.eq_zero_or_pos (numR s.data.toList) with hp | hp
    · cases hq : ((s[0].toNat : Int) == 34)
      · exact one_mark s w h0 hs hn hp hq
      · exact one_str s w h0 hs hn hp hq
    · exact one_num s w h0 hs hn hp
  · exact one_word s w h0 hs hn
end Go.Proofs.YtnjnfkfmkbnkhaaGreatDoor.Lx

/- What the document's Tokenize returns: the walk. -/
namespace Go.Proofs.YtnjnfkfmkbnkhaaGreatDoor.Lx
open Go.RowKit Go.Sort Go.Lib Go.Shelf Fx

/-- What is to come, inside a comment or not. -/
def cmt (c : Bool) (f : Nat) (ln : Int) (L : List Tok) (r : List UInt8) : List Tok × Int × Int :=
  if c then tokz f (if (skip r).2 then ln + 1 else ln) L (skip r).1 else tokz f ln L r
theorem cmt_nil (c : Bool) (f : Nat) (ln : Int) (L : List Tok) : cmt c f ln L [] = (L, 0, 0) := by
  unfold cmt; cases c
  · exact tokz_nil f ln L
  · exact tokz_nil f _ L
theorem cmt_ways (c : Bool) (f : Nat) (ln : Int) (L : List Tok) (b : UInt8) (r : List UInt8) (R : List Tok × Int × Int) (h : R = cmt c (f + 1) ln L (b :: r)) (hf : r.length ≤ f) :
    (b.toNat = 10 ∧ ∃ g, r.length ≤ g ∧ Hid (R = cmt false g (ln + 1) L r)) ∨
    (b.toNat ≠ 10 ∧ c = true ∧ Hid (R = cmt true (f + 1) ln L r)) ∨
    (c = false ∧ b.toNat = 32 ∧ Hid (R = cmt false f ln L r)) ∨
    (c = false ∧ b.toNat = 9 ∧ Hid (R = cmt false f ln L r)) ∨
    (c = false ∧ b.toNat = 35 ∧ Hid (R = cmt true f ln L r)) ∨
    (c = false ∧ b.toNat ≠ 10 ∧ b.toNat ≠ 32 ∧ b.toNat ≠ 9 ∧ b.toNat ≠ 35 ∧ (next (b :: r)).2.2 = 0 ∧ Hid (R = cmt false f ln (L ++ [{ (next (b :: r)).1 with line := ln }]) ((b :: r).drop (next (b :: r)).2.1))) ∨
    (c = false ∧ b.toNat ≠ 10 ∧ b.toNat ≠ 32 ∧ b.toNat ≠ 9 ∧ b.toNat ≠ 35 ∧ (next (b :: r)).2.2 ≠ 0 ∧ Hid (R = ([], ln, (next (b :: r)).2.2))) := by
  cases c
  · have h' : R = tokz (f + 1) ln L (b :: r) := h
    rcases tokz_ways f ln L b r R h' with ⟨c1, hf'⟩ | ⟨c1, hf'⟩ | ⟨c1, hf'⟩ | ⟨c1, hf'⟩ | ⟨c1, c2, c3, c4, h5, hf'⟩ | ⟨c1, c2, c3, c4, h5, hf'⟩
    · exact .inl ⟨c1, f, hf, hf'⟩
    · exact .inr (.inr (.inl ⟨rfl, c1, hf'⟩))
    · exact .inr (.inr (.inr (.inl ⟨rfl, c1, hf'⟩)))
    · refine .inr (.inr (.inr (.inr (.inl ⟨rfl, c1, Lib.hid ?_⟩))))
      have hb : b ≠ 10 := fun e => by rw [e] at c1; exact absurd c1 (by decide)
      rw [hf'.out, skip_cons r hb]; rfl
    · exact .inr (.inr (.inr (.inr (.inr (.inl ⟨rfl, c1, c2, c3, c4, h5, hf'⟩)))))
    · exact .inr (.inr (.inr (.inr (.inr (.inr ⟨rfl, c1, c2, c3, c4, h5, hf'⟩)))))
  · by_cases hb : b = 10
    · subst hb
      exact .inl ⟨rfl, f + 1, by omega, Lib.hid h⟩
    · refine .inr (.inl ⟨fun e => hb (UInt8.toNat_inj.1 e), rfl, Lib.hid ?_⟩)
      rw [h]; unfold cmt; rw [skip_cons r hb, if_pos rfl, if_pos rfl]

set_option maxHeartbeats 8000000 in
set_option maxRecDepth 1000000 in
theorem tokenizeR_any (s : ByteArray) (w : World) (hs0 : s.size ≤ 9223372036854775807) :
    Calls Tryz.prog 18 #[.string s] w fun e w' => TokRes w.heap.size (tokenize s.data.toList) e w' ∧ Ext w w' := by
  by_cases hbig : 16384 < s.size
  · have hr : tokenize s.data.toList = ([], 0, 2) := by unfold tokenize; rw [if_pos (by rw [← size_len]; exact hbig)]
    rw [hr]
    go_enter Tryz.func18, Tryz.ntmps18
    go_wp2
    go_returns
    exact ⟨⟨_, rfl, World.ownsRow_nil _ _ _ _⟩, Ext.refl _⟩
  · have hr : tokenize s.data.toList = cmt false s.size 1 [] (s.data.toList.drop 0) := by unfold tokenize cmt; rw [if_neg (by rw [← size_len]; exact hbig), ← size_len]; rfl
    obtain ⟨R, hR⟩ : ∃ R, R = tokenize s.data.toList := ⟨_, rfl⟩
    rw [← hR] at hr ⊢
    have HR := Lib.hid hr
    clear hr hR
    obtain ⟨i0, hi, hz0, hz1, hz2⟩ := info_parts info_tok
    go_enter Tryz.func18, Tryz.ntmps18
    go_wp2_with fail
    go_loopw [5, 6, 7, 8] (fun out line cm at' wr => ∃ (k f ln : Nat) (c : Bool) (L : List Tok), line = .int .i64 ln ∧ cm = .bool c ∧ at' = .int .i64 k ∧ k ≤ s.size ∧ wr.ownsRow w.heap.size 69 4 out L.length (toksC L) ∧ Ext w wr ∧ Hid (R = cmt c f ln L (s.data.toList.drop k)) ∧ s.size - k ≤ f ∧ L.length + (s.size - k) ≤ 16384 ∧ ln + (s.size - k) ≤ 16385)
      (fun _ _ _ at' _ => s.size - (RowKit.intOf at').toNat)
    case atStart => exact ⟨0, s.size, 1, false, [], rfl, rfl, rfl, by omega, World.ownsRow_nil _ _ _ _, Ext.refl _, HR, by omega, by simp; omega, by omega⟩
    case round =>
      obtain ⟨k, f, ln, c, L, rfl, rfl, rfl, hk, hown, hx, ha, hf, hl, hln⟩ := hrel
      clear HR
      have hxs := hx.size
      by_cases hp : k < s.size
      · obtain ⟨f, rfl⟩ : ∃ f', f = f' + 1 := ⟨f - 1, by omega⟩
        have hst := ha.out
        have hsd := drop_at s k hp
        rw [hsd] at hst
        have hrl : (s.data.toList.drop (k + 1)).length = s.size - (k + 1) := by rw [List.length_drop, ← size_len]
        have hw := cmt_ways c f ln L s[k] _ R hst (by omega)
        rw [hrl] at hw
        clear hst ha hrl
        rcases hw with ⟨c1, g, hg, hf'⟩ | ⟨c1, rfl, hf'⟩ | ⟨rfl, c1, hf'⟩ | ⟨rfl, c1, hf'⟩ | ⟨rfl, c1, hf'⟩ | ⟨rfl, c1, c2, c3, c4, h5, hf'⟩ | ⟨rfl, c1, c2, c3, c4, h5, hf'⟩
        · obtain ⟨f1, _⟩ := eq_facts (x := (s[k].toNat : Int)) (k := 10) (by omega)
          clear hsd
          go_wp2
          go_roundw
          case rel => exact ⟨k + 1, g, ln + 1, false, L, by go_num, rfl, by go_num, by omega, hown, hx, hf', by omega, by omega, by omega⟩
          case measure => simp [RowKit.intOf]; omega
        · obtain ⟨f1, _⟩ := ne_facts (x := (s[k].toNat : Int)) (k := 10) (by omega)
          clear hsd
          go_wp2
          go_roundw
          case rel => exact ⟨k + 1, f + 1, ln, true, L, rfl, rfl, by go_num, by omega, hown, hx, hf', by omega, by omega, by omega⟩
          case measure => simp [RowKit.intOf]; omega
        · obtain ⟨f1, _⟩ := ne_facts (x := (s[k].toNat : Int)) (k := 10) (by omega)
          obtain ⟨f2, _⟩ := eq_facts (x := (s[k].toNat : Int)) (k := 32) (by omega)
          obtain ⟨f4, _⟩ := ne_facts (x := (s[k].toNat : Int)) (k := 35) (by omega)
          clear hsd
          go_wp2
          go_roundw
          case rel => exact ⟨k + 1, f, ln, false, L, rfl, rfl, by go_num, by omega, hown, hx, hf', by omega, by omega, by omega⟩
          case measure => simp [RowKit.intOf]; omega
        · obtain ⟨f1, _⟩ := ne_facts (x := (s[k].toNat : Int)) (k := 10) (by omega)
          obtain ⟨f2, _⟩ := ne_facts (x := (s[k].toNat : Int)) (k := 32) (by omega)
          obtain ⟨f3, _⟩ := eq_facts (x := (s[k].toNat : Int)) (k := 9) (by omega)
          obtain ⟨f4, _⟩ := ne_facts (x := (s[k].toNat : Int)) (k := 35) (by omega)
          clear hsd
          go_wp2
          go_roundw
          case rel => exact ⟨k + 1, f, ln, false, L, rfl, rfl, by go_num, by omega, hown, hx, hf', by omega, by omega, by omega⟩
          case measure => simp [RowKit.intOf]; omega
        · obtain ⟨f1, _⟩ := ne_facts (x := (s[k].toNat : Int)) (k := 10) (by omega)
          obtain ⟨f2, _⟩ := ne_facts (x := (s[k].toNat : Int)) (k := 32) (by omega)
          obtain ⟨f3, _⟩ := ne_facts (x := (s[k].toNat : Int)) (k := 9) (by omega)
          obtain ⟨f4, _⟩ := eq_facts (x := (s[k].toNat : Int)) (k := 35) (by omega)
          clear hsd
          go_wp2
          go_roundw
          case rel => exact ⟨k + 1, f, ln, true, L, rfl, rfl, by go_num, by omega, hown, hx, hf', by omega, by omega, by omega⟩
          case measure => simp [RowKit.intOf]; omega
        all_goals
          rw [← hsd] at h5 hf'
          obtain ⟨f1, _⟩ := ne_facts (x := (s[k].toNat : Int)) (k := 10) (by omega)
          obtain ⟨f2, _⟩ := ne_facts (x := (s[k].toNat : Int)) (k := 32) (by omega)
          obtain ⟨f3, _⟩ := ne_facts (x := (s[k].toNat : Int)) (k := 9) (by omega)
          obtain ⟨f4, _⟩ := ne_facts (x := (s[k].toNat : Int)) (k := 35) (by omega)
          have hX : (s.extract k s.size).data.toList = s.data.toList.drop k := by rw [extract_from]
          have hXs : (s.extract k s.size).size = s.size - k := by simp
          have hon := oneR_next (s.data.toList.drop k) (by rw [List.length_drop, ← size_len]; omega)
          have hnx := one_any (s.extract k s.size) wr (by omega) (by omega)
          rw [hX] at hnx
          clear hsd
        · rw [hon.2 h5] at hnx
          have hnl := next_len (s.data.toList.drop k) (by rw [List.length_drop, ← size_len]; omega) h5
          rw [List.length_drop, ← size_len] at hnl
          rw [List.drop_drop] at hf'
          obtain ⟨T, n, c, hN⟩ : ∃ T n c, next (s.data.toList.drop k) = (T, n, c) := ⟨_, _, _, rfl⟩
          rw [hN] at hnl h5 hf' hnx
          obtain ⟨n1, n2⟩ : 1 ≤ n ∧ n ≤ s.size - k := hnl
          have h5 : c = 0 := h5
          subst h5
          have HNX := Lib.hid hnx
          have hf2 : Hid (R = cmt false f ln (L ++ [(⟨T.kind, T.text, T.n, ln⟩ : Tok)]) (s.data.toList.drop (k + n))) := hf'
          clear hnx hN hf' hon hX
          go_wp2_with fail
          refine HNX.out.mono ?_
          rintro e w1 ⟨rfl, x1⟩
          unfold nextV tokV
          have hx1 := hx.trans x1
          have hxs1 := hx1.size
          have hown1 := own_ext hown x1
          go_wp2_with (at_builtin; refine wpList_append_own _ rfl _ _ 39 rfl w.heap.size 69 i0 _ 4 40 Tryz.underlying39 hi hz0 hz1 hz2 rfl (by decide) _ _ _ rfl ((hown1.alloc _).alloc _) ⟨w1.heap.size + 1, 0, none⟩ 1 1 (tokC ⟨T.kind, T.text, T.n, ln⟩) rfl rfl ?c1 ?c2 ?c3 ?c4 ?c5 ?_)
          case c1 => exact fun j u hj => cell_new2 w1 _ _ (tokC ⟨T.kind, T.text, T.n, ln⟩) 69 rfl j u hj
          case c2 => intro u hu; simp [tokC] at hu; rcases hu with rfl | rfl | rfl | rfl <;> rfl
          case c3 => unfold maxLen; omega
          case c4 => omega
          case c5 => simp; omega
          intro v' w2 hown' hgrow _
          have hown2 : w2.ownsRow w.heap.size 69 4 v' (L ++ [(⟨T.kind, T.text, T.n, ln⟩ : Tok)]).length (toksC (L ++ [(⟨T.kind, T.text, T.n, ln⟩ : Tok)])) := by
            rw [toksC_snoc]; simpa using hown'
          have hx2 : Ext w w2 := Below.grown ((hx1.alloc _).alloc _) hgrow (by simp; omega) (fun k hk => (hown1.lt k hk).1)
          clear hown' hgrow hown hown1
          go_wp2
          go_roundw
          case rel => exact ⟨k + n, f, ln, false, L ++ [(⟨T.kind, T.text, T.n, ln⟩ : Tok)], rfl, rfl, by go_num, by omega, hown2, hx2, hf2, by omega, by simp; omega, by omega⟩
          case measure => simp [RowKit.intOf]; omega
        · obtain ⟨T, n, c, hN⟩ : ∃ T n c, oneR (s.data.toList.drop k) = (T, n, c) := ⟨_, _, _, rfl⟩
          have he := hon.1
          rw [hN] at hnx he
          replace he : c = (next (s.data.toList.drop k)).2.2 := he
          rw [← he] at h5 hf'
          have HNX := Lib.hid hnx
          clear hnx hN hon he hX
          go_wp2_with fail
          refine HNX.out.mono ?_
          rintro e w1 ⟨rfl, x1⟩
          unfold nextV tokV
          have hx1 := hx.trans x1
          go_wp2
          go_returns
          rw [hf'.out]
          exact ⟨⟨_, rfl, World.ownsRow_nil _ _ _ _⟩, hx1.alloc _⟩
      · have hnil : s.data.toList.drop k = [] := drop_end s k hp
        have hR : R = (L, 0, 0) := by rw [ha.out, hnil, cmt_nil]
        have HR := Lib.hid hR
        have hge : (s.size : Int) ≤ (k : Int) := by omega
        clear ha hR hnil
        go_wp2
        go_returns
        rw [HR.out]
        exact ⟨⟨_, rfl, hown⟩, hx⟩
end Go.Proofs.YtnjnfkfmkbnkhaaGreatDoor.Lx
