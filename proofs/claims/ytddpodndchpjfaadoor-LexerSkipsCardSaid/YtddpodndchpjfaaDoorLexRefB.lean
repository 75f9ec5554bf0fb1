/- What the document's number and one return. -/
import Derived.Test.YtddpodndchpjfaaDoorLexRefA
import Derived.Test.YtddpodndchpjfaaDoorLexTok
namespace Go.Proofs.YtddpodndchpjfaaDoor.Lx
open Go.RowKit Go.Sort Go.Lib Go.Shelf Fx



theorem numR_of (s : ByteArray) (h0 : 0 < s.size) (hd : isD s[0] = true) : numR s.data.toList = scan (okN s.data.toList) (s.size - 0) 0 := by
  unfold numR
  rw [bt_at s 0 h0, hd, Bool.true_or, if_pos rfl, scan_step _ _ _ h0]
  have : okN s.data.toList 0 = true := by unfold okN; rw [bt_at s 0 h0, hd]; simp
  rw [this, if_pos rfl]
  unfold numN; rw [size_len]
theorem numR_of2 (s : ByteArray) (h0 : 0 < s.size) (h45 : ((s[0].toNat : Int) == 45) = true) (h1 : 1 < s.size) (hd : isD s[1] = true) : numR s.data.toList = scan (okN s.data.toList) (s.size - 1) 1 := by
  unfold numR
  rw [bt_at s 0 h0, bt_at s 1 h1, hd, beq_int s[0] 45, show (((45 : UInt8).toNat : Nat) : Int) = 45 from rfl, h45, decide_eq_true (by rw [← size_len]; exact h1)]
  rw [if_pos (by simp)]
  unfold numN; rw [size_len]
theorem numR_no (s : ByteArray) (h0 : 0 < s.size) (hd : isD s[0] = false) (hm : ((s[0].toNat : Int) == 45) = false ∨ s.size ≤ 1 ∨ ∃ h1 : 1 < s.size, isD s[1] = false) : numR s.data.toList = 0 := by
  unfold numR
  rw [bt_at s 0 h0, hd, Bool.false_or, if_neg]
  rcases hm with hm | hm | ⟨h1, hm⟩
  · rw [beq_int s[0] 45, show (((45 : UInt8).toNat : Nat) : Int) = 45 from rfl, hm]; simp
  · rw [decide_eq_false (show ¬ 1 < s.data.toList.length by rw [← size_len]; omega)]; simp
  · rw [bt_at s 1 h1, hm]; simp

theorem digR (s : ByteArray) (b : Bool) (k : Nat) (hk : k < s.size) (h : isD s[k] = b) (w : World) : Calls Tryd.prog 23 #[.int .u8 s[k].toNat] w fun e w' => e = .returned (.bool b) ∧ w = w' := by
  have := digitR_any s[k] w; rw [h] at this; exact this
theorem letR (s : ByteArray) (b : Bool) (k : Nat) (hk : k < s.size) (h : isL s[k] = b) (w : World) : Calls Tryd.prog 22 #[.int .u8 s[k].toNat] w fun e w' => e = .returned (.bool b) ∧ w = w' := by
  have := letterR_any s[k] w; rw [h] at this; exact this

set_option maxHeartbeats 8000000 in
theorem numberR_any (s : ByteArray) (w : World) (h0 : 0 < s.size) (hs : s.size ≤ 16384) :
    Calls Tryd.prog 29 #[.string s] w fun e w' => e = .returned (.int .i64 (numR s.data.toList)) ∧ w = w' := by
  obtain ⟨n, hN⟩ : ∃ n, n = numR s.data.toList := ⟨_, rfl⟩
  cases hd : isD s[0]
  · have HD := Lib.hid hd
    by_cases h45 : ((s[0].toNat : Int) == 45) = true
    · by_cases h1 : 1 < s.size
      · cases hd1 : isD s[1]
        · have hf : Hid (n = 0) := Lib.hid (by rw [hN]; exact numR_no s h0 hd (.inr (.inr ⟨h1, hd1⟩)))
          have HD1 := Lib.hid hd1
          rw [← hN]
          clear hN hd hd1
          go_enter Tryd.func29, Tryd.ntmps29
          go_wp2_with fail
          refine (digR s false 1 h1 HD1.out _).mono ?_
          rintro e w1 ⟨rfl, rfl⟩
          go_wp2_with fail
          refine (digR s false 0 h0 HD.out _).mono ?_
          rintro e w1 ⟨rfl, rfl⟩
          go_wp2
          go_ret
          exact ⟨ret_int (by rw [hf.out]; rfl), rfl⟩
        · have HSC := Lib.hid (hN.trans (numR_of2 s h0 h45 h1 hd1))
          have HD1 := Lib.hid hd1
          rw [← hN]
          clear hN hd hd1
          go_enter Tryd.func29, Tryd.ntmps29
          go_wp2_with fail
          refine (digR s true 1 h1 HD1.out _).mono ?_
          rintro e w1 ⟨rfl, rfl⟩
          go_wp2_with fail
          refine (digR s true 1 h1 HD1.out _).mono ?_
          rintro e w1 ⟨rfl, rfl⟩
          go_wp2_with fail
          go_loop [3] (fun v' => ∃ k : Nat, k ≤ s.size ∧ Hid (n = scan (okN s.data.toList) (s.size - k) k) ∧ v' = .int .i64 k) (fun v' => s.size - (RowKit.intOf v').toNat)
          case atStart => exact ⟨1, by omega, HSC, rfl⟩
          case round =>
            obtain ⟨k, hk, ha, rfl⟩ := hrel
            clear HSC
            by_cases hlt : k < s.size
            · have hst := ha.out
              rw [scan_step _ _ _ hlt] at hst
              have hok : okN s.data.toList k = (isL s[k] || isD s[k] || s[k] == 46) := by unfold okN; rw [bt_at s k hlt]
              rw [hok] at hst
              have HS := Lib.hid hst; clear hst hok ha
              by_cases c1 : isL s[k] = true
              · have HF : Hid (n = scan (okN s.data.toList) (s.size - (k + 1)) (k + 1)) := Lib.hid (by rw [HS.out, c1]; rfl)
                have HC1 := Lib.hid c1
                clear HS c1
                go_wp2_with fail
                refine (letR s true k hlt HC1.out _).mono ?_
                rintro e w1 ⟨rfl, rfl⟩
                go_wp2
                go_round
                case rel => exact ⟨k + 1, by omega, HF, by go_num⟩
                case measure => simp [RowKit.intOf]; omega
              · have c1' : isL s[k] = false := by simpa using c1
                clear c1
                by_cases c2 : isD s[k] = true
                · have HF : Hid (n = scan (okN s.data.toList) (s.size - (k + 1)) (k + 1)) := Lib.hid (by rw [HS.out, c1', c2]; rfl)
                  have HC1 := Lib.hid c1'; have HC2 := Lib.hid c2
                  clear HS c1' c2
                  go_wp2_with fail
                  refine (letR s false k hlt HC1.out _).mono ?_
                  rintro e w1 ⟨rfl, rfl⟩
                  go_wp2_with fail
                  refine (digR s true k hlt HC2.out _).mono ?_
                  rintro e w1 ⟨rfl, rfl⟩
                  go_wp2
                  go_round
                  case rel => exact ⟨k + 1, by omega, HF, by go_num⟩
                  case measure => simp [RowKit.intOf]; omega
                · have c2' : isD s[k] = false := by simpa using c2
                  clear c2
                  by_cases c3 : s[k] = 46
                  · have HF : Hid (n = scan (okN s.data.toList) (s.size - (k + 1)) (k + 1)) := Lib.hid (by rw [HS.out, c1', c2', c3]; rfl)
                    have b46 : ((s[k].toNat : Int) == 46) = true := by rw [c3]; rfl
                    have HC1 := Lib.hid c1'; have HC2 := Lib.hid c2'
                    clear HS c1' c2' c3
                    go_wp2_with fail
                    refine (letR s false k hlt HC1.out _).mono ?_
                    rintro e w1 ⟨rfl, rfl⟩
                    go_wp2_with fail
                    refine (digR s false k hlt HC2.out _).mono ?_
                    rintro e w1 ⟨rfl, rfl⟩
                    go_wp2
                    go_round
                    case rel => exact ⟨k + 1, by omega, HF, by go_num⟩
                    case measure => simp [RowKit.intOf]; omega
                  · have c3' : (s[k] == 46) = false := by simpa using c3
                    have HF : Hid (n = k) := Lib.hid (by rw [HS.out, c1', c2', c3']; rfl)
                    have b46 : ((s[k].toNat : Int) == 46) = false := by rw [beq_eq_false_iff_ne]; intro e; exact c3 (UInt8.toNat_inj.1 (by have e48 : (46 : UInt8).toNat = 46 := rfl; omega))
                    have HC1 := Lib.hid c1'; have HC2 := Lib.hid c2'
                    clear HS c1' c2' c3 c3'
                    go_wp2_with fail
                    refine (letR s false k hlt HC1.out _).mono ?_
                    rintro e w1 ⟨rfl, rfl⟩
                    go_wp2_with fail
                    refine (digR s false k hlt HC2.out _).mono ?_
                    rintro e w1 ⟨rfl, rfl⟩
                    go_wp2
                    go_ret
                    exact ⟨ret_int (by rw [HF.out]), rfl⟩
            · have HF : Hid (n = k) := Lib.hid (by rw [ha.out, show s.size - k = 0 by omega]; rfl)
              clear ha
              go_wp2
              go_ret
              exact ⟨ret_int (by rw [HF.out]), rfl⟩
      · have hf : Hid (n = 0) := Lib.hid (by rw [hN]; exact numR_no s h0 hd (.inr (.inl (by omega))))
        rw [← hN]
        clear hN hd
        go_enter Tryd.func29, Tryd.ntmps29
        go_wp2_with fail
        refine (digR s false 0 h0 HD.out _).mono ?_
        rintro e w1 ⟨rfl, rfl⟩
        go_wp2
        go_ret
        exact ⟨ret_int (by rw [hf.out]; rfl), rfl⟩
    · have h45' : ((s[0].toNat : Int) == 45) = false := by simpa using h45
      have hf : Hid (n = 0) := Lib.hid (by rw [hN]; exact numR_no s h0 hd (.inl h45'))
      rw [← hN]
      clear hN hd h45
      go_enter Tryd.func29, Tryd.ntmps29
      go_wp2_with fail
      all_goals
        refine (digR s false 0 h0 HD.out _).mono ?_
        rintro e w1 ⟨rfl, rfl⟩
        go_wp2
        go_ret
        exact ⟨ret_int (by rw [hf.out]; rfl), rfl⟩
  · have HSC := Lib.hid (hN.trans (numR_of s h0 hd))
    have h45 : ((s[0].toNat : Int) == 45) = false := by
      unfold isD at hd
      rw [decide_eq_true_eq] at hd
      rw [beq_eq_false_iff_ne]; omega
    have HD := Lib.hid hd
    rw [← hN]
    clear hN hd
    by_cases h1 : 1 < s.size
    all_goals
      go_enter Tryd.func29, Tryd.ntmps29
      go_wp2_with fail
      refine (digR s true 0 h0 HD.out _).mono ?_
      rintro e w1 ⟨rfl, rfl⟩
      go_wp2_with fail
      go_loop [3] (fun v' => ∃ k : Nat, k ≤ s.size ∧ Hid (n = scan (okN s.data.toList) (s.size - k) k) ∧ v' = .int .i64 k) (fun v' => s.size - (RowKit.intOf v').toNat)
      case atStart => exact ⟨0, by omega, HSC, rfl⟩
      case round =>
        obtain ⟨k, hk, ha, rfl⟩ := hrel
        clear HSC
        by_cases hlt : k < s.size
        · have hst := ha.out
          rw [scan_step _ _ _ hlt] at hst
          have hok : okN s.data.toList k = (isL s[k] || isD s[k] || s[k] == 46) := by unfold okN; rw [bt_at s k hlt]
          rw [hok] at hst
          have HS := Lib.hid hst; clear hst hok ha
          by_cases c1 : isL s[k] = true
          · have HF : Hid (n = scan (okN s.data.toList) (s.size - (k + 1)) (k + 1)) := Lib.hid (by rw [HS.out, c1]; rfl)
            have HC1 := Lib.hid c1
            clear HS c1
            go_wp2_with fail
            refine (letR s true k hlt HC1.out _).mono ?_
            rintro e w1 ⟨rfl, rfl⟩
            go_wp2
            go_round
            case rel => exact ⟨k + 1, by omega, HF, by go_num⟩
            case measure => simp [RowKit.intOf]; omega
          · have c1' : isL s[k] = false := by simpa using c1
            clear c1
            by_cases c2 : isD s[k] = true
            · have HF : Hid (n = scan (okN s.data.toList) (s.size - (k + 1)) (k + 1)) := Lib.hid (by rw [HS.out, c1', c2]; rfl)
              have HC1 := Lib.hid c1'; have HC2 := Lib.hid c2
              clear HS c1' c2
              go_wp2_with fail
              refine (letR s false k hlt HC1.out _).mono ?_
              rintro e w1 ⟨rfl, rfl⟩
              go_wp2_with fail
              refine (digR s true k hlt HC2.out _).mono ?_
              rintro e w1 ⟨rfl, rfl⟩
              go_wp2
              go_round
              case rel => exact ⟨k + 1, by omega, HF, by go_num⟩
              case measure => simp [RowKit.intOf]; omega
            · have c2' : isD s[k] = false := by simpa using c2
              clear c2
              by_cases c3 : s[k] = 46
              · have HF : Hid (n = scan (okN s.data.toList) (s.size - (k + 1)) (k + 1)) := Lib.hid (by rw [HS.out, c1', c2', c3]; rfl)
                have b46 : ((s[k].toNat : Int) == 46) = true := by rw [c3]; rfl
                have HC1 := Lib.hid c1'; have HC2 := Lib.hid c2'
                clear HS c1' c2' c3
                go_wp2_with fail
                refine (letR s false k hlt HC1.out _).mono ?_
                rintro e w1 ⟨rfl, rfl⟩
                go_wp2_with fail
                refine (digR s false k hlt HC2.out _).mono ?_
                rintro e w1 ⟨rfl, rfl⟩
                go_wp2
                go_round
                case rel => exact ⟨k + 1, by omega, HF, by go_num⟩
                case measure => simp [RowKit.intOf]; omega
              · have c3' : (s[k] == 46) = false := by simpa using c3
                have HF : Hid (n = k) := Lib.hid (by rw [HS.out, c1', c2', c3']; rfl)
                have b46 : ((s[k].toNat : Int) == 46) = false := by rw [beq_eq_false_iff_ne]; intro e; exact c3 (UInt8.toNat_inj.1 (by have e48 : (46 : UInt8).toNat = 46 := rfl; omega))
                have HC1 := Lib.hid c1'; have HC2 := Lib.hid c2'
                clear HS c1' c2' c3 c3'
                go_wp2_with fail
                refine (letR s false k hlt HC1.out _).mono ?_
                rintro e w1 ⟨rfl, rfl⟩
                go_wp2_with fail
                refine (digR s false k hlt HC2.out _).mono ?_
                rintro e w1 ⟨rfl, rfl⟩
                go_wp2
                go_ret
                exact ⟨ret_int (by rw [HF.out]), rfl⟩
        · have HF : Hid (n = k) := Lib.hid (by rw [ha.out, show s.size - k = 0 by omega]; rfl)
          clear ha
          go_wp2
          go_ret
          exact ⟨ret_int (by rw [HF.out]), rfl⟩
end Go.Proofs.YtddpodndchpjfaaDoor.Lx
