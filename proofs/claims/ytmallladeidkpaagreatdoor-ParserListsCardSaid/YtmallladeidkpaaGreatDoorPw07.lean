/- Packed texts: LexNum -/
import Derived.Test.YtmallladeidkpaaGreatDoorPw06
set_option linter.unusedVariables false
set_option linter.unusedSimpArgs false
/- What the lexer's next returns at a number. -/
namespace Go.Proofs.YtmallladeidkpaaGreatDoor.Lx
open Go.RowKit Go.Sort Go.Lib Go.Shelf Fx

theorem parse_n (s : ByteArray) (v c : Int) (w : World) (hs : s.size ≤ 4294967280) (he : Env w) (h : parse s.data.toList = (v, c)) :
    Calls Tryz.prog 65 #[.string s] w fun e w' => e = .returned (.tuple #[.int .i64 v, .int .i64 c]) ∧ Ext w w' := by
  have := parse_any s w (by omega) he
  rw [h] at this; exact this
theorem size_take (s : ByteArray) (n : Nat) (h : n ≤ s.size) : (s.extract 0 n).size = n := by simp; omega

set_option maxHeartbeats 8000000 in
theorem next_num (s : ByteArray) (w : World) (h0 : 0 < s.size) (hs : s.size ≤ 16384) (he : Env w) (hn : wordN s.data.toList = 0)
    (hd : isD s[0] = true ∨ isD s[0] = false ∧ ((s[0].toNat : Int) == 45) = true ∧ ∃ h1 : 1 < s.size, isD s[1] = true) :
    Calls Tryz.prog 48 #[.string s] w fun e w' => e = .returned (nextV (next s.data.toList)) ∧ Ext w w' := by
  obtain ⟨n, hN⟩ : ∃ n, n = numN s.data.toList := ⟨_, rfl⟩
  have hle : n ≤ s.size := by rw [hN, size_len]; have := scan_le (okN s.data.toList) (s.data.toList.length - 1) 1; unfold numN; rw [size_len] at h0; omega
  have hx : next s.data.toList = if (parse (s.extract 0 n).data.toList).2 = 0 then (⟨3, [], (parse (s.extract 0 n).data.toList).1, 0⟩, n, 0) else (⟨0, [], 0, 0⟩, 0, (parse (s.extract 0 n).data.toList).2) := by
    unfold next; rw [if_neg (by omega), ← hN, extract_upto, if_pos]
    rcases hd with hd | ⟨hd, h45, h1, hd1⟩
    · rw [bt_at s 0 h0, hd]; rfl
    · rw [bt_at s 0 h0, bt_at s 1 h1, hd1]
      have : (s[0] == 45) = true := by
        rw [beq_iff_eq] at h45 ⊢
        exact UInt8.toNat_inj.1 (by have e : (45 : UInt8).toNat = 45 := rfl; omega)
      rw [this, decide_eq_true (by rw [← size_len]; exact h1)]; simp
  have hw := word_any s (by omega)
  rw [hn] at hw
  obtain ⟨v, c, hp⟩ : ∃ v c, parse (s.extract 0 n).data.toList = (v, c) := ⟨_, _, rfl⟩
  rw [hp] at hx
  have hsc : n = scan (okN s.data.toList) (s.size - 1) 1 := by rw [hN, size_len]; rfl
  have HW := Lib.hid hw; have HX := Lib.hid hx; have HP := Lib.hid hp; have HE := Lib.hid he; have HSC := Lib.hid hsc
  clear hw hx hN hp he hn hsc
  generalize next s.data.toList = NX at HX ⊢
  have hdig : ∀ (b : Bool) (k : Nat) (hk : k < s.size), isD s[k] = b → ∀ w, Calls Tryz.prog 63 #[.int .u8 s[k].toNat] w fun e w' => e = .returned (.bool b) ∧ w = w' := fun b k hk h w => by
    have := digit_any s[k] w; rw [h] at this; exact this
  have hlet : ∀ (b : Bool) (k : Nat) (hk : k < s.size), isL s[k] = b → ∀ w, Calls Tryz.prog 64 #[.int .u8 s[k].toNat] w fun e w' => e = .returned (.bool b) ∧ w = w' := fun b k hk h w => by
    have := letter_any s[k] w; rw [h] at this; exact this
  have HDG := Lib.hid hdig; have HLT := Lib.hid hlet
  clear hdig hlet
  rcases hd with hd | ⟨hd, h45, h1, hd1⟩
  · have HD := Lib.hid hd; clear hd
    go_enter Tryz.func48, Tryz.ntmps48
    go_wp2_with fail
    refine (HW.out _).mono ?_
    rintro e w1 ⟨rfl, rfl⟩
    go_wp2_with fail
    refine (HDG.out true 0 h0 HD.out _).mono ?_
    rintro e w1 ⟨rfl, rfl⟩
    go_wp2_with fail
    go_loop [7] (fun v' => ∃ k : Nat, 1 ≤ k ∧ k ≤ s.size ∧ Hid (n = scan (okN s.data.toList) (s.size - k) k) ∧ v' = .int .i64 k) (fun v' => s.size - (RowKit.intOf v').toNat)
    case atStart => exact ⟨1, by omega, by omega, HSC, rfl⟩
    case round =>
      obtain ⟨k, hk1, hk, ha, rfl⟩ := hrel
      clear HSC
      by_cases hlt : k < s.size
      · have hst := ha.out
        rw [scan_step _ _ _ hlt] at hst
        have hok : okN s.data.toList k = (isL s[k] || isD s[k] || s[k] == 46) := by unfold okN; rw [bt_at s k hlt]
        rw [hok] at hst
        have HS := Lib.hid hst; clear hst hok ha
        by_cases c1 : isL s[k] = true
        · have HF : Hid (n = scan (okN s.data.toList) (s.size - (k + 1)) (k + 1)) := Lib.hid (by rw [HS.out, c1]; rfl)
          have HC1 := Lib.hid c1
          clear HS c1
          go_wp2_with fail
          refine (HLT.out true k hlt HC1.out _).mono ?_
          rintro e w1 ⟨rfl, rfl⟩
          go_wp2
          go_round
          case rel => exact ⟨k + 1, by omega, by omega, HF, by go_num⟩
          case measure => simp [RowKit.intOf]; omega
        · have c1' : isL s[k] = false := by simpa using c1
          clear c1
          by_cases c2 : isD s[k] = true
          · have HF : Hid (n = scan (okN s.data.toList) (s.size - (k + 1)) (k + 1)) := Lib.hid (by rw [HS.out, c1', c2]; rfl)
            have HC1 := Lib.hid c1'; have HC2 := Lib.hid c2
            clear HS c1' c2
            go_wp2_with fail
            refine (HLT.out false k hlt HC1.out _).mono ?_
            rintro e w1 ⟨rfl, rfl⟩
            go_wp2_with fail
            refine (HDG.out true k hlt HC2.out _).mono ?_
            rintro e w1 ⟨rfl, rfl⟩
            go_wp2
            go_round
            case rel => exact ⟨k + 1, by omega, by omega, HF, by go_num⟩
            case measure => simp [RowKit.intOf]; omega
          · have c2' : isD s[k] = false := by simpa using c2
            clear c2
            by_cases c3 : s[k] = 46
            · have HF : Hid (n = scan (okN s.data.toList) (s.size - (k + 1)) (k + 1)) := Lib.hid (by rw [HS.out, c1', c2', c3]; rfl)
              have b46 : ((s[k].toNat : Int) == 46) = true := by rw [c3]; rfl
              have HC1 := Lib.hid c1'; have HC2 := Lib.hid c2'
              clear HS c1' c2' c3
              go_wp2_with fail
              refine (HLT.out false k hlt HC1.out _).mono ?_
              rintro e w1 ⟨rfl, rfl⟩
              go_wp2_with fail
              refine (HDG.out false k hlt HC2.out _).mono ?_
              rintro e w1 ⟨rfl, rfl⟩
              go_wp2
              go_round
              case rel => exact ⟨k + 1, by omega, by omega, HF, by go_num⟩
              case measure => simp [RowKit.intOf]; omega
            · have c3' : (s[k] == 46) = false := by simpa using c3
              have HF : Hid (n = k) := Lib.hid (by rw [HS.out, c1', c2', c3']; rfl)
              have b46 : ((s[k].toNat : Int) == 46) = false := by rw [beq_eq_false_iff_ne]; intro e; exact c3 (UInt8.toNat_inj.1 (by have e48 : (46 : UInt8).toNat = 46 := rfl; omega))
              have HC1 := Lib.hid c1'; have HC2 := Lib.hid c2'
              clear HS c1' c2' c3 c3'
              go_wp2_with fail
              refine (HLT.out false k hlt HC1.out _).mono ?_
              rintro e w1 ⟨rfl, rfl⟩
              go_wp2_with fail
              refine (HDG.out false k hlt HC2.out _).mono ?_
              rintro e w1 ⟨rfl, rfl⟩
              obtain rfl := HF.out
              go_wp2_with fail
              refine (parse_n (s.extract 0 n) v c _ (by rw [size_take s n hle]; omega) (HE.out.ext ((Ext.refl _).alloc _)) HP.out).mono ?_
              rintro e w1 ⟨rfl, x1⟩
              obtain ⟨⟨y0, y1, y2, y3⟩, z0, z1, z2, z3⟩ := cells4 (kept_alloc x1)
              have Y := fun a' b' c' d' => set4r (kept_alloc x1) a' b' c' d'
              by_cases hc : c = 0
              · subst hc
                have hf : Hid (NX = (⟨3, [], v, 0⟩, n, 0)) := Lib.hid (by rw [HX.out]; rfl)
                obtain ⟨u0, u1, u2, u3⟩ := Y (.int .i64 3) (.string ⟨#[]⟩) (.int .i64 v) (.int .i64 0)
                clear HX Y
                go_wp2
                try simp only [Exit.inBlock, Exit.then]
                refine bodyPost_ret (by simp [results, Tryz.results48, go_sem, u0, u1, u2, u3]; try rfl) rfl ?_
                exact ⟨ret_val (by rw [hf.out]; rfl), ext_set4 (((Ext.refl _).alloc _).trans x1) (Nat.le_refl _) _ _ _ _⟩
              · have hf : Hid (NX = (⟨0, [], 0, 0⟩, 0, c)) := Lib.hid (by rw [HX.out]; exact if_neg hc)
                obtain ⟨u0, u1, u2, u3⟩ := Y (.int .i64 0) (.string ⟨#[]⟩) (.int .i64 0) (.int .i64 0)
                clear HX Y
                go_wp2
                try simp only [Exit.inBlock, Exit.then]
                refine bodyPost_ret (by simp [results, Tryz.results48, go_sem, u0, u1, u2, u3]; try rfl) rfl ?_
                exact ⟨ret_val (by rw [hf.out]; rfl), ext_set4 (((Ext.refl _).alloc _).trans x1) (Nat.le_refl _) _ _ _ _⟩
      · have HF : Hid (n = k) := Lib.hid (by rw [ha.out, show s.size - k = 0 by omega]; rfl)
        clear ha
        obtain rfl := HF.out
        go_wp2_with fail
        refine (parse_n (s.extract 0 n) v c _ (by rw [size_take s n hle]; omega) (HE.out.ext ((Ext.refl _).alloc _)) HP.out).mono ?_
        rintro e w1 ⟨rfl, x1⟩
        obtain ⟨⟨y0, y1, y2, y3⟩, z0, z1, z2, z3⟩ := cells4 (kept_alloc x1)
        have Y := fun a' b' c' d' => set4r (kept_alloc x1) a' b' c' d'
        by_cases hc : c = 0
        · subst hc
          have hf : Hid (NX = (⟨3, [], v, 0⟩, n, 0)) := Lib.hid (by rw [HX.out]; rfl)
          obtain ⟨u0, u1, u2, u3⟩ := Y (.int .i64 3) (.string ⟨#[]⟩) (.int .i64 v) (.int .i64 0)
          clear HX Y
          go_wp2
          try simp only [Exit.inBlock, Exit.then]
          refine bodyPost_ret (by simp [results, Tryz.results48, go_sem, u0, u1, u2, u3]; try rfl) rfl ?_
          exact ⟨ret_val (by rw [hf.out]; rfl), ext_set4 (((Ext.refl _).alloc _).trans x1) (Nat.le_refl _) _ _ _ _⟩
        · have hf : Hid (NX = (⟨0, [], 0, 0⟩, 0, c)) := Lib.hid (by rw [HX.out]; exact if_neg hc)
          obtain ⟨u0, u1, u2, u3⟩ := Y (.int .i64 0) (.string ⟨#[]⟩) (.int .i64 0) (.int .i64 0)
          clear HX Y
          go_wp2
          try simp only [Exit.inBlock, Exit.then]
          refine bodyPost_ret (by simp [results, Tryz.results48, go_sem, u0, u1, u2, u3]; try rfl) rfl ?_
          exact ⟨ret_val (by rw [hf.out]; rfl), ext_set4 (((Ext.refl _).alloc _).trans x1) (Nat.le_refl _) _ _ _ _⟩
  · have HD := Lib.hid hd; have HD1 := Lib.hid hd1; clear hd hd1
    go_enter Tryz.func48, Tryz.ntmps48
    go_wp2_with fail
    refine (HW.out _).mono ?_
    rintro e w1 ⟨rfl, rfl⟩
    go_wp2_with fail
    refine (HDG.out false 0 h0 HD.out _).mono ?_
    rintro e w1 ⟨rfl, rfl⟩
    go_wp2_with fail
    refine (HDG.out true 1 h1 HD1.out _).mono ?_
    rintro e w1 ⟨rfl, rfl⟩
    go_wp2_with fail
    go_loop [7] (fun v' => ∃ k : Nat, 1 ≤ k ∧ k ≤ s.size ∧ Hid (n = scan (okN s.data.toList) (s.size - k) k) ∧ v' = .int .i64 k) (fun v' => s.size - (RowKit.intOf v').toNat)
    case atStart => exact ⟨1, by omega, by omega, HSC, rfl⟩
    case round =>
      obtain ⟨k, hk1, hk, ha, rfl⟩ := hrel
      clear HSC
      by_cases hlt : k < s.size
      · have hst := ha.out
        rw [scan_step _ _ _ hlt] at hst
        have hok : okN s.data.toList k = (isL s[k] || isD s[k] || s[k] == 46) := by unfold okN; rw [bt_at s k hlt]
        rw [hok] at hst
        have HS := Lib.hid hst; clear hst hok ha
        by_cases c1 : isL s[k] = true
        · have HF : Hid (n = scan (okN s.data.toList) (s.size - (k + 1)) (k + 1)) := Lib.hid (by rw [HS.out, c1]; rfl)
          have HC1 := Lib.hid c1
          clear HS c1
          go_wp2_with fail
          refine (HLT.out true k hlt HC1.out _).mono ?_
          rintro e w1 ⟨rfl, rfl⟩
          go_wp2
          go_round
          case rel => exact ⟨k + 1, by omega, by omega, HF, by go_num⟩
          case measure => simp [RowKit.intOf]; omega
        · have c1' : isL s[k] = false := by simpa using c1
          clear c1
          by_cases c2 : isD s[k] = true
          · have HF : Hid (n = scan (okN s.data.toList) (s.size - (k + 1)) (k + 1)) := Lib.hid (by rw [HS.out, c1', c2]; rfl)
            have HC1 := Lib.hid c1'; have HC2 := Lib.hid c2
            clear HS c1' c2
            go_wp2_with fail
            refine (HLT.out false k hlt HC1.out _).mono ?_
            rintro e w1 ⟨rfl, rfl⟩
            go_wp2_with fail
            refine (HDG.out true k hlt HC2.out _).mono ?_
            rintro e w1 ⟨rfl, rfl⟩
            go_wp2
            go_round
            case rel => exact ⟨k + 1, by omega, by omega, HF, by go_num⟩
            case measure => simp [RowKit.intOf]; omega
          · have c2' : isD s[k] = false := by simpa using c2
            clear c2
            by_cases c3 : s[k] = 46
            · have HF : Hid (n = scan (okN s.data.toList) (s.size - (k + 1)) (k + 1)) := Lib.hid (by rw [HS.out, c1', c2', c3]; rfl)
              have b46 : ((s[k].toNat : Int) == 46) = true := by rw [c3]; rfl
              have HC1 := Lib.hid c1'; have HC2 := Lib.hid c2'
              clear HS c1' c2' c3
              go_wp2_with fail
              refine (HLT.out false k hlt HC1.out _).mono ?_
              rintro e w1 ⟨rfl, rfl⟩
              go_wp2_with fail
              refine (HDG.out false k hlt HC2.out _).mono ?_
              rintro e w1 ⟨rfl, rfl⟩
              go_wp2
              go_round
              case rel => exact ⟨k + 1, by omega, by omega, HF, by go_num⟩
              case measure => simp [RowKit.intOf]; omega
            · have c3' : (s[k] == 46) = false := by simpa using c3
              have HF : Hid (n = k) := Lib.hid (by rw [HS.out, c1', c2', c3']; rfl)
              have b46 : ((s[k].toNat : Int) == 46) = false := by rw [beq_eq_false_iff_ne]; intro e; exact c3 (UInt8.toNat_inj.1 (by have e48 : (46 : UInt8).toNat = 46 := rfl; omega))
              have HC1 := Lib.hid c1'; have HC2 := Lib.hid c2'
              clear HS c1' c2' c3 c3'
              go_wp2_with fail
              refine (HLT.out false k hlt HC1.out _).mono ?_
              rintro e w1 ⟨rfl, rfl⟩
              go_wp2_with fail
              refine (HDG.out false k hlt HC2.out _).mono ?_
              rintro e w1 ⟨rfl, rfl⟩
              obtain rfl := HF.out
              go_wp2_with fail
              refine (parse_n (s.extract 0 n) v c _ (by rw [size_take s n hle]; omega) (HE.out.ext ((Ext.refl _).alloc _)) HP.out).mono ?_
              rintro e w1 ⟨rfl, x1⟩
              obtain ⟨⟨y0, y1, y2, y3⟩, z0, z1, z2, z3⟩ := cells4 (kept_alloc x1)
              have Y := fun a' b' c' d' => set4r (kept_alloc x1) a' b' c' d'
              by_cases hc : c = 0
              · subst hc
                have hf : Hid (NX = (⟨3, [], v, 0⟩, n, 0)) := Lib.hid (by rw [HX.out]; rfl)
                obtain ⟨u0, u1, u2, u3⟩ := Y (.int .i64 3) (.string ⟨#[]⟩) (.int .i64 v) (.int .i64 0)
                clear HX Y
                go_wp2
                try simp only [Exit.inBlock, Exit.then]
                refine bodyPost_ret (by simp [results, Tryz.results48, go_sem, u0, u1, u2, u3]; try rfl) rfl ?_
                exact ⟨ret_val (by rw [hf.out]; rfl), ext_set4 (((Ext.refl _).alloc _).trans x1) (Nat.le_refl _) _ _ _ _⟩
              · have hf : Hid (NX = (⟨0, [], 0, 0⟩, 0, c)) := Lib.hid (by rw [HX.out]; exact if_neg hc)
                obtain ⟨u0, u1, u2, u3⟩ := Y (.int .i64 0) (.string ⟨#[]⟩) (.int .i64 0) (.int .i64 0)
                clear HX Y
                go_wp2
                try simp only [Exit.inBlock, Exit.then]
                refine bodyPost_ret (by simp [results, Tryz.results48, go_sem, u0, u1, u2, u3]; try rfl) rfl ?_
                exact ⟨ret_val (by rw [hf.out]; rfl), ext_set4 (((Ext.refl _).alloc _).trans x1) (Nat.le_refl _) _ _ _ _⟩
      · have HF : Hid (n = k) := Lib.hid (by rw [ha.out, show s.size - k = 0 by omega]; rfl)
        clear ha
        obtain rfl := HF.out
        go_wp2_with fail
        refine (parse_n (s.extract 0 n) v c _ (by rw [size_take s n hle]; omega) (HE.out.ext ((Ext.refl _).alloc _)) HP.out).mono ?_
        rintro e w1 ⟨rfl, x1⟩
        obtain ⟨⟨y0, y1, y2, y3⟩, z0, z1, z2, z3⟩ := cells4 (kept_alloc x1)
        have Y := fun a' b' c' d' => set4r (kept_alloc x1) a' b' c' d'
        by_cases hc : c = 0
        · subst hc
          have hf : Hid (NX = (⟨3, [], v, 0⟩, n, 0)) := Lib.hid (by rw [HX.out]; rfl)
          obtain ⟨u0, u1, u2, u3⟩ := Y (.int .i64 3) (.string ⟨#[]⟩) (.int .i64 v) (.int .i64 0)
          clear HX Y
          go_wp2
          try simp only [Exit.inBlock, Exit.then]
          refine bodyPost_ret (by simp [results, Tryz.results48, go_sem, u0, u1, u2, u3]; try rfl) rfl ?_
          exact ⟨ret_val (by rw [hf.out]; rfl), ext_set4 (((Ext.refl _).alloc _).trans x1) (Nat.le_refl _) _ _ _ _⟩
        · have hf : Hid (NX = (⟨0, [], 0, 0⟩, 0, c)) := Lib.hid (by rw [HX.out]; exact if_neg hc)
          obtain ⟨u0, u1, u2, u3⟩ := Y (.int .i64 0) (.string ⟨#[]⟩) (.int .i64 0) (.int .i64 0)
          clear HX Y
          go_wp2
          try simp only [Exit.inBlock, Exit.then]
          refine bodyPost_ret (by simp [results, Tryz.results48, go_sem, u0, u1, u2, u3]; try rfl) rfl ?_
          exact ⟨ret_val (by rw [hf.out]; rfl), ext_set4 (((Ext.refl _).alloc _).trans x1) (Nat.le_refl _) _ _ _ _⟩
end Go.Proofs.YtmallladeidkpaaGreatDoor.Lx
