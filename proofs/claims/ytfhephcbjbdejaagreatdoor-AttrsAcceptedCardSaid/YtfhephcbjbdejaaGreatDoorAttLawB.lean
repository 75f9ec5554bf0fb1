/- The laws of Check and of the accepted numbers, walked. -/
import Derived.Test.YtfhephcbjbdejaaGreatDoorAttK
import Derived.Test.YtfhephcbjbdejaaGreatDoorAttG
import Derived.Test.YtfhephcbjbdejaaGreatDoorFixRound
import Derived.Test.YtfhephcbjbdejaaGreatDoorFixFormatS
import Derived.Lib.QuietBelow
namespace Go.Proofs.YtfhephcbjbdejaaGreatDoor.At
open Go.RowKit Go.Sort Go.Lib Go.Shelf Fx Lx

theorem checkAll_same (kind : Int) (L : List Atr) : checkAllV kind L = checkAllRV kind L := by
  unfold checkAllV checkAllRV
  rw [allGo_congr _ _ (fun q => check_same kind q.1 q.2)]
theorem fmt_len (n : Int) (h0 : -9223372036854775808 ≤ n) (h1 : n ≤ 9223372036854775807) : (fmt n).length ≤ 30 := by
  obtain ⟨u, q, r, A, D, _, _, _, _, _, _, _, _, hD, hA, hDl, hf⟩ := fmt_parts n h0 h1
  have ht := (trim_props (D.drop 1)).2.2
  rw [hf]
  simp only [List.length_append, List.length_drop] at ht ⊢
  have e1 : (if n < 0 then [45] else ([] : List UInt8)).length ≤ 1 := by split <;> simp
  have e2 : (if 0 < r then 46 :: trimRightB (D.drop 1) 48 else []).length ≤ 4 := by
    split
    · simp only [List.length_cons]; omega
    · simp
  omega
set_option maxHeartbeats 2000000 in
set_option maxRecDepth 100000 in
theorem checks_card (kind : Int) (v : Value) (w : World) (_ : (Lit.int .i64 kind).wf = true) (hv : AtrsArg w v) (he : Env w) :
    Calls Tryz.prog 8 #[.int .i64 kind, v] w fun e w' => e = .returned (.bool true) ∧ Ext w w' := by
  obtain ⟨a, L, cap, rfl, h, hs, h1, h2, _⟩ := hv
  have hf := few_arg a L cap w h hs h1 h2
  have HE := Lib.hid he
  cases hfb : fewB L
  · rw [hfb] at hf
    have HF := Lib.hid hf
    clear hf hfb h hs h1 h2 he
    generalize L.length = N at *
    go_enter Tryz.func8, Tryz.ntmps8
    go_wp2_with fail
    refine HF.out.mono ?_
    rintro e w1 ⟨rfl, x1⟩
    go_wp2_with fail
    refine (awake_any _ (HE.out.ext x1)).mono ?_
    rintro e w2 ⟨rfl, x2⟩
    go_wp2_with fail
    go_returns
    exact ⟨rfl, x1.trans x2⟩
  · rw [hfb] at hf
    obtain ⟨hl, hq⟩ := few_facts hfb
    have hca := fun w' (y : Ext w w') => checkAll_any kind a L cap w' (h.ext y) (by omega) h1 (fun q hh => by have := hq q hh; unfold maxLen; omega) (he.ext y)
    have hcr := fun w' (y : Ext w w') => checkAllR_any kind a L cap w' (h.ext y) (by omega) h1 (fun q hh => by have := hq q hh; omega)
    rw [checkAll_same] at hca
    obtain ⟨V, hV⟩ : ∃ V, V = checkAllRV kind L := ⟨_, rfl⟩
    rw [← hV] at hca hcr
    obtain ⟨N, hN⟩ : ∃ N, N = L.length := ⟨_, rfl⟩
    rw [← hN] at hf hca hcr ⊢
    have hNb : N ≤ 60 := by omega
    have HF := Lib.hid hf; have HI := Lib.hid h; have HN := Lib.hid hN; have HQ := Lib.hid hq; have HCA := Lib.hid hca; have HCR := Lib.hid hcr
    clear hf hfb h hs h1 h2 he hl hq hca hcr hV hN
    go_enter Tryz.func8, Tryz.ntmps8
    go_wp2_with fail
    refine HF.out.mono ?_
    rintro e w1 ⟨rfl, x1⟩
    have X1 := Lib.hid x1
    clear x1
    go_wp2_with fail
    go_loopw [5] (fun i' wr => ∃ k : Nat, k ≤ N ∧ i' = .int .i64 k ∧ Ext w wr) (fun i' _ => N - (RowKit.intOf i').toNat)
    case atStart => exact ⟨0, by omega, rfl, X1.out⟩
    case round =>
      obtain ⟨k, hk, rfl, hx⟩ := hrel
      clear X1
      by_cases hlt : k < N
      · have hkl : k < L.length := by rw [← HN.out]; exact hlt
        obtain ⟨g, o, rfl, c0, c1⟩ := (HI.out.ext hx) k hkl
        obtain ⟨hq1, hq2⟩ := HQ.out _ (List.getElem_mem hkl)
        generalize L[k].1 = n at c0 hq1
        generalize L[k].2 = d at c1 hq2
        have c0' := cell_regrown c0
        have c1' := cell_regrown c1
        have cF1 : ∀ dd os, Calls Tryz.prog 22 #[.int .i64 kind, .agg #[.string n, .string d]] (grow (redrawn wr dd) os) fun e w'' => e = .returned (.int .i64 (checkRV kind n d)) ∧ ∃ p : Regrown, w'' = grow (redrawn wr p.d) p.os := fun dd os => by
          have hh := check_any kind n d (grow (redrawn wr dd) os) (by unfold maxLen; omega) (by omega) (HE.out.ext (hx.trans (below_regrown _ dd os)))
          rw [check_same] at hh
          exact Calls.regrown_of hh
        have cF2 : ∀ dd os, Calls Tryz.prog 24 #[.int .i64 kind, .agg #[.string n, .string d]] (grow (redrawn wr dd) os) fun e w'' => e = .returned (.int .i64 (checkRV kind n d)) ∧ ∃ p : Regrown, w'' = grow (redrawn wr p.d) p.os := fun dd os =>
          Calls.regrown_of (checkR_any kind n d (grow (redrawn wr dd) os) (by omega))
        generalize checkRV kind n d = U at cF1 cF2
        have CF1 := Lib.hid cF1; have CF2 := Lib.hid cF2
        have HB := Lib.hid (fun dq osq => hx.trans (below_regrown wr dq osq))
        clear cF1 cF2 hq1 hq2 c0 c1
        go_wp2_with fail
        refine wp_region_quiet_below (by kernel_rfl) (by kernel_rfl) ?_
        repeat (go_big_quiet_step (first | (go_at_call 22; exact CF1.out _ _) | (go_at_call 24; exact CF2.out _ _)))
        refine wpQuiet_nil ?_
        intro _ hw'
        obtain ⟨⟨dq, osq⟩, hw''⟩ := hw'
        subst hw''
        go_wp2_with fail
        go_roundw
        case rel => exact ⟨k + 1, by omega, by go_num, HB.out _ _⟩
        case measure => simp [RowKit.intOf]; omega
      · go_wp2_with fail
        refine (HCA.out _ hx).mono ?_
        rintro e w2 ⟨rfl, x2⟩
        have y2 := hx.trans x2
        go_wp2_with fail
        refine (HCR.out _ y2).mono ?_
        rintro e w3 ⟨rfl, x3⟩
        have y3 := y2.trans x3
        go_wp2_with fail
        refine (awake_any _ (HE.out.ext y3)).mono ?_
        rintro e w4 ⟨rfl, x4⟩
        go_wp2_with fail
        go_returns
        exact ⟨rfl, y3.trans x4⟩
/-- A number that Number returns lies in its rule's range. -/
theorem num_range (k : Rul) (G : ByteArray × Bool) (h : k.1 = 2 ∨ k.1 = 3) (h1 : k.2.1 ≤ k.2.2.2) (h2 : k.2.2.2 ≤ k.2.2.1) : k.2.1 ≤ numRT k G ∧ numRT k G ≤ k.2.2.1 := by
  unfold numRT
  rw [if_neg (by omega)]
  by_cases c1 : G.2 = false
  · rw [if_pos c1]; exact ⟨h1, h2⟩
  rw [if_neg c1]
  cases hv : (valT k (parse G.1.data.toList)).2
  · rw [if_pos rfl]; exact ⟨h1, h2⟩
  · rw [if_neg (by decide)]
    unfold valT valN at hv ⊢
    by_cases hz : (parse G.1.data.toList).2 = 0
    · rw [if_neg (show ¬ (parse G.1.data.toList).2 ≠ 0 from fun e => e hz)] at hv ⊢
      by_cases h3 : k.1 = 3
      · rw [if_pos h3] at hv ⊢
        by_cases hm : (parse G.1.data.toList).1.tmod 1000 = 0
        · rw [if_neg (show ¬ (parse G.1.data.toList).1.tmod 1000 ≠ 0 from fun e => e hm)] at hv ⊢
          simp only [Bool.and_eq_true, decide_eq_true_eq] at hv
          exact hv
        · rw [if_pos hm] at hv; cases hv
      · rw [if_neg h3] at hv ⊢
        simp only [Bool.and_eq_true, decide_eq_true_eq] at hv
        exact hv
    · rw [if_pos hz] at hv; cases hv
theorem known_kind (kind : Int) (l : List UInt8) (h : (knownT kind l).1 ≠ 0) : knownB kind = true := by
  unfold knownT at h
  unfold knownB
  by_cases h1 : kind = 1
  · subst h1; rfl
  rw [if_neg h1] at h
  by_cases h2 : kind = 2
  · subst h2; rfl
  rw [if_neg h2] at h
  by_cases h4 : kind = 4
  · subst h4; rfl
  rw [if_neg h4] at h
  exact absurd rfl h
theorem accepted (kind : Int) (key : ByteArray) (G : ByteArray × Bool) (h : (knownT kind key.data.toList).1 = 2 ∨ (knownT kind key.data.toList).1 = 3) :
    (0 ≤ numRT (knownT kind key.data.toList) G ∧ numRT (knownT kind key.data.toList) G ≤ 1048576) ∧
    ((knownT kind key.data.toList).1 = 2 → checkV kind key ⟨(fmt (numRT (knownT kind key.data.toList) G)).toArray⟩ = 0) ∧
    ((knownT kind key.data.toList).1 = 3 → numRT (knownT kind key.data.toList) G ≤ 1000 ∧ checkV kind key ⟨(fmt (1000 * numRT (knownT kind key.data.toList) G)).toArray⟩ = 0) := by
  have hrk := rule_known kind key.data.toList
  have hkk := known_kind kind key.data.toList (by omega)
  have hck := fun v => check_same kind key v
  unfold checkRV at hck
  generalize ruleT kind key.data.toList = r at hrk
  generalize knownT kind key.data.toList = k at hrk hkk h hck ⊢
  have hb : 0 ≤ k.2.1 ∧ k.2.1 ≤ k.2.2.2 ∧ k.2.2.2 ≤ k.2.2.1 ∧ k.2.2.1 ≤ 1048576 ∧ (k.1 = 3 → k.2.2.1 ≤ 1000) := by
    unfold RK at hrk
    rcases hrk with ⟨a, b⟩ | ⟨a, b⟩ | ⟨a, b⟩ | ⟨a, b⟩ | ⟨a, b, c, d⟩ | ⟨a, b, c, d, e, f⟩
    · omega
    · omega
    · omega
    · omega
    · omega
    · omega
  obtain ⟨b1, b2, b3, b4, b5⟩ := hb
  obtain ⟨n1, n2⟩ := num_range k G h b2 b3
  generalize numRT k G = n at n1 n2 ⊢
  have hok : ∀ v, okR k v = true → checkV kind key v = 0 := fun v hv => by
    rw [hck v, if_neg (by rw [hkk]; decide), if_neg (by omega), if_neg (by omega), if_pos hv]
  have hval : ∀ v : ByteArray, okR k v = (valT k (parse v.data.toList)).2 := fun v => by
    unfold okR; rw [if_neg (by omega), if_pos h]
  refine ⟨by omega, fun h2 => hok _ ?_, fun h3 => ⟨by have := b5 h3; omega, hok _ ?_⟩⟩
  · rw [hval]
    have e : parse (⟨(fmt n).toArray⟩ : ByteArray).data.toList = (n, 0) := by
      show parse (fmt n).toArray.toList = _
      rw [List.toList_toArray, parse_fmt, if_pos (by omega)]
    rw [e]
    unfold valT valN
    rw [if_neg (by simp), if_neg (by omega)]
    simp only [Bool.and_eq_true, decide_eq_true_eq]
    exact ⟨n1, n2⟩
  · rw [hval]
    have := b5 h3
    have e : parse (⟨(fmt (1000 * n)).toArray⟩ : ByteArray).data.toList = (1000 * n, 0) := by
      show parse (fmt (1000 * n)).toArray.toList = _
      rw [List.toList_toArray, parse_fmt, if_pos (by omega)]
    rw [e]
    unfold valT valN
    rw [if_neg (by simp), if_pos h3, if_neg (by simp [Int.mul_tmod_right])]
    simp only [Bool.and_eq_true, decide_eq_true_eq]
    rw [Int.mul_tdiv_cancel_left _ (by decide)]
    exact ⟨n1, n2⟩
theorem known_box (w1 : World) (a lo hi d : Int) : ∀ w2, Ext (w1.alloc (.cells #[.int .i64 a, .int .i64 lo, .int .i64 hi, .int .i64 d] 42)) w2 → w2.cell? ⟨w1.heap.size, 0, none⟩ = some (.int .i64 a) := fun w2 x => by
  have hb := heap_alloc_new w1 (.cells #[.int .i64 a, .int .i64 lo, .int .i64 hi, .int .i64 d] 42)
  exact x.cell (by rw [Lib.cell_of_heap hb]; rfl)
set_option maxHeartbeats 2000000 in
set_option maxRecDepth 100000 in
theorem accepted_card (kind : Int) (v : Value) (x : ByteArray) (w : World) (_ : (Lit.int .i64 kind).wf = true) (hv : AtrsArg w v) (hx : x.size ≤ maxLen) (he : Env w) :
    Calls Tryz.prog 7 #[.int .i64 kind, v, .string x] w fun e w' => e = .returned (.bool true) ∧ Ext w w' := by
  obtain ⟨a, L, cap, rfl, h, hs, h1, h2, _⟩ := hv
  have hf := fun w' (y : Ext w w') => few_arg a L cap w' (h.ext y) hs h1 h2
  have hkn := known_any kind x w
  have hac := accepted kind x (getT L x)
  obtain ⟨k, lo, hi, d, hr⟩ : ∃ k lo hi d, knownT kind x.data.toList = (k, lo, hi, d) := ⟨_, _, _, _, rfl⟩
  have HE := Lib.hid he
  have HKB := Lib.hid known_box
  have HAW := Lib.hid (fun w' (y : Ext w w') => awake_any w' (he.ext y))
  cases hfb : fewB L
  · rw [hfb] at hf
    rw [hr] at hkn
    unfold knownV at hkn
    dsimp only at hkn
    have HF := Lib.hid hf; have HKN := Lib.hid hkn
    clear hf hfb h hs h1 h2 he hkn hac hr hx
    generalize L.length = N at *
    go_enter Tryz.func7, Tryz.ntmps7
    go_wp2_with fail
    refine HKN.out.mono ?_
    rintro e w1 ⟨rfl, x1⟩
    go_wp2_with fail
    refine (HF.out _ (x1.alloc _)).mono ?_
    rintro e w2 ⟨rfl, x2⟩
    have y2 := (x1.alloc _).trans x2
    go_wp2_with fail
    refine (HAW.out _ y2).mono ?_
    rintro e w3 ⟨rfl, x3⟩
    go_wp2_with fail
    go_returns
    exact ⟨rfl, y2.trans x3⟩
  · rw [hfb] at hf
    obtain ⟨hl, hq⟩ := few_facts hfb
    have hnm := fun w' (y : Ext w w') => num_any kind a L cap x w' (h.ext y) (by omega) (fun q hh => by have := hq q hh; omega) hx (he.ext y)
    rw [num_same] at hnm
    have hck := fun (z : ByteArray) (w' : World) (y : Ext w w') (hz : z.size < 4294967281) => check_any kind x z w' hx hz (he.ext y)
    have HF := Lib.hid hf
    by_cases h23 : k = 2 ∨ k = 3
    · rw [hr] at hac
      obtain ⟨⟨n0, n1⟩, hc2, hc3⟩ := hac h23
      rw [hr] at hkn hnm
      generalize numRT (k, lo, hi, d) (getT L x) = n at hnm hc2 hc3 n0 n1
      dsimp only at hc2 hc3
      unfold knownV at hkn
      dsimp only at hkn
      have hfl : ∀ m : Int, 0 ≤ m → m ≤ 1048576 → (fmt m).length < 4294967281 := fun m h0 h1 => by
        have := fmt_len m (by omega) (by omega)
        omega
      rcases h23 with rfl | rfl
      · have hc := hc2 rfl
        have hfr := fun w => formatR_any n w (by omega) (by omega)
        have hsz : (⟨(fmt n).toArray⟩ : ByteArray).size < 4294967281 := by
          have := hfl n n0 n1
          rw [size_len]; simpa using this
        generalize (⟨(fmt n).toArray⟩ : ByteArray) = z at hc hfr hsz
        have hcz := fun w' y => hck z w' y hsz
        rw [hc] at hcz
        have HKN := Lib.hid hkn; have HNM := Lib.hid hnm; have HFR := Lib.hid hfr; have HCZ := Lib.hid hcz
        clear hf hfb h hs h1 h2 he hkn hac hr hx hl hq hnm hck hc2 hc3 hfl hc hfr hsz hcz
        generalize L.length = N at *
        go_enter Tryz.func7, Tryz.ntmps7
        go_wp2_with fail
        refine HKN.out.mono ?_
        rintro e w1 ⟨rfl, x1⟩
        go_wp2_with fail
        refine (HF.out _ (x1.alloc _)).mono ?_
        rintro e w2 ⟨rfl, x2⟩
        have y2 := (x1.alloc _).trans x2
        have b2 := HKB.out w1 2 lo hi d w2 x2
        go_wp2_with fail
        refine (HNM.out _ y2).mono ?_
        rintro e w3 ⟨rfl, x3⟩
        have y3 := y2.trans x3
        have b3 := HKB.out w1 2 lo hi d w3 (x2.trans x3)
        go_wp2_with fail
        refine (HFR.out _).mono ?_
        rintro e w3' ⟨rfl, rfl⟩
        go_wp2_with fail
        refine (HCZ.out _ y3).mono ?_
        rintro e w4 ⟨rfl, x4⟩
        have y4 := y3.trans x4
        go_wp2_with fail
        refine (HAW.out _ y4).mono ?_
        rintro e w5 ⟨rfl, x5⟩
        go_wp2_with fail
        go_returns
        exact ⟨rfl, y4.trans x5⟩
      · obtain ⟨n2, hc⟩ := hc3 rfl
        have hfr := fun w => formatR_any (1000 * n) w (by omega) (by omega)
        have hsz : (⟨(fmt (1000 * n)).toArray⟩ : ByteArray).size < 4294967281 := by
          have := hfl (1000 * n) (by omega) (by omega)
          rw [size_len]; simpa using this
        generalize (⟨(fmt (1000 * n)).toArray⟩ : ByteArray) = z at hc hfr hsz
        have hcz := fun w' y => hck z w' y hsz
        rw [hc] at hcz
        have HKN := Lib.hid hkn; have HNM := Lib.hid hnm; have HFR := Lib.hid hfr; have HCZ := Lib.hid hcz
        clear hf hfb h hs h1 h2 he hkn hac hr hx hl hq hnm hck hc2 hc3 hfl hc hfr hsz hcz
        generalize L.length = N at *
        go_enter Tryz.func7, Tryz.ntmps7
        go_wp2_with fail
        refine HKN.out.mono ?_
        rintro e w1 ⟨rfl, x1⟩
        go_wp2_with fail
        refine (HF.out _ (x1.alloc _)).mono ?_
        rintro e w2 ⟨rfl, x2⟩
        have y2 := (x1.alloc _).trans x2
        have b2 := HKB.out w1 3 lo hi d w2 x2
        go_wp2_with fail
        refine (HNM.out _ y2).mono ?_
        rintro e w3 ⟨rfl, x3⟩
        have y3 := y2.trans x3
        have b3 := HKB.out w1 3 lo hi d w3 (x2.trans x3)
        go_wp2_with fail
        refine (HFR.out _).mono ?_
        rintro e w3' ⟨rfl, rfl⟩
        go_wp2_with fail
        refine (HCZ.out _ y3).mono ?_
        rintro e w4 ⟨rfl, x4⟩
        have y4 := y3.trans x4
        go_wp2_with fail
        refine (HAW.out _ y4).mono ?_
        rintro e w5 ⟨rfl, x5⟩
        go_wp2_with fail
        go_returns
        exact ⟨rfl, y4.trans x5⟩
    · rw [hr] at hkn
      unfold knownV at hkn
      dsimp only at hkn
      obtain ⟨f2, f2b⟩ := ne_facts (show k ≠ 2 from fun e => h23 (.inl e))
      obtain ⟨f3, f3b⟩ := ne_facts (show k ≠ 3 from fun e => h23 (.inr e))
      have HKN := Lib.hid hkn
      clear hf hfb h hs h1 h2 he hkn hac hr hx hl hq hnm hck h23
      generalize L.length = N at *
      go_enter Tryz.func7, Tryz.ntmps7
      go_wp2_with fail
      refine HKN.out.mono ?_
      rintro e w1 ⟨rfl, x1⟩
      go_wp2_with fail
      refine (HF.out _ (x1.alloc _)).mono ?_
      rintro e w2 ⟨rfl, x2⟩
      have y2 := (x1.alloc _).trans x2
      have b2 := HKB.out w1 k lo hi d w2 x2
      go_wp2_with fail
      refine (HAW.out _ y2).mono ?_
      rintro e w3 ⟨rfl, x3⟩
      go_wp2_with fail
      go_returns
      exact ⟨rfl, y2.trans x3⟩
end Go.Proofs.YtfhephcbjbdejaaGreatDoor.At
