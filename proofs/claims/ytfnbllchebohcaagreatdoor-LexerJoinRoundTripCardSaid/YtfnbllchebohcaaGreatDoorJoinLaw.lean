/- What the document's Join returns; the walks of LexerJoins and LexerJoinRoundTrip. -/
import Derived.Test.YtfnbllchebohcaaGreatDoorJoinW
import Derived.Deep.QuietTactic
import Derived.BigQuiet
namespace Go.Proofs.YtfnbllchebohcaaGreatDoor.Qo
open Go.RowKit Go.Lib Fx Lx

set_option maxHeartbeats 8000000 in
set_option maxRecDepth 1000000 in
theorem joinR_any (a : Option Addr) (L : List Tok) (cap : Nat) (w : World) (h : TokIn w a L) (hw : ∀ t ∈ L, TokWf t) (hs : ∀ t ∈ L, t.text.length ≤ 200) (hn : L.length ≤ 200) :
    Calls Tryz.prog 13 #[.slice a L.length cap] w fun e w' => e = .returned (joinV L) ∧ Ext w w' := by
  obtain ⟨N, hN⟩ : ∃ N, N = L.length := ⟨_, rfl⟩
  have HI := Lib.hid h; have HW := Lib.hid hw; have HS := Lib.hid hs
  rw [← hN] at hn ⊢
  have HN := Lib.hid hN
  clear h hw hN hs
  go_enter Tryz.func13, Tryz.ntmps13
  go_wp2_with fail
  go_loopw [4] (fun i' wr => ∃ k : Nat, k ≤ N ∧ i' = .int .i64 k ∧ Ext w wr ∧ Hid (∀ j (hj : j < L.length), j < k → (Lx.written L[j]).2 = true)) (fun i' _ => N - (RowKit.intOf i').toNat)
  case atStart => exact ⟨0, by omega, rfl, Ext.refl _, Lib.hid (fun j _ h => absurd h (by omega))⟩
  case round =>
    obtain ⟨k, hk, rfl, hx, hall⟩ := hrel
    by_cases hlt : k < N
    · have hkl : k < L.length := by rw [← HN.out]; exact hlt
      obtain ⟨g, o, rfl, c0, c1, c2, c3⟩ := (HI.out.ext hx) k hkl
      obtain ⟨wf0, wf1, wf2⟩ := HW.out L[k] (List.getElem_mem hkl)
      have hwr := fun w => valid_any L[k] w wf0
      have hbad := joinV_bad L k hkl
      have hgood : (Lx.written L[k]).2 = true → ∀ j (hj : j < L.length), j < k + 1 → (Lx.written L[j]).2 = true := fun hv j hj h => by
        by_cases e : j = k
        · subst e; exact hv
        · exact hall.out j hj (by omega)
      unfold tokV' at hwr
      generalize (Lx.written L[k]).2 = ok at hwr hbad hgood
      generalize L[k].kind = kd at c0 hwr
      generalize L[k].n = tn at c2 hwr
      generalize L[k].line = tl at c3 hwr
      generalize (⟨L[k].text.toArray⟩ : ByteArray) = x at c1 hwr
      have HWR := Lib.hid hwr; have HBAD := Lib.hid hbad; have HG := Lib.hid hgood
      clear hwr hbad hgood wf0 wf1 wf2
      go_wp2_with fail
      refine (HWR.out _).mono ?_
      rintro e w1 ⟨rfl, x1⟩
      cases ok
      · go_wp2_with fail
        go_returns
        exact ⟨ret_val (by rw [HBAD.out (by trivial)]; rfl), hx.trans x1⟩
      · go_wp2_with fail
        go_roundw
        case rel => exact ⟨k + 1, by omega, by go_num, hx.trans x1, Lib.hid (HG.out (by trivial))⟩
        case measure => simp [RowKit.intOf]; omega
    · obtain rfl : k = N := by omega
      have hgood : ∀ j (hj : j < L.length), (Lx.written L[j]).2 = true := fun j hj => hall.out j hj (by rw [HN.out]; exact hj)
      have HGOOD := Lib.hid hgood
      obtain ⟨wo, rfl⟩ : ∃ wo : World, wo = wr := ⟨_, rfl⟩
      clear hall hgood
      go_wp2_with fail
      go_loopw [5, 6] (fun ov i' wr => ∃ (i : Nat) (O : ByteArray), i ≤ k ∧ i' = .int .i64 i ∧ ov = .string O ∧ O.size ≤ 16384 ∧ Hid (O.data.toList = joinT (L.take i)) ∧ Ext w wr) (fun _ i' _ => k - (RowKit.intOf i').toNat)
      case atStart => exact ⟨0, ⟨#[]⟩, by omega, rfl, rfl, by decide, Lib.hid rfl, hx⟩
      case round =>
        obtain ⟨i, O, hi, rfl, rfl, hos, hol, hx⟩ := hrel
        by_cases hlt2 : i < k
        · have hkl : i < L.length := by rw [← HN.out]; exact hlt2
          obtain ⟨g, o, rfl, c0, c1, c2, c3⟩ := (HI.out.ext hx) i hkl
          obtain ⟨wf0, wf1, wf2⟩ := HW.out L[i] (List.getElem_mem hkl)
          have hwr := fun w => writtenR_any L[i] w wf0 wf1 wf2 (HGOOD.out i hkl)
          have hln := written_len L[i] ⟨wf0, wf1, wf2⟩ (HS.out L[i] (List.getElem_mem hkl))
          have hjn := joinT_next L i hkl
          have hlong : 16384 < (joinT (L.take (i + 1))).length → joinV L = .tuple #[.string ⟨#[]⟩, .int .i64 2] := fun h => joinV_long L HGOOD.out (by
            have := joinT_mono L (i + 1) L.length (by omega) (Nat.le_refl _)
            rw [List.take_length] at this
            omega)
          unfold tokV' at hwr
          obtain ⟨X, hX⟩ : ∃ X, (Lx.written L[i]).1 = X := ⟨_, rfl⟩
          rw [hX] at hwr hln hjn
          generalize L[i].kind = kd at c0 hwr
          generalize L[i].n = tn at c2 hwr
          generalize L[i].line = tl at c3 hwr
          generalize (⟨L[i].text.toArray⟩ : ByteArray) = x at c1 hwr
          obtain ⟨Y, hY⟩ : ∃ Y : ByteArray, Y = ⟨X.toArray⟩ := ⟨_, rfl⟩
          have hYl : Y.data.toList = X := by rw [hY]
          have hYs : Y.size ≤ 200 := by rw [hY, size_mk X]; exact hln
          have h32 : (O ++ (⟨#[32]⟩ : ByteArray)).data.toList = O.data.toList ++ [32] := data_app _ _
          have h32s : (O ++ (⟨#[32]⟩ : ByteArray)).size = O.size + 1 := by rw [size_len, h32, size_len]; simp
          have ha1 : (O ++ Y).data.toList = O.data.toList ++ X := by rw [data_app, hYl]
          have ha1s : (O ++ Y).size = O.size + Y.size := by rw [size_len, ha1, size_len, size_len, hYl]; simp
          have ha2 : ((O ++ (⟨#[32]⟩ : ByteArray)) ++ Y).data.toList = O.data.toList ++ [32] ++ X := by rw [data_app, hYl, h32]
          have ha2s : ((O ++ (⟨#[32]⟩ : ByteArray)) ++ Y).size = O.size + 1 + Y.size := by rw [size_len, ha2, size_len, size_len, hYl]; simp; omega
          rw [← hY] at hwr
          have b0 : (O ++ (⟨#[32]⟩ : ByteArray)).size ≤ 16385 := by omega
          have b1 : (O ++ Y).size ≤ 16600 := by omega
          have b2 : ((O ++ (⟨#[32]⟩ : ByteArray)) ++ Y).size ≤ 16600 := by omega
          have HWR := Lib.hid hwr; have HJN := Lib.hid hjn; have HLG := Lib.hid hlong; have HA1 := Lib.hid ha1; have HA2 := Lib.hid ha2; have HA1S := Lib.hid ha1s; have HA2S := Lib.hid ha2s
          clear hX hwr hjn hlong hY hYl hln wf0 wf1 wf2 h32 h32s ha1 ha1s ha2 ha2s
          by_cases h0 : i = 0
          · have g0 : ¬ (0 : Int) < (i : Int) := by omega
            have hj : Hid ((O ++ Y).data.toList = joinT (L.take (i + 1))) := Lib.hid (by rw [HJN.out, HA1.out, if_pos h0, hol.out, h0]; rfl)
            clear h0
            by_cases hb : 16384 < O.size + Y.size
            · have hf : Hid (joinV L = .tuple #[.string ⟨#[]⟩, .int .i64 2]) := Lib.hid (HLG.out (by rw [← hj.out, ← size_len, HA1S.out]; exact hb))
              go_wp2_with fail
              refine (HWR.out _).mono ?_
              rintro e w1 ⟨rfl, x1⟩
              go_wp2_with fail
              go_returns
              exact ⟨ret_val (by rw [hf.out]; rfl), hx.trans x1⟩
            · go_wp2_with fail
              refine (HWR.out _).mono ?_
              rintro e w1 ⟨rfl, x1⟩
              go_wp2_with fail
              go_roundw
              case rel => exact ⟨i + 1, _, by omega, by go_num, rfl, by rw [HA1S.out]; omega, hj, hx.trans x1⟩
              case measure => simp [RowKit.intOf]; omega
          · have g0 : (0 : Int) < (i : Int) := by omega
            have hj : Hid (((O ++ (⟨#[32]⟩ : ByteArray)) ++ Y).data.toList = joinT (L.take (i + 1))) := Lib.hid (by rw [HJN.out, HA2.out, if_neg h0, hol.out])
            clear h0
            by_cases hb : 16384 < O.size + 1 + Y.size
            · have hf : Hid (joinV L = .tuple #[.string ⟨#[]⟩, .int .i64 2]) := Lib.hid (HLG.out (by rw [← hj.out, ← size_len, HA2S.out]; exact hb))
              go_wp2_with fail
              refine (HWR.out _).mono ?_
              rintro e w1 ⟨rfl, x1⟩
              go_wp2_with fail
              go_returns
              exact ⟨ret_val (by rw [hf.out]; rfl), hx.trans x1⟩
            · go_wp2_with fail
              refine (HWR.out _).mono ?_
              rintro e w1 ⟨rfl, x1⟩
              go_wp2_with fail
              go_roundw
              case rel => exact ⟨i + 1, _, by omega, by go_num, rfl, by rw [HA2S.out]; omega, hj, hx.trans x1⟩
              case measure => simp [RowKit.intOf]; omega
        · obtain rfl : i = k := by omega
          have hf : Hid (joinV L = .tuple #[.string O, .int .i64 0]) := Lib.hid (by
            have e : L.take i = L := List.take_of_length_le (by rw [HN.out]; exact Nat.le_refl _)
            have h1 := hol.out
            rw [e] at h1
            rw [joinV_ok L HGOOD.out (by rw [← h1, ← size_len]; exact hos), ← h1, mk_data'])
          go_wp2_with fail
          go_returns
          exact ⟨ret_val (by rw [hf.out]; rfl), hx⟩

theorem joinV_ways (L : List Tok) : ∃ X c, joinP L = (X, c) := ⟨_, _, rfl⟩

set_option maxHeartbeats 8000000 in
set_option maxRecDepth 1000000 in
theorem joins_walk (a : Option Addr) (L : List Tok) (cap : Nat) (w : World) (h : TokIn w a L) (hw : ∀ t ∈ L, TokWf t) (hn : L.length ≤ 9223372036854775807) (he : Env w) :
    Calls Tryz.prog 4 #[.slice a L.length cap] w fun e w' => e = .returned (.bool true) ∧ Ext w w' := by
  have hsm := fun w h => small_any a L cap w h hn hw
  have HE := Lib.hid he; have HI := Lib.hid h
  cases hb : smallB L
  · rw [hb] at hsm
    have HSM := Lib.hid hsm
    clear hsm hb he h hw
    go_enter Tryz.func4, Tryz.ntmps4
    go_wp2_with fail
    refine (HSM.out _ HI.out).mono ?_
    rintro e w1 ⟨rfl, rfl⟩
    go_wp2_with fail
    refine (awake_any _ HE.out).mono ?_
    rintro e w2 ⟨rfl, x2⟩
    go_wp2_with fail
    go_ret
    exact ⟨rfl, x2⟩
  · rw [hb] at hsm
    have hsm1 : L.length ≤ 200 ∧ ∀ t ∈ L, t.text.length ≤ 200 := by
      unfold smallB at hb
      rw [Bool.and_eq_true, decide_eq_true_eq, List.all_eq_true] at hb
      exact ⟨hb.1, fun t ht => of_decide_eq_true (hb.2 t ht)⟩
    have hj := fun w h he => join_any a L cap w h hw hsm1.2 hsm1.1 he
    have hjr := fun w h => joinR_any a L cap w h hw hsm1.2 hsm1.1
    unfold joinV at hj hjr
    obtain ⟨X, c, hX⟩ := joinV_ways L
    rw [hX] at hj hjr
    dsimp only at hj hjr
    generalize (⟨X.toArray⟩ : ByteArray) = Y at hj hjr
    have HSM := Lib.hid hsm; have HJ := Lib.hid hj; have HJR := Lib.hid hjr
    clear hsm hb he h hw hj hjr hX hsm1
    go_enter Tryz.func4, Tryz.ntmps4
    go_wp2_with fail
    refine (HSM.out _ HI.out).mono ?_
    rintro e w1 ⟨rfl, rfl⟩
    go_wp2_with fail
    refine (HJ.out _ HI.out HE.out).mono ?_
    rintro e w1 ⟨rfl, x1⟩
    go_wp2_with fail
    refine (HJR.out _ (HI.out.ext x1)).mono ?_
    rintro e w2 ⟨rfl, x2⟩
    have hx2 := x1.trans x2
    go_wp2_with fail
    refine (awake_any _ (HE.out.ext hx2)).mono ?_
    rintro e w3 ⟨rfl, x3⟩
    go_wp2_with fail
    go_ret
    exact ⟨rfl, hx2.trans x3⟩
end Go.Proofs.YtfnbllchebohcaaGreatDoor.Qo
