/- The walk of LexerJoinRoundTrip. -/
import Derived.Test.YtfnbllchebohcaaGreatDoorJoinOpen
namespace Go.Proofs.YtfnbllchebohcaaGreatDoor.Qo
open Go.RowKit Go.Lib Fx Lx

theorem joinP_ways (L : List Tok) : (∃ c, joinP L = ([], c) ∧ (c = 1 ∨ c = 2)) ∨ (joinP L = (joinT L, 0) ∧ (∀ t ∈ L, (Lx.written t).2 = true) ∧ (joinT L).length ≤ 16384) := by
  unfold joinP
  by_cases h : L.all (fun t => (Lx.written t).2) = true
  · rw [if_pos h]
    by_cases h2 : 16384 < (joinT L).length
    · exact .inl ⟨2, by rw [if_pos h2], .inr rfl⟩
    · exact .inr ⟨by rw [if_neg h2], fun t ht => List.all_eq_true.1 h t ht, by omega⟩
  · exact .inl ⟨1, by rw [if_neg h], .inl rfl⟩

set_option maxHeartbeats 8000000 in
set_option maxRecDepth 1000000 in
theorem trip_walk (a : Option Addr) (L : List Tok) (cap : Nat) (w : World) (h : TokIn w a L) (hw : ∀ t ∈ L, TokWf t) (hn : L.length ≤ 9223372036854775807) (he : Env w) :
    Calls Tryz.prog 5 #[.slice a L.length cap] w fun e w' => e = .returned (.bool true) ∧ Ext w w' := by
  have hsm := fun w h => small_any a L cap w h hn hw
  have HE := Lib.hid he; have HI := Lib.hid h
  cases hb : smallB L
  · rw [hb] at hsm
    have HSM := Lib.hid hsm
    clear hsm hb he h hw
    go_enter Tryz.func5, Tryz.ntmps5
    go_wp2_with fail
    refine (HSM.out _ HI.out).mono ?_
    rintro e w1 ⟨rfl, rfl⟩
    go_wp2_with fail
    refine (awake_any _ HE.out).mono ?_
    rintro e w2 ⟨rfl, x2⟩
    go_wp2_with fail
    go_ret
    exact ⟨rfl, x2⟩
  · rw [hb] at hsm
    have hsm1 : L.length ≤ 200 ∧ ∀ t ∈ L, t.text.length ≤ 200 := by
      unfold smallB at hb
      rw [Bool.and_eq_true, decide_eq_true_eq, List.all_eq_true] at hb
      exact ⟨hb.1, fun t ht => of_decide_eq_true (hb.2 t ht)⟩
    have hj := fun w h he => join_any a L cap w h hw hsm1.2 hsm1.1 he
    unfold joinV at hj
    have HSM := Lib.hid hsm
    rcases joinP_ways L with ⟨c, hX, hc⟩ | ⟨hX, hval, hlen⟩
    · rw [hX] at hj
      rcases hc with rfl | rfl
      all_goals
        have HJ := Lib.hid hj
        clear hsm hb he h hw hj hX hsm1
        go_enter Tryz.func5, Tryz.ntmps5
        go_wp2_with fail
        refine (HSM.out _ HI.out).mono ?_
        rintro e w1 ⟨rfl, rfl⟩
        go_wp2_with fail
        refine (HJ.out _ HI.out HE.out).mono ?_
        rintro e w1 ⟨rfl, x1⟩
        go_wp2_with fail
        refine (awake_any _ (HE.out.ext x1)).mono ?_
        rintro e w3 ⟨rfl, x3⟩
        go_wp2_with fail
        go_ret
        exact ⟨rfl, x1.trans x3⟩
    · rw [hX] at hj
      have htk := fun w he => tokenize_any ⟨(joinT L).toArray⟩ w (by rw [size_mk]; omega) he
      rw [show (⟨(joinT L).toArray⟩ : ByteArray).data.toList = joinT L from rfl, tokenize_join L hval hlen] at htk
      dsimp only at hj
      have hsz : (⟨(joinT L).toArray⟩ : ByteArray).size ≤ 16384 := by rw [size_mk]; exact hlen
      generalize (⟨(joinT L).toArray⟩ : ByteArray) = Y at hj htk hsz
      obtain ⟨N, hN⟩ : ∃ N, N = L.length := ⟨_, rfl⟩
      have hml : (L.map online).length = N := by rw [List.length_map, hN]
      rw [← hN] at hn hj hsm hsm1 HSM ⊢
      have hn200 := hsm1.1
      have HJ := Lib.hid hj; have HT := Lib.hid htk; have HN := Lib.hid hN; have HML := Lib.hid hml
      clear hsm hb he h hw hj hX hsm1 htk hval hlen hN hml
      go_enter Tryz.func5, Tryz.ntmps5
      go_wp2_with fail
      refine (HSM.out _ HI.out).mono ?_
      rintro e w1 ⟨rfl, rfl⟩
      go_wp2_with fail
      refine (HJ.out _ HI.out HE.out).mono ?_
      rintro e w1 ⟨rfl, x1⟩
      go_wp2_with fail
      refine (HT.out _ (HE.out.ext x1)).mono ?_
      rintro e w2 ⟨⟨v, rfl, hown⟩, x2⟩
      have hx2 := x1.trans x2
      obtain ⟨a', cap', rfl, hrow⟩ : ∃ a' cap', v = .slice a' N cap' ∧ (0 < N → ∃ g, a' = some ⟨g, 0, none⟩ ∧ RowAt g (L.map online) w2) := by
        rcases own_row hown with ⟨h1, a', c', rfl⟩ | ⟨g, c', rfl, _, hr⟩
        · have h0 : N = 0 := by rw [← HML.out]; exact (congrArg List.length h1).trans rfl
          subst h0
          exact ⟨a', c', rfl, fun h => absurd h (by omega)⟩
        · exact ⟨some ⟨g, 0, none⟩, c', by dsimp only; rw [HML.out], fun _ => ⟨g, rfl, hr⟩⟩
      have HROW := Lib.hid hrow
      have HI2 := Lib.hid (HI.out.ext hx2)
      have HE2 := Lib.hid (HE.out.ext hx2)
      clear hown hrow
      go_wp2_with fail
      go_loopw [8] (fun i' wr => ∃ k : Nat, k ≤ N ∧ i' = .int .i64 k ∧ Ext w2 wr) (fun i' _ => N - (RowKit.intOf i').toNat)
      case atStart => exact ⟨0, by omega, rfl, Ext.refl _⟩
      case round =>
        obtain ⟨k, hk, rfl, hx⟩ := hrel
        by_cases hlt : k < N
        · have hkl : k < L.length := by rw [← HN.out]; exact hlt
          obtain ⟨g, o, rfl, c0, c1, c2, c3⟩ := (HI2.out.ext hx) k hkl
          obtain ⟨g', rfl, hr⟩ := HROW.out (by omega)
          obtain ⟨b0, b1, b2, b3⟩ := toksC_at (L.map online) k (by rw [List.length_map]; exact hkl)
          have q0 := hr.ext hx _ _ b0; have q1 := hr.ext hx _ _ b1; have q2 := hr.ext hx _ _ b2; have q3 := hr.ext hx _ _ b3
          rw [List.getElem_map] at q0 q1 q2 q3
          unfold online at q0 q1 q2 q3
          dsimp only at q0 q1 q2 q3
          generalize L[k].kind = kd at c0 q0
          generalize L[k].n = tn at c2 q2
          generalize L[k].line = tl at c3
          generalize (⟨L[k].text.toArray⟩ : ByteArray) = x at c1 q1
          have hlt' : (k : Int) < (N : Int) := by omega
          have hk0 : (0 : Int) ≤ (k : Int) := by omega
          clear b0 b1 b2 b3 hr
          go_wp2_with fail
          go_quiet (fail)
          go_wp2_with fail
          go_roundw
          case rel => exact ⟨k + 1, by omega, by go_num, hx.drewN _⟩
          case measure => simp [RowKit.intOf]; omega
        · have hge : ¬ (k : Int) < (N : Int) := by omega
          go_wp2_with fail
          refine (awake_any _ (HE2.out.ext hx)).mono ?_
          rintro e w3 ⟨rfl, x3⟩
          go_wp2_with fail
          go_ret
          exact ⟨rfl, (hx2.trans hx).trans x3⟩
set_option maxRecDepth 100000 in
theorem trip_card (v : Value) (w : World) (h : ToksArg w v) (he : Env w) :
    Calls Tryz.prog 5 #[v] w fun e w' => e = .returned (.bool true) ∧ Ext w w' := by
  obtain ⟨a, L, cap, rfl, h1, h2, h3⟩ := h
  unfold maxLen at h3
  exact trip_walk a L cap w h1 h2 h3 he
end Go.Proofs.YtfnbllchebohcaaGreatDoor.Qo
