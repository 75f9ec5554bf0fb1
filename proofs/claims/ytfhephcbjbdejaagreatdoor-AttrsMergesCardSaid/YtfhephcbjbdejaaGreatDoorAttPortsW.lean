/- What the program's Ports returns: the walk. -/
import Derived.Test.YtfhephcbjbdejaaGreatDoorAttPorts
namespace Go.Proofs.YtfhephcbjbdejaaGreatDoor.At
open Go.RowKit Go.Sort Go.Lib Go.Shelf Fx Lx

set_option maxHeartbeats 8000000 in
set_option maxRecDepth 1000000 in
theorem ports_any (s : ByteArray) (w : World) (hs : s.size < 4294967281) (he : Env w) :
    Calls Tryz.prog 18 #[.string s] w fun e w' => PrtRes w.heap.size (portsV s) e w' ∧ Ext w w' := by
  rcases Nat.eq_zero_or_pos s.size with h0 | h0
  · obtain ⟨e1, e2, e3⟩ := tl_nil s h0
    have hr : portsV s = ([], 0) := by unfold portsV; rw [if_pos h0]
    rw [hr]
    go_enter Tryz.func18, Tryz.ntmps18
    go_wp2
    go_returns
    exact ⟨⟨_, rfl, World.ownsRow_nil _ _ _ _⟩, Ext.refl _⟩
  · obtain ⟨e1, e2, e3⟩ := tl_cons s h0
    have hr : portsV s = portsGo ((parts s).drop 0) [] := by unfold portsV; rw [if_neg (by omega)]; rfl
    obtain ⟨R, hR⟩ : ∃ R, R = portsV s := ⟨_, rfl⟩
    rw [← hR] at hr ⊢
    have HSP := Lib.hid (split_any s w hs he)
    have hsm := split_small comma (Lib.countB s comma) s
    have hpl : (parts s).length ≤ s.size + 1 := by
      have := Lib.splitB_length_le comma 0 (Lib.countB s comma) s
      have h2 := Lib.countB_le comma (by decide) s.size s (Nat.le_refl _)
      unfold parts; omega
    obtain ⟨L, hL⟩ : ∃ L, L = parts s := ⟨_, rfl⟩
    rw [show Lib.splitB comma 0 (Lib.countB s comma) s = parts s from rfl] at hsm
    rw [← hL] at hr HSP hsm hpl
    obtain ⟨N, hN⟩ : ∃ N, N = L.length := ⟨_, rfl⟩
    rw [← hN] at hpl HSP
    have HR := Lib.hid hr
    have HE := Lib.hid he
    have HSM := Lib.hid hsm
    have HN := Lib.hid hN
    clear hr hR he hL hsm hN
    obtain ⟨i0, hi, hz0, hz1, hz2⟩ := info_parts info_prt
    go_enter Tryz.func18, Tryz.ntmps18
    go_wp2_with fail
    refine HSP.out.mono ?_
    rintro e w0 ⟨rfl, rfl⟩
    go_wp2_with fail
    have hx0 : Ext w (w.alloc (.cells (L.map Value.string).toArray 9)) := (Ext.refl _).alloc _
    go_loopw [4, 16] (fun out i' wr => ∃ (k : Nat) (O : List Prt), k ≤ N ∧ i' = .int .i64 k ∧ wr.ownsRow (w.heap.size + 1) 49 2 out O.length (prtsC O) ∧ Ext (w.alloc (.cells (L.map Value.string).toArray 9)) wr ∧ Hid (R = portsGo (L.drop k) O) ∧ O.length ≤ 8)
      (fun _ i' _ => N - (RowKit.intOf i').toNat)
    case atStart => exact ⟨0, [], by omega, rfl, World.ownsRow_nil _ _ _ _, Ext.refl _, HR, by simp⟩
    case round =>
      obtain ⟨k, O, hk, rfl, hown, hx, ha, hol⟩ := hrel
      clear HR
      have hxs := hx.size
      have hxw := hx0.trans hx
      by_cases hp : k < N
      · have hkl : k < L.length := by rw [← HN.out]; exact hp
        have c0 := hx.cell (parts_cell w L k hkl)
        have hst := ha.out
        rw [List.drop_eq_getElem_cons hkl] at hst
        have hps := HSM.out _ (List.getElem_mem hkl)
        obtain ⟨p, hpe⟩ : ∃ p, p = L[k] := ⟨_, rfl⟩
        rw [← hpe] at hst c0 hps
        have hw := portsGo_ways p _ O R hst
        clear hst ha hpe
        obtain ⟨n, hn⟩ : ∃ n, nmOf p = n := ⟨_, rfl⟩
        obtain ⟨x, hxd⟩ : ∃ x, wdOf p = x := ⟨_, rfl⟩
        obtain ⟨d, hd⟩ : ∃ d, sideN x = d := ⟨_, rfl⟩
        rw [hn, hxd, hd] at hw
        rcases hw with ⟨c1, hf'⟩ | ⟨c1, c2, hf'⟩ | ⟨c1, c2, c3, hf'⟩ | ⟨c1, c2, c3, c4, hf'⟩ | ⟨c1, c2, c3, c4, c5, hf'⟩ | ⟨c1, c2, c3, c4, c5, hf'⟩
        · have HC := Lib.hid (cut_miss p wr (by omega) (HE.out.ext hxw) c1)
          clear c1 hn hxd hd
          go_wp2_with (first | (go_at_call 38; refine HC.out.mono ?_; rintro e w1 ⟨⟨b, rfl⟩, x1⟩) | (go_at_call 39; refine (side_any _ _ _ _ rfl).mono ?_; rintro e w2 ⟨rfl, rfl⟩))
          go_returns
          rw [hf'.out]
          exact ⟨⟨_, rfl, World.ownsRow_nil _ _ _ _⟩, ((hxw.trans x1).alloc _).alloc _⟩
        all_goals
          have HC := Lib.hid (cut_hit p n x wr (by omega) (HE.out.ext hxw) c1 hn hxd)
          have HD := Lib.hid hd
          have HNM := Lib.hid (fun w => isName_any n (by rw [← hn]; unfold nmOf; rw [ByteArray.size_extract]; omega) w)
          clear c1 hn hxd hd
        · have g1 : decide (d < 0) = true := decide_eq_true c2
          go_wp2_with (first | (go_at_call 38; refine HC.out.mono ?_; rintro e w1 ⟨rfl, x1⟩; have hn1 := cell_new w1 n) | (go_at_call 39; refine (side_any _ d _ _ HD.out).mono ?_; rintro e w2 ⟨rfl, rfl⟩))
          go_returns
          rw [hf'.out]
          exact ⟨⟨_, rfl, World.ownsRow_nil _ _ _ _⟩, ((hxw.trans x1).alloc _).alloc _⟩
        all_goals
          have g1 : decide (d < 0) = false := decide_eq_false (by omega)
          rw [c3] at HNM
        · go_wp2_with (first | (go_at_call 38; refine HC.out.mono ?_; rintro e w1 ⟨rfl, x1⟩; have hn1 := cell_new w1 n) | (go_at_call 39; refine (side_any _ d _ _ HD.out).mono ?_; rintro e w2 ⟨rfl, rfl⟩) | (go_at_call 40; refine (HNM.out _).mono ?_; rintro e w3 ⟨rfl, rfl⟩))
          go_returns
          rw [hf'.out]
          exact ⟨⟨_, rfl, World.ownsRow_nil _ _ _ _⟩, ((hxw.trans x1).alloc _).alloc _⟩
        all_goals
          obtain ⟨oa, oc, rfl, hin⟩ := own_prts hown
        · go_wp2_with (first | (go_at_call 38; refine HC.out.mono ?_; rintro e w1 ⟨rfl, x1⟩; have hn1 := cell_new w1 n) | (go_at_call 39; refine (side_any _ d _ _ HD.out).mono ?_; rintro e w2 ⟨rfl, rfl⟩) | (go_at_call 40; refine (HNM.out _).mono ?_; rintro e w3 ⟨rfl, rfl⟩) | (go_at_call 41; refine (hasP_any oa O oc n ⟨w1.heap.size, 0, none⟩ _ (hin.ext ((x1.alloc _).alloc _)) (hn1 _) (by omega)).mono ?_; rw [c4]; rintro e w4 ⟨rfl, x4⟩; have hn4 := x4.cell (hn1 _)))
          go_returns
          rw [hf'.out]
          exact ⟨⟨_, rfl, World.ownsRow_nil _ _ _ _⟩, (((hxw.trans x1).alloc _).alloc _).trans x4⟩
        · obtain ⟨f1, _⟩ := eq_facts (x := (O.length : Int)) (k := 8) (by omega)
          clear c5
          go_wp2_with (first | (go_at_call 38; refine HC.out.mono ?_; rintro e w1 ⟨rfl, x1⟩; have hn1 := cell_new w1 n) | (go_at_call 39; refine (side_any _ d _ _ HD.out).mono ?_; rintro e w2 ⟨rfl, rfl⟩) | (go_at_call 40; refine (HNM.out _).mono ?_; rintro e w3 ⟨rfl, rfl⟩) | (go_at_call 41; refine (hasP_any oa O oc n ⟨w1.heap.size, 0, none⟩ _ (hin.ext ((x1.alloc _).alloc _)) (hn1 _) (by omega)).mono ?_; rw [c4]; rintro e w4 ⟨rfl, x4⟩; have hn4 := x4.cell (hn1 _)))
          go_returns
          rw [hf'.out]
          exact ⟨⟨_, rfl, World.ownsRow_nil _ _ _ _⟩, (((hxw.trans x1).alloc _).alloc _).trans x4⟩
        · obtain ⟨f1, _⟩ := ne_facts (x := (O.length : Int)) (k := 8) (by omega)
          have H8 : O.length < 8 := by omega
          clear c5
          go_wp2_with (first | (go_at_call 38; refine HC.out.mono ?_; rintro e w1 ⟨rfl, x1⟩; have hn1 := cell_new w1 n) | (go_at_call 39; refine (side_any _ d _ _ HD.out).mono ?_; rintro e w2 ⟨rfl, rfl⟩) | (go_at_call 40; refine (HNM.out _).mono ?_; rintro e w3 ⟨rfl, rfl⟩) | (go_at_call 41; refine (hasP_any oa O oc n ⟨w1.heap.size, 0, none⟩ _ (hin.ext ((x1.alloc _).alloc _)) (hn1 _) (by omega)).mono ?_; rw [c4]; rintro e w4 ⟨rfl, x4⟩; have hn4 := x4.cell (hn1 _)) | (at_builtin; refine wpList_append_own _ rfl _ _ 32 rfl (w.heap.size + 1) 49 i0 _ 2 24 Tryz.underlying32 hi hz0 hz1 hz2 rfl (by decide) _ _ _ rfl ((own_ext hown (((x1.alloc _).alloc _).trans x4)).alloc _) ⟨w4.heap.size, 0, none⟩ 1 1 (prtC (n, d)) rfl rfl ?c1 ?c2 ?c3 ?c4 ?c5 ?_))
          case c1 => exact fun j u hj => cell_new1 w4 (prtC (n, d)) 49 j u hj
          case c2 => intro u hu; simp [prtC] at hu; rcases hu with rfl | rfl <;> rfl
          case c3 => unfold maxLen; omega
          case c4 => omega
          case c5 =>
            have h := (hx.trans (((x1.alloc (.cells #[.string n] 9)).alloc (.cells #[.string ⟨#[116, 111, 112]⟩, .string ⟨#[114, 105, 103, 104, 116]⟩, .string ⟨#[98, 111, 116, 116, 111, 109]⟩, .string ⟨#[108, 101, 102, 116]⟩] 9)).trans x4)).size
            rw [World.size_alloc] at h
            simp; omega
          intro v' w5 hown' hgrow _
          have hx4 := (((hxw.trans x1).alloc (.cells #[.string n] 9)).alloc (.cells #[.string ⟨#[116, 111, 112]⟩, .string ⟨#[114, 105, 103, 104, 116]⟩, .string ⟨#[98, 111, 116, 116, 111, 109]⟩, .string ⟨#[108, 101, 102, 116]⟩] 9)).trans x4
          have hown2 : w5.ownsRow (w.heap.size + 1) 49 2 v' (O ++ [(n, d)]).length (prtsC (O ++ [(n, d)])) := by
            rw [prtsC_snoc]; simpa using hown'
          have hsz := hx4.size
          have hx6 : Ext (w.alloc (.cells (L.map Value.string).toArray 9)) w5 := Below.grown ((((hx.trans x1).alloc (.cells #[.string n] 9)).alloc (.cells #[.string ⟨#[116, 111, 112]⟩, .string ⟨#[114, 105, 103, 104, 116]⟩, .string ⟨#[98, 111, 116, 116, 111, 109]⟩, .string ⟨#[108, 101, 102, 116]⟩] 9)).trans x4 |>.alloc _) hgrow (by simp; omega) (fun k hk => by rw [World.size_alloc]; exact (hown.lt k hk).1)
          clear hown' hgrow hown hx4
          go_wp2
          go_roundw
          case rel => exact ⟨k + 1, O ++ [(n, d)], by omega, by go_num, hown2, hx6, hf', by simp; omega⟩
          case measure => simp [RowKit.intOf]; omega
      · have hR : R = (O, 0) := by
          rw [ha.out, List.drop_eq_nil_of_le (by rw [← HN.out]; omega)]; rfl
        have HR := Lib.hid hR
        clear ha hR
        go_wp2
        go_returns
        rw [HR.out]
        exact ⟨⟨_, rfl, own_base hown (by omega)⟩, hxw⟩
end Go.Proofs.YtfhephcbjbdejaaGreatDoor.At
