/- What the document's Ports returns: the walk. -/
import Derived.Test.YtfhephcbjbdejaaGreatDoorAttSplitW
import Derived.Test.YtfhephcbjbdejaaGreatDoorAttName
import Derived.Test.YtfhephcbjbdejaaGreatDoorAttName7
namespace Go.Proofs.YtfhephcbjbdejaaGreatDoor.At
open Go.RowKit Go.Sort Go.Lib Go.Shelf Fx Lx

theorem occ1 (l : List UInt8) (i : Nat) (h : i < l.length) : Lib.occAt l [32] i = decide (bt l i = 32) := by
  rw [Lib.occAt_iff_take l [32] i (by simp; omega)]
  have e : (l.drop i).take ([32] : List UInt8).length = [l[i]] := by
    rw [List.drop_eq_getElem_cons h]; rfl
  rw [e]
  unfold bt
  rw [List.getElem?_eq_getElem h]
  rw [Bool.eq_iff_iff, beq_iff_eq, decide_eq_true_eq]
  exact ⟨fun h => by injection h with h1, fun h => by rw [show l[i] = 32 from h]⟩
theorem gap_hit (p : ByteArray) (k : Nat) (hk : k < p.size) (hn : Lib.NoOcc p.data.toList [32] k) (hb : p[k].toNat = 32) : gapN p = k := by
  refine Lib.index_hit hn (by rw [← size_len]; omega) ?_
  rw [occ1 _ _ (by rw [← size_len]; exact hk), bt_at p k hk]
  exact decide_eq_true (UInt8.toNat_inj.1 hb)
theorem gap_next (p : ByteArray) (k : Nat) (hk : k < p.size) (hn : Lib.NoOcc p.data.toList [32] k) (hb : p[k].toNat ≠ 32) : Lib.NoOcc p.data.toList [32] (k + 1) := by
  refine Lib.NoOcc.succ hn ?_
  rw [occ1 _ _ (by rw [← size_len]; exact hk), bt_at p k hk]
  exact decide_eq_false (fun e => hb (by rw [e]; rfl))
theorem gap_miss (p : ByteArray) (hn : Lib.NoOcc p.data.toList [32] p.size) : gapN p < 0 := by
  have : gapN p = -1 := Lib.index_past (i := p.size) (by decide) hn (by rw [← size_len]; simp)
  omega
theorem gap_room (p : ByteArray) (h : 0 ≤ gapN p) : gapN p + 1 ≤ p.size := by
  have := Lib.index_room p.data.toList [32] h
  rw [← size_len] at this
  exact this
theorem portsGo_cons (p : ByteArray) (r : List ByteArray) (out : List Prt) : portsGo (p :: r) out =
    if gapN p < 0 then ([], 4)
    else if sideN (wdOf p) < 0 then ([], 4)
    else if nameB (nmOf p).data.toList = false then ([], 5)
    else if hasN out (nmOf p) = true then ([], 6)
    else if out.length = 8 then ([], 2)
    else portsGo r (out ++ [(nmOf p, sideN (wdOf p))]) := rfl
theorem own_cell {w : World} {B g c : Nat} {L : List Prt} (h : w.ownsRow B 49 2 (.slice (some ⟨g, 0, none⟩) L.length c) L.length (prtsC L)) (j : Nat) (hj : j < L.length) : w.cell? ⟨g, j * 2, none⟩ = some (.string L[j].1) := by
  have hc := h.cells (g := g) rfl _ _ (prtsC_at L j hj).1
  rw [add_at, Nat.zero_add] at hc
  exact hc
theorem own_strs {w : World} {B : Nat} {v : Value} {L : List ByteArray} (h : w.ownsRow B 9 1 v L.length (L.map Value.string)) (h0 : 0 < L.length) :
    ∃ g c, v = .slice (some ⟨g, 0, none⟩) L.length c ∧ B ≤ g ∧ g < w.heap.size ∧ ∀ k (hk : k < L.length), w.cell? ⟨g, k, none⟩ = some (.string L[k]) := by
  obtain ⟨g, c, rfl, h1, h2⟩ := h.form h0
  refine ⟨g, c, rfl, h1, h2, fun k hk => ?_⟩
  have hc := h.cells (g := g) rfl k (.string L[k]) (by rw [List.getElem?_map, List.getElem?_eq_getElem hk]; rfl)
  rw [add_at, Nat.zero_add] at hc
  exact hc
theorem parts_pos (s : ByteArray) : 0 < (parts s).length := by
  have hl : (parts s).length = Lib.countB s comma + 1 := Lib.splitB_all comma (by decide) 0 _ s rfl
  omega
theorem parts_le (s : ByteArray) : (parts s).length ≤ s.size + 1 := by
  have := Lib.splitB_length_le comma 0 (Lib.countB s comma) s
  have h2 := Lib.countB_le comma (by decide) s.size s (Nat.le_refl _)
  unfold parts; omega

set_option maxHeartbeats 2000000 in
set_option maxRecDepth 1000000 in
theorem portsR_any (s : ByteArray) (w : World) (hs : s.size < 4294967281) :
    Calls Tryz.prog 19 #[.string s] w fun e w' => PrtRes w.heap.size (portsV s) e w' ∧ Ext w w' := by
  have ho0 : (w.alloc (.cells #[] 49)).ownsRow w.heap.size 49 2 (.slice (some ⟨w.heap.size, 0, none⟩) 0 0) 0 [] := World.ownsRow_made w #[] 0 (Nat.le_refl _) (by unfold maxLen; omega) rfl
  have hx0 : Ext w (w.alloc (.cells #[] 49)) := (Ext.refl _).alloc _
  rcases Nat.eq_zero_or_pos s.size with h0 | h0
  · obtain ⟨e1, e2, e3⟩ := tl_nil s h0
    have hr : portsV s = ([], 0) := by unfold portsV; rw [if_pos h0]
    rw [hr]
    have HO := Lib.hid ho0
    clear ho0
    go_enter Tryz.func19, Tryz.ntmps19
    go_wp2
    go_returns
    exact ⟨⟨_, rfl, HO.out⟩, hx0⟩
  · obtain ⟨e1, e2, e3⟩ := tl_cons s h0
    have hr : portsV s = portsGo ((parts s).drop 0) [] := by unfold portsV; rw [if_neg (by omega)]; rfl
    obtain ⟨R, hR⟩ : ∃ R, R = portsV s := ⟨_, rfl⟩
    rw [← hR] at hr ⊢
    have hsp := splitR_any s (w.alloc (.cells #[] 49)) (by omega)
    have hsm := split_small comma (Lib.countB s comma) s
    have hpl := parts_le s
    have hpp := parts_pos s
    obtain ⟨L, hL⟩ : ∃ L, L = parts s := ⟨_, rfl⟩
    rw [show Lib.splitB comma 0 (Lib.countB s comma) s = parts s from rfl] at hsm
    rw [← hL] at hr hsp hsm hpl hpp
    obtain ⟨N, hN⟩ : ∃ N, N = L.length := ⟨_, rfl⟩
    rw [← hN] at hpl
    have HR := Lib.hid hr
    have HSM := Lib.hid hsm
    have HN := Lib.hid hN
    have HSP := Lib.hid hsp
    have HPP := Lib.hid hpp
    clear hr hR hL hsm hN hsp hpp
    have HO := Lib.hid ho0
    clear ho0
    obtain ⟨i0, hi, hz0, hz1, hz2⟩ := info_parts info_prt
    go_enter Tryz.func19, Tryz.ntmps19
    go_wp2_with fail
    refine HSP.out.mono ?_
    rintro e w0 ⟨⟨lv, rfl, hlo⟩, xs⟩
    obtain ⟨gl, lc, rfl, hg0, hg1, hcl⟩ := own_strs hlo HPP.out
    rw [World.size_alloc] at hg0
    rw [← HN.out]
    have hxw0 := hx0.trans xs
    have ho1 := own_ext HO.out xs
    have HCL := Lib.hid hcl
    have HO1 := Lib.hid ho1
    clear hlo hcl ho1 HSP HPP HO
    go_wp2_with fail
    go_loopw [4, 6] (fun out i' wr => ∃ (k : Nat) (O : List Prt) (go oc : Nat), k ≤ N ∧ i' = .int .i64 k ∧ out = .slice (some ⟨go, 0, none⟩) O.length oc ∧ wr.ownsRow w.heap.size 49 2 (.slice (some ⟨go, 0, none⟩) O.length oc) O.length (prtsC O) ∧ go ≠ gl ∧ gl < wr.heap.size ∧ Hid (∀ k (hk : k < L.length), wr.cell? ⟨gl, k, none⟩ = some (.string L[k])) ∧ Ext w wr ∧ Hid (R = portsGo (L.drop k) O) ∧ O.length ≤ 8)
      (fun _ i' _ => N - (RowKit.intOf i').toNat)
    case atStart => exact ⟨0, [], w.heap.size, 0, by omega, rfl, rfl, HO1.out, by omega, hg1, HCL, hxw0, HR, by simp⟩
    case round =>
      obtain ⟨k, O, go, oc, hk, rfl, rfl, hown, hgn, hgl, hcl, hx, ha, hol⟩ := hrel
      clear HR HCL HO1 hxw0 xs hg1
      have hxs := hx.size
      by_cases hp : k < N
      · have hkl : k < L.length := by rw [← HN.out]; exact hp
        have c0 := hcl.out k hkl
        have hst := ha.out
        rw [List.drop_eq_getElem_cons hkl] at hst
        have hps := HSM.out _ (List.getElem_mem hkl)
        obtain ⟨p, hpe⟩ : ∃ p, p = L[k] := ⟨_, rfl⟩
        rw [← hpe] at hst c0 hps
        have hw := Lib.hid (portsGo_ways p _ O R hst)
        have HST := Lib.hid hst
        clear hst ha hpe
        obtain ⟨wo, rfl⟩ : ∃ wo : World, wo = wr := ⟨_, rfl⟩
        go_wp2_with fail
        go_loop [8, 9] (fun gp k' => ∃ j : Nat, j ≤ p.size ∧ k' = .int .i64 j ∧ ((gp = .int .i64 (-1) ∧ Hid (Lib.NoOcc p.data.toList [32] j)) ∨ (∃ g : Nat, gp = .int .i64 g ∧ g < p.size ∧ Hid (gapN p = g)))) (fun _ k' => p.size - (RowKit.intOf k').toNat)
        case atStart => exact ⟨0, by omega, rfl, .inl ⟨rfl, Lib.hid (Lib.NoOcc.zero _ _)⟩⟩
        case round =>
          obtain ⟨j, hj, rfl, hd⟩ := hrel
          by_cases hlt : j < p.size
          · by_cases hb : p[j].toNat = 32
            · obtain ⟨f1, _⟩ := eq_facts (x := (p[j].toNat : Int)) (k := 32) (by omega)
              rcases hd with ⟨rfl, hno⟩ | ⟨g, rfl, hgp, hg⟩
              · have hf := Lib.hid (gap_hit p j hlt hno.out hb)
                clear hno hb
                go_wp2
                go_round
                case rel => exact ⟨j + 1, by omega, by go_num, .inr ⟨j, rfl, hlt, hf⟩⟩
                case measure => simp [RowKit.intOf]; omega
              · have g1 : decide ((g : Int) < 0) = false := decide_eq_false (by omega)
                clear hb
                go_wp2
                go_round
                case rel => exact ⟨j + 1, by omega, by go_num, .inr ⟨g, rfl, hgp, hg⟩⟩
                case measure => simp [RowKit.intOf]; omega
            · obtain ⟨f1, _⟩ := ne_facts (x := (p[j].toNat : Int)) (k := 32) (by omega)
              rcases hd with ⟨rfl, hno⟩ | ⟨g, rfl, hgp, hg⟩
              · have hf := Lib.hid (gap_next p j hlt hno.out hb)
                clear hno hb
                go_wp2
                go_round
                case rel => exact ⟨j + 1, by omega, by go_num, .inl ⟨rfl, hf⟩⟩
                case measure => simp [RowKit.intOf]; omega
              · clear hb
                go_wp2
                go_round
                case rel => exact ⟨j + 1, by omega, by go_num, .inr ⟨g, rfl, hgp, hg⟩⟩
                case measure => simp [RowKit.intOf]; omega
          · obtain rfl : j = p.size := by omega
            rcases hd with ⟨rfl, hno⟩ | ⟨g, rfl, hgp, hg⟩
            · have hgm := gap_miss p hno.out
              have hf : Hid (R = ([], 4)) := by
                rcases hw.out with ⟨c1, hf'⟩ | ⟨c1, c2, hf'⟩ | ⟨c1, c2, c3, hf'⟩ | ⟨c1, c2, c3, c4, hf'⟩ | ⟨c1, c2, c3, c4, c5, hf'⟩ | ⟨c1, c2, c3, c4, c5, hf'⟩
                · exact hf'
                all_goals omega
              clear hw hno hgm
              go_wp2
              go_returns
              rw [hf.out]
              exact ⟨⟨_, rfl, World.ownsRow_nil _ _ _ _⟩, hx⟩
            · have hge : 0 ≤ gapN p := by rw [hg.out]; omega
              have hwx : wdOf p = p.extract (g + 1) p.size := by unfold wdOf; rw [hg.out]; rfl
              have hnx : nmOf p = p.extract 0 g := by unfold nmOf; rw [hg.out]; rfl
              have g1 : decide ((g : Int) < 0) = false := decide_eq_false (by omega)
              obtain ⟨d, hd⟩ : ∃ d, sideN (p.extract (g + 1) p.size) = d := ⟨_, rfl⟩
              have hsd := fun w => sideR_any (p.extract (g + 1) p.size) w
              rw [hd] at hsd
              have hnm := fun w => name07_any (p.extract 0 g) (by rw [ByteArray.size_extract]; omega) w
              have hst := HST.out
              rw [portsGo_cons, if_neg (by omega), hwx, hnx, hd] at hst
              have HSD := Lib.hid hsd
              clear hwx hnx hd hsd hw HST hge hg
              by_cases c2 : d < 0
              · rw [if_pos c2] at hst
                have hf := Lib.hid hst
                have g2 : decide (d < 0) = true := decide_eq_true c2
                clear hst hnm
                go_wp2_with (go_at_call 44; refine (HSD.out _).mono ?_; rintro e w1 ⟨rfl, x1⟩)
                go_returns
                rw [hf.out]
                exact ⟨⟨_, rfl, World.ownsRow_nil _ _ _ _⟩, hx.trans x1⟩
              rw [if_neg c2] at hst
              have g2 : decide (d < 0) = false := decide_eq_false c2
              cases c3 : nameB (p.extract 0 g).data.toList
              · rw [if_pos c3] at hst
                have hf := Lib.hid hst
                rw [c3] at hnm
                have HNM := Lib.hid hnm
                clear hst hnm c3
                go_wp2_with (first | (go_at_call 44; refine (HSD.out _).mono ?_; rintro e w1 ⟨rfl, x1⟩) | (go_at_call 45; refine (HNM.out _).mono ?_; rintro e wn ⟨rfl, rfl⟩))
                go_returns
                rw [hf.out]
                exact ⟨⟨_, rfl, World.ownsRow_nil _ _ _ _⟩, hx.trans x1⟩
              rw [if_neg (by rw [c3]; decide)] at hst
              rw [c3] at hnm
              have HNM := Lib.hid hnm
              have HS2 := Lib.hid hst
              clear hst hnm c3
              go_wp2_with (first | (go_at_call 44; refine (HSD.out _).mono ?_; rintro e w1 ⟨rfl, x1⟩) | (go_at_call 45; refine (HNM.out _).mono ?_; rintro e wn ⟨rfl, rfl⟩))
              have hown1 := own_ext hown x1
              have hx1 := hx.trans x1
              have hcl1 : Hid (∀ k (hk : k < L.length), w1.cell? ⟨gl, k, none⟩ = some (.string L[k])) := Lib.hid (fun k hk => x1.cell (hcl.out k hk))
              have hgl1 : gl < w1.heap.size := Nat.lt_of_lt_of_le hgl x1.size
              have HOC := Lib.hid (fun j hj => own_cell hown1 j hj)
              clear hown hcl hgl hx x1 c0 hxs
              obtain ⟨n, hnn⟩ : ∃ n, p.extract 0 g = n := ⟨_, rfl⟩
              rw [hnn] at HS2 ⊢
              go_loop [11] (fun i' => ∃ j : Nat, j ≤ O.length ∧ i' = .int .i64 j ∧ Hid (∀ i (hi : i < O.length), i < j → O[i].1 ≠ n)) (fun i' => O.length - (RowKit.intOf i').toNat)
              case atStart => exact ⟨0, by omega, rfl, Lib.hid (fun j _ h => absurd h (by omega))⟩
              case round =>
                obtain ⟨j, hj, rfl, hall⟩ := hrel
                by_cases hlt : j < O.length
                · have c1 := HOC.out j hlt
                  obtain ⟨z, hz⟩ : ∃ z, z = O[j].1 := ⟨_, rfl⟩
                  rw [← hz] at c1
                  have HZ := Lib.hid hz
                  clear hz
                  by_cases heq : z = n
                  · have hf : Hid (R = ([], 6)) := Lib.hid (by
                      rw [HS2.out, if_pos]
                      unfold hasN; rw [List.any_eq_true]; exact ⟨O[j], List.getElem_mem hlt, by rw [← HZ.out]; exact decide_eq_true heq⟩)
                    have g3 : (z.toList == n.toList) = true := by rw [beqs]; exact decide_eq_true heq
                    clear heq hall HZ
                    go_wp2
                    go_returns
                    rw [hf.out]
                    exact ⟨⟨_, rfl, World.ownsRow_nil _ _ _ _⟩, hx1⟩
                  · have hf : Hid (∀ i (hi : i < O.length), i < j + 1 → O[i].1 ≠ n) := Lib.hid (fun i hi h => by
                      by_cases e : i = j
                      · subst e; rw [← HZ.out]; exact heq
                      · exact hall.out i hi (by omega))
                    have g3 : (z.toList == n.toList) = false := by rw [beqs]; exact decide_eq_false heq
                    clear heq hall HZ
                    go_wp2
                    go_round
                    case rel => exact ⟨j + 1, by omega, by go_num, hf⟩
                    case measure => simp [RowKit.intOf]; omega
                · obtain rfl : j = O.length := by omega
                  have hno : hasN O n = false := by
                    unfold hasN; rw [List.any_eq_false]; intro q hq
                    obtain ⟨i, hi, rfl⟩ := List.getElem_of_mem hq
                    simpa using hall.out i hi hi
                  have hst := HS2.out
                  rw [if_neg (by rw [hno]; decide)] at hst
                  clear hall hno HS2
                  by_cases c5 : O.length = 8
                  · rw [if_pos c5] at hst
                    have hf := Lib.hid hst
                    obtain ⟨f1, _⟩ := eq_facts (x := (O.length : Int)) (k := 8) (by omega)
                    clear hst c5
                    go_wp2
                    go_returns
                    rw [hf.out]
                    exact ⟨⟨_, rfl, World.ownsRow_nil _ _ _ _⟩, hx1⟩
                  · rw [if_neg c5] at hst
                    have hf := Lib.hid hst
                    obtain ⟨f1, _⟩ := ne_facts (x := (O.length : Int)) (k := 8) (by omega)
                    have H8 : O.length < 8 := by omega
                    clear hst c5
                    go_wp2_with (first | (go_at_call 44; refine (HSD.out _).mono ?_; rintro e w2 ⟨rfl, x2⟩) | (at_builtin; refine wpList_append_lies _ rfl _ _ 32 rfl w.heap.size 49 i0 _ 2 24 Tryz.underlying32 hi hz0 hz1 hz2 rfl (by decide) _ _ _ rfl ((own_ext hown1 x2).alloc _) ⟨w2.heap.size, 0, none⟩ 1 1 (prtC (n, d)) rfl rfl ?c1 ?c2 (by decide) ?c3 ?c4 ?c5 _ rfl ?_))
                    case c1 => exact fun j u hj => cell_new1 w2 (prtC (n, d)) 49 j u hj
                    case c2 => intro u hu; simp [prtC] at hu; rcases hu with rfl | rfl <;> rfl
                    case c3 => unfold maxLen; omega
                    case c4 => omega
                    case c5 =>
                      have h := (hx1.trans x2).size
                      simp; omega
                    intro g2 cap2 w5 hown' hgrow hat hlt5
                    have hl2 : gl < w2.heap.size := Nat.lt_of_lt_of_le hgl1 x2.size
                    have hcl5 : Hid (∀ k (hk : k < L.length), w5.cell? ⟨gl, k, none⟩ = some (.string L[k])) := Lib.hid (fun k hk => by
                      rw [hgrow.cell_far ⟨gl, k, none⟩ (by rw [World.size_alloc]; exact Nat.lt_succ_of_lt hl2) (fun h => hgn (by injection h with h; exact h.symm))]
                      exact (x2.alloc _).cell (hcl1.out k hk))
                    have hgn2 : g2 ≠ gl := by
                      rcases hat with h | h
                      · injection h with h; rw [← h]; exact hgn
                      · omega
                    have hgl5 : gl < w5.heap.size := by
                      have := hgrow.size
                      rw [World.size_alloc] at this; omega
                    have hx5 : Ext w w5 := Below.grown ((hx1.trans x2).alloc _) hgrow (by have h := (hx1.trans x2).size; simp; omega) (fun k hk => ((own_ext hown1 x2).lt k hk).1)
                    have hlen : (O ++ [(n, d)]).length = O.length + 1 := by simp
                    have hown2 : w5.ownsRow w.heap.size 49 2 (.slice (some ⟨g2, 0, none⟩) (O ++ [(n, d)]).length cap2) (O ++ [(n, d)]).length (prtsC (O ++ [(n, d)])) := by
                      rw [prtsC_snoc, hlen]; exact hown'
                    have hv2 : Value.slice (some ⟨g2, 0, none⟩) (O.length + 1) cap2 = .slice (some ⟨g2, 0, none⟩) (O ++ [(n, d)]).length cap2 := by rw [hlen]
                    clear hown' hgrow hown1 hcl1 hat
                    go_wp2
                    go_roundw
                    case rel => exact ⟨k + 1, O ++ [(n, d)], g2, cap2, by omega, by go_num, hv2, hown2, hgn2, hgl5, hcl5, hx5, hf, by omega⟩
                    case measure => simp [RowKit.intOf]; omega
      · have hR : R = (O, 0) := by
          rw [ha.out, List.drop_eq_nil_of_le (by rw [← HN.out]; omega)]; rfl
        have HR := Lib.hid hR
        clear ha hR
        go_wp2
        go_returns
        rw [HR.out]
        exact ⟨⟨_, rfl, hown⟩, hx⟩
end Go.Proofs.YtfhephcbjbdejaaGreatDoor.At
