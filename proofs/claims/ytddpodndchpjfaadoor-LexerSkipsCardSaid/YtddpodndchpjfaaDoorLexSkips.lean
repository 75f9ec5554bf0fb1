/- The walk of LexerSkips. -/
import Derived.Test.YtddpodndchpjfaaDoorLexLawS
namespace Go.Proofs.YtddpodndchpjfaaDoor.Lx
open Go.RowKit Go.Sort Go.Lib Go.Shelf Fx

set_option maxHeartbeats 8000000 in
set_option maxRecDepth 1000000 in
theorem skips_walk (s : ByteArray) (w : World) (hs : s.size ≤ maxLen) (he : Env w) :
    Calls Tryd.prog 6 #[.string s] w fun e w' => e = .returned (.bool true) ∧ Ext w w' := by
  unfold maxLen at hs
  have HE := Lib.hid he
  clear he
  by_cases hbig : 3000 < s.size
  · go_enter Tryd.func6, Tryd.ntmps6
    go_wp2_with (go_at_call 11; refine (awake_any _ HE.out).mono ?_; rintro e w2 ⟨rfl, x2⟩)
    go_ret
    exact ⟨rfl, x2⟩
  · have hsl : s.data.toList.length ≤ 3000 := by rw [← size_len]; omega
    have hlen := tokenize_len s.data.toList
    have hpre := tokenize_pre s.data.toList hsl
    have hsuf := tokenize_suf s.data.toList hsl
    have hl0 := tokenize_line0 s.data.toList
    have hln := tokenize_lines s.data.toList
    have hT0 : ∀ w, Env w → Calls Tryd.prog 12 #[.string s] w fun e w' => TokRes w.heap.size (tokenize s.data.toList) e w' ∧ Ext w w' := fun w h => tokenize_any s w (by omega) h
    have hT1 : ∀ w, Env w → Calls Tryd.prog 12 #[.string (⟨#[9, 35, 32, 34, 120, 10, 32, 10]⟩ ++ s)] w fun e w' => TokRes w.heap.size (shiftR 2 (tokenize s.data.toList)) e w' ∧ Ext w w' := fun w h => by
      have := tokenize_any (⟨#[9, 35, 32, 34, 120, 10, 32, 10]⟩ ++ s) w (by rw [size_len, data_app, List.length_append]; show 8 + _ ≤ _; omega) h
      rw [data_app, show (⟨#[9, 35, 32, 34, 120, 10, 32, 10]⟩ : ByteArray).data.toList = pre from rfl, hpre] at this
      exact this
    have hT2 : (tokenize s.data.toList).2.2 = 0 → ∀ w, Env w → Calls Tryd.prog 12 #[.string (s ++ ⟨#[32, 35, 32, 125]⟩)] w fun e w' => TokRes w.heap.size (tokenize s.data.toList) e w' ∧ Ext w w' := fun h0 w h => by
      have := tokenize_any (s ++ ⟨#[32, 35, 32, 125]⟩) w (by rw [size_len, data_app, List.length_append]; show _ + 4 ≤ _; omega) h
      rw [data_app, show (⟨#[32, 35, 32, 125]⟩ : ByteArray).data.toList = [32, 35, 32, 125] from rfl, hsuf h0] at this
      exact this
    obtain ⟨L, n, c, hR⟩ : ∃ L n c, tokenize s.data.toList = (L, n, c) := ⟨_, _, _, rfl⟩
    rw [hR] at hT0 hT1 hT2 hlen hl0 hln
    obtain ⟨hlines, hn0, hn1⟩ : (∀ t ∈ L, 0 ≤ t.line ∧ t.line ≤ 16385) ∧ 0 ≤ n ∧ n ≤ 16385 := hln
    have hlen : L.length ≤ 16384 := hlen
    have hl0 : c = 0 → n = 0 := hl0
    have hT2 : c = 0 → _ := hT2
    have hT1' : ∀ w, Env w → Calls Tryd.prog 12 #[.string (⟨#[9, 35, 32, 34, 120, 10, 32, 10]⟩ ++ s)] w fun e w' => (∃ v, e = .returned (.tuple #[v, .int .i64 (if c = 0 then 0 else n + 2), .int .i64 c]) ∧ w'.ownsRow w.heap.size 32 4 v (L.map (shiftT 2)).length (toksC (L.map (shiftT 2)))) ∧ Ext w w' := hT1
    have hT0' : ∀ w, Env w → Calls Tryd.prog 12 #[.string s] w fun e w' => (∃ v, e = .returned (.tuple #[v, .int .i64 n, .int .i64 c]) ∧ w'.ownsRow w.heap.size 32 4 v L.length (toksC L)) ∧ Ext w w' := hT0
    obtain ⟨N, hNL⟩ : ∃ N, N = L.length := ⟨_, rfl⟩
    have hNm : N ≤ 16384 := by omega
    have HLN := Lib.hid hlines; have HL := Lib.hid hlen; have HNL := Lib.hid hNL
    by_cases hc : c = 0
    · have h0 := hl0 hc
      subst hc; subst h0
      rw [if_pos rfl] at hT1'
      have H0 := Lib.hid hT0'; have H1 := Lib.hid hT1'; have hT2' := hT2 rfl; have H2 := Lib.hid hT2'
      clear hT0 hT1 hT2 hT2' hT0' hT1' hlines hlen hR hpre hsuf hsl hl0 hNL
      go_enter Tryd.func6, Tryd.ntmps6
      go_wp2_with fail
      refine (H0.out _ HE.out).mono ?_
      rintro e w1 ⟨⟨va, rfl, hoa⟩, x1⟩
      go_wp2_with fail
      refine (H1.out _ (HE.out.ext x1)).mono ?_
      rintro e w2 ⟨⟨vb, rfl, hob⟩, x2⟩
      have hoa2 := own_ext hoa x2
      have x12 := x1.trans x2
      have hra := own_row hoa2
      have hrb := own_row hob
      rw [← HNL.out] at hra hoa2
      rw [List.length_map, ← HNL.out] at hrb
      have HOA := Lib.hid hoa2
      clear hoa hob hoa2
      rcases Nat.eq_zero_or_pos N with hN0 | hN0
      · have hva : ∃ a c, va = .slice a N c := by
          rcases hra with ⟨_, a, c, h⟩ | ⟨g, c, h, _⟩
          · exact ⟨a, c, by rw [h, hN0]⟩
          · exact ⟨_, _, h⟩
        have hvb : ∃ a c, vb = .slice a N c := by
          rcases hrb with ⟨_, a, c, h⟩ | ⟨g, c, h, _⟩
          · exact ⟨a, c, by rw [h, hN0]⟩
          · exact ⟨_, _, h⟩
        clear hra hrb
        obtain ⟨a, ca, rfl⟩ := hva
        obtain ⟨b, cb, rfl⟩ := hvb
        subst hN0
        go_wp2_with fail
        go_loopw [9] (fun i' wr => i' = .int .i64 0 ∧ Ext w2 wr) (fun _ _ => 0)
        case atStart => exact ⟨rfl, Ext.refl _⟩
        case round =>
          obtain ⟨rfl, hx⟩ := hrel
          go_wp2_with fail
          refine (H2.out _ (HE.out.ext (x12.trans hx))).mono ?_
          rintro e w4 ⟨⟨vc, rfl, hoc⟩, x4⟩
          have hoa4 := own_ext (own_ext HOA.out hx) x4
          have HC := Lib.hid hoc; have HA4 := Lib.hid hoa4
          clear hoc hoa4
          go_wp2_with fail
          refine (same_any L L vc _ _ _ w4 HC.out (by rw [← HNL.out]; exact HA4.out) HL.out HL.out).mono ?_
          rintro e w5 ⟨rfl, x5⟩
          rw [decide_eq_true (rfl : L = L)]
          have x1245 := (x12.trans (hx.trans x4)).trans x5
          go_wp2_with (go_at_call 11; refine (awake_any _ (HE.out.ext x1245)).mono ?_; rintro e w6 ⟨rfl, x6⟩)
          go_ret
          exact ⟨rfl, x1245.trans x6⟩
      · obtain ⟨ga, ca, rfl, _, ra⟩ : ∃ g c, va = .slice (some ⟨g, 0, none⟩) N c ∧ g < w2.heap.size ∧ RowAt g L w2 := by
          rcases hra with ⟨h, _⟩ | h
          · exfalso; have := HNL.out; rw [h] at this; simp at this; omega
          · exact h
        obtain ⟨gb, cb, rfl, _, rb⟩ : ∃ g c, vb = .slice (some ⟨g, 0, none⟩) N c ∧ g < w2.heap.size ∧ RowAt g (L.map (shiftT 2)) w2 := by
          rcases hrb with ⟨h, _⟩ | h
          · exfalso; have := congrArg List.length h; rw [List.length_map, ← HNL.out] at this; simp at this; omega
          · exact h
        have RA := Lib.hid ra; have RB := Lib.hid rb
        clear hra hrb ra rb
        go_wp2_with fail
        go_loopw [9] (fun i' wr => ∃ k : Nat, k ≤ N ∧ i' = .int .i64 k ∧ Ext w2 wr) (fun i' _ => N - (RowKit.intOf i').toNat)
        case atStart => exact ⟨0, by omega, rfl, Ext.refl _⟩
        case round =>
          obtain ⟨k, hk, rfl, hx⟩ := hrel
          by_cases hlt : k < N
          · have hkl : k < L.length := by rw [← HNL.out]; exact hlt
            obtain ⟨a0, a1, a2, a3⟩ := toksC_at L k hkl
            obtain ⟨b0, b1, b2, b3⟩ := toksC_at (L.map (shiftT 2)) k (by rw [List.length_map]; exact hkl)
            have hmem := HLN.out L[k] (List.getElem_mem hkl)
            have ra := RA.out.ext hx
            have rb := RB.out.ext hx
            have p0 := ra _ _ a0; have p1 := ra _ _ a1; have p2 := ra _ _ a2; have p3 := ra _ _ a3
            have q0 := rb _ _ b0; have q1 := rb _ _ b1; have q2 := rb _ _ b2; have q3 := rb _ _ b3
            rw [List.getElem_map] at q0 q1 q2 q3
            have hlt' : (k : Int) < (N : Int) := by omega
            clear a0 a1 a2 a3 b0 b1 b2 b3 ra rb
            obtain ⟨tA, hA⟩ : ∃ t, L[k] = t := ⟨_, rfl⟩
            rw [hA] at p0 p1 p2 p3 q0 q1 q2 q3 hmem
            clear hA
            obtain ⟨k1, t1, n1, l1⟩ := tA
            unfold shiftT at q0 q1 q2 q3
            dsimp only at p0 p1 p2 p3 q0 q1 q2 q3 hmem
            obtain ⟨hm0, hm1⟩ := hmem
            go_wp2
            go_region
            all_goals
              go_wp2
              go_roundw
              case rel => exact ⟨k + 1, by omega, by go_num, hx.drew⟩
              case measure => simp [RowKit.intOf]; omega
          · have hge : (N : Int) ≤ (k : Int) := by omega
            go_wp2_with fail
            refine (H2.out _ (HE.out.ext (x12.trans hx))).mono ?_
            rintro e w4 ⟨⟨vc, rfl, hoc⟩, x4⟩
            have hoa4 := own_ext (own_ext HOA.out hx) x4
            have HC := Lib.hid hoc; have HA4 := Lib.hid hoa4
            clear hoc hoa4
            go_wp2_with fail
            refine (same_any L L vc _ _ _ w4 HC.out (by rw [← HNL.out]; exact HA4.out) HL.out HL.out).mono ?_
            rintro e w5 ⟨rfl, x5⟩
            rw [decide_eq_true (rfl : L = L)]
            have x1245 := (x12.trans (hx.trans x4)).trans x5
            go_wp2_with (go_at_call 11; refine (awake_any _ (HE.out.ext x1245)).mono ?_; rintro e w6 ⟨rfl, x6⟩)
            go_ret
            exact ⟨rfl, x1245.trans x6⟩
    · rw [if_neg hc] at hT1'
      have H0 := Lib.hid hT0'; have H1 := Lib.hid hT1'
      clear hT0 hT1 hT2 hT0' hT1' hlines hlen hR hpre hsuf hsl hl0 hNL
      go_enter Tryd.func6, Tryd.ntmps6
      go_wp2_with fail
      refine (H0.out _ HE.out).mono ?_
      rintro e w1 ⟨⟨va, rfl, hoa⟩, x1⟩
      go_wp2_with fail
      refine (H1.out _ (HE.out.ext x1)).mono ?_
      rintro e w2 ⟨⟨vb, rfl, hob⟩, x2⟩
      have hoa2 := own_ext hoa x2
      have x12 := x1.trans x2
      have hra := own_row hoa2
      have hrb := own_row hob
      rw [← HNL.out] at hra hoa2
      rw [List.length_map, ← HNL.out] at hrb
      have HOA := Lib.hid hoa2
      clear hoa hob hoa2
      rcases Nat.eq_zero_or_pos N with hN0 | hN0
      · have hva : ∃ a c, va = .slice a N c := by
          rcases hra with ⟨_, a, c, h⟩ | ⟨g, c, h, _⟩
          · exact ⟨a, c, by rw [h, hN0]⟩
          · exact ⟨_, _, h⟩
        have hvb : ∃ a c, vb = .slice a N c := by
          rcases hrb with ⟨_, a, c, h⟩ | ⟨g, c, h, _⟩
          · exact ⟨a, c, by rw [h, hN0]⟩
          · exact ⟨_, _, h⟩
        clear hra hrb
        obtain ⟨a, ca, rfl⟩ := hva
        obtain ⟨b, cb, rfl⟩ := hvb
        subst hN0
        go_wp2_with fail
        go_loopw [9] (fun i' wr => i' = .int .i64 0 ∧ Ext w2 wr) (fun _ _ => 0)
        case atStart => exact ⟨rfl, Ext.refl _⟩
        case round =>
          obtain ⟨rfl, hx⟩ := hrel
          go_wp2_with (go_at_call 11; refine (awake_any _ (HE.out.ext (x12.trans hx))).mono ?_; rintro e w4 ⟨rfl, x4⟩)
          go_ret
          exact ⟨rfl, (x12.trans hx).trans x4⟩
      · obtain ⟨ga, ca, rfl, _, ra⟩ : ∃ g c, va = .slice (some ⟨g, 0, none⟩) N c ∧ g < w2.heap.size ∧ RowAt g L w2 := by
          rcases hra with ⟨h, _⟩ | h
          · exfalso; have := HNL.out; rw [h] at this; simp at this; omega
          · exact h
        obtain ⟨gb, cb, rfl, _, rb⟩ : ∃ g c, vb = .slice (some ⟨g, 0, none⟩) N c ∧ g < w2.heap.size ∧ RowAt g (L.map (shiftT 2)) w2 := by
          rcases hrb with ⟨h, _⟩ | h
          · exfalso; have := congrArg List.length h; rw [List.length_map, ← HNL.out] at this; simp at this; omega
          · exact h
        have RA := Lib.hid ra; have RB := Lib.hid rb
        clear hra hrb ra rb
        go_wp2_with fail
        go_loopw [9] (fun i' wr => ∃ k : Nat, k ≤ N ∧ i' = .int .i64 k ∧ Ext w2 wr) (fun i' _ => N - (RowKit.intOf i').toNat)
        case atStart => exact ⟨0, by omega, rfl, Ext.refl _⟩
        case round =>
          obtain ⟨k, hk, rfl, hx⟩ := hrel
          by_cases hlt : k < N
          · have hkl : k < L.length := by rw [← HNL.out]; exact hlt
            obtain ⟨a0, a1, a2, a3⟩ := toksC_at L k hkl
            obtain ⟨b0, b1, b2, b3⟩ := toksC_at (L.map (shiftT 2)) k (by rw [List.length_map]; exact hkl)
            have hmem := HLN.out L[k] (List.getElem_mem hkl)
            have ra := RA.out.ext hx
            have rb := RB.out.ext hx
            have p0 := ra _ _ a0; have p1 := ra _ _ a1; have p2 := ra _ _ a2; have p3 := ra _ _ a3
            have q0 := rb _ _ b0; have q1 := rb _ _ b1; have q2 := rb _ _ b2; have q3 := rb _ _ b3
            rw [List.getElem_map] at q0 q1 q2 q3
            have hlt' : (k : Int) < (N : Int) := by omega
            clear a0 a1 a2 a3 b0 b1 b2 b3 ra rb
            obtain ⟨tA, hA⟩ : ∃ t, L[k] = t := ⟨_, rfl⟩
            rw [hA] at p0 p1 p2 p3 q0 q1 q2 q3 hmem
            clear hA
            obtain ⟨k1, t1, n1, l1⟩ := tA
            unfold shiftT at q0 q1 q2 q3
            dsimp only at p0 p1 p2 p3 q0 q1 q2 q3 hmem
            obtain ⟨hm0, hm1⟩ := hmem
            go_wp2
            go_region
            all_goals
              go_wp2
              go_roundw
              case rel => exact ⟨k + 1, by omega, by go_num, hx.drew⟩
              case measure => simp [RowKit.intOf]; omega
          · have hge : (N : Int) ≤ (k : Int) := by omega
            go_wp2_with (go_at_call 11; refine (awake_any _ (HE.out.ext (x12.trans hx))).mono ?_; rintro e w4 ⟨rfl, x4⟩)
            go_ret
            exact ⟨rfl, (x12.trans hx).trans x4⟩
end Go.Proofs.YtddpodndchpjfaaDoor.Lx
