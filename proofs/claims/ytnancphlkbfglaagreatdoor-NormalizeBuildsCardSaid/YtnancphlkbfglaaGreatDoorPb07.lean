/- Packed texts: AttTextW, AttPortsW, FixRound, AttAcc -/
import Derived.Test.YtnancphlkbfglaaGreatDoorPb06
import Derived.Test.YtnancphlkbfglaaGreatDoorPb05
import Derived.Test.YtnancphlkbfglaaGreatDoorPb03
set_option linter.unusedVariables false
set_option linter.unusedSimpArgs false
namespace Go.Proofs.YtnancphlkbfglaaGreatDoor.At
open Go.RowKit Go.Sort Go.Lib Go.Shelf Fx Lx
def okT (b : UInt8) : Bool := decide (32 ≤ b.toNat) && decide (b.toNat ≤ 126)
def textB (s : ByteArray) : Bool := decide (s.size ≤ 32) && s.data.toList.all okT
set_option maxHeartbeats 2000000 in
theorem text_any (s : ByteArray) (w : World) (hs : s.size ≤ 9223372036854775807) :
    Calls Tryz.prog 105 #[.string s] w fun e w' => e = .returned (.bool (textB s)) ∧ w = w' := by
  by_cases h32 : 32 < s.size
  · have hf : textB s = false := by unfold textB; rw [decide_eq_false (by omega)]; rfl
    rw [hf]
    go_enter Tryz.func105, Tryz.ntmps105
    go_wp2
    go_returns
    exact ⟨rfl, rfl⟩
  · have hf : textB s = s.data.toList.all okT := by unfold textB; rw [decide_eq_true (by omega)]; rfl
    rw [hf]
    clear hf
    obtain ⟨R, hR⟩ : ∃ R, R = s.data.toList.all okT := ⟨_, rfl⟩
    have HR : Hid (R = (s.data.toList.drop 0).all okT) := Lib.hid (by rw [hR, List.drop_zero])
    rw [← hR]; clear hR
    go_enter Tryz.func105, Tryz.ntmps105
    go_wp2_with fail
    go_loop [9] (fun n => ∃ k : Nat, k ≤ s.size ∧ n = .int .i64 k ∧ Hid (R = (s.data.toList.drop k).all okT)) (fun n => s.size - (RowKit.intOf n).toNat)
    case atStart => exact ⟨0, by omega, rfl, HR⟩
    case round =>
      obtain ⟨k, hk, rfl, ha⟩ := hrel
      clear HR
      by_cases hlt : k < s.size
      · have hst := ha.out
        have hd : s.data.toList.drop k = s[k] :: s.data.toList.drop (k + 1) := by
          rw [List.drop_eq_getElem_cons (by rw [← size_len]; exact hlt)]; rfl
        rw [hd, List.all_cons] at hst
        clear hd
        clear ha
        by_cases c1 : 32 ≤ s[k].toNat
        · by_cases c2 : s[k].toNat ≤ 126
          · have hf : Hid (R = (s.data.toList.drop (k + 1)).all okT) := Lib.hid (by
              rw [hst]; unfold okT; rw [decide_eq_true c1, decide_eq_true c2]; rfl)
            clear hst
            go_wp2
            go_round
            case rel => exact ⟨k + 1, by omega, by go_num, hf⟩
            case measure => simp [RowKit.intOf]; omega
          · have hf : Hid (R = false) := Lib.hid (by
              rw [hst]; unfold okT; rw [decide_eq_false c2]; simp)
            clear hst
            go_wp2
            go_returns
            exact ⟨by rw [hf.out]; rfl, rfl⟩
        · have hf : Hid (R = false) := Lib.hid (by
            rw [hst]; unfold okT; rw [decide_eq_false c1]; simp)
          clear hst
          go_wp2
          go_returns
          exact ⟨by rw [hf.out]; rfl, rfl⟩
      · have hf : Hid (R = true) := Lib.hid (by
          rw [ha.out, List.drop_eq_nil_of_le (by rw [← size_len]; omega)]; rfl)
        clear ha
        go_wp2
        go_returns
        exact ⟨by rw [hf.out]; rfl, rfl⟩
def knownB (kind : Int) : Bool := decide (kind = 1) || decide (kind = 2) || decide (kind = 4)
theorem isknown_any (kind : Int) (w : World) :
    Calls Tryz.prog 133 #[.int .i64 kind] w fun e w' => e = .returned (.bool (knownB kind)) ∧ w = w' := by
  unfold knownB
  by_cases h1 : kind = 1
  · subst h1
    go_enter Tryz.func133, Tryz.ntmps133
    go_wp2
    go_returns
    exact ⟨rfl, rfl⟩
  by_cases h2 : kind = 2
  · subst h2
    go_enter Tryz.func133, Tryz.ntmps133
    go_wp2
    go_returns
    exact ⟨rfl, rfl⟩
  obtain ⟨f1, _⟩ := ne_facts h1
  obtain ⟨f2, _⟩ := ne_facts h2
  rw [decide_eq_false h1, decide_eq_false h2]
  by_cases h4 : kind = 4
  · subst h4
    go_enter Tryz.func133, Tryz.ntmps133
    go_wp2
    go_returns
    exact ⟨rfl, rfl⟩
  obtain ⟨f4, _⟩ := ne_facts h4
  rw [decide_eq_false h4]
  go_enter Tryz.func133, Tryz.ntmps133
  go_wp2
  go_returns
  exact ⟨rfl, rfl⟩
end Go.Proofs.YtnancphlkbfglaaGreatDoor.At

namespace Go.Proofs.YtnancphlkbfglaaGreatDoor.At
open Go.RowKit Go.Sort Go.Lib Go.Shelf Fx Lx
set_option maxHeartbeats 8000000 in
set_option maxRecDepth 1000000 in
theorem ports_any (s : ByteArray) (w : World) (hs : s.size < 4294967281) (he : Env w) :
    Calls Tryz.prog 28 #[.string s] w fun e w' => PrtRes w.heap.size (portsV s) e w' ∧ Ext w w' := by
  rcases Nat.eq_zero_or_pos s.size with h0 | h0
  · obtain ⟨e1, e2, e3⟩ := tl_nil s h0
    have hr : portsV s = ([], 0) := by unfold portsV; rw [if_pos h0]
    rw [hr]
    go_enter Tryz.func28, Tryz.ntmps28
    go_wp2
    go_returns
    exact ⟨⟨_, rfl, World.ownsRow_nil _ _ _ _⟩, Ext.refl _⟩
  · obtain ⟨e1, e2, e3⟩ := tl_cons s h0
    have hr : portsV s = portsGo ((parts s).drop 0) [] := by unfold portsV; rw [if_neg (by omega)]; rfl
    obtain ⟨R, hR⟩ : ∃ R, R = portsV s := ⟨_, rfl⟩
    rw [← hR] at hr ⊢
    have HSP := Lib.hid (split_any s w hs he)
    have hsm := split_small comma (Lib.countB s comma) s
    have hpl : (parts s).length ≤ s.size + 1 := by
      have := Lib.splitB_length_le comma 0 (Lib.countB s comma) s
      have h2 := Lib.countB_le comma (by decide) s.size s (Nat.le_refl _)
      unfold parts; omega
    obtain ⟨L, hL⟩ : ∃ L, L = parts s := ⟨_, rfl⟩
    rw [show Lib.splitB comma 0 (Lib.countB s comma) s = parts s from rfl] at hsm
    rw [← hL] at hr HSP hsm hpl
    obtain ⟨N, hN⟩ : ∃ N, N = L.length := ⟨_, rfl⟩
    rw [← hN] at hpl HSP
    have HR := Lib.hid hr
    have HE := Lib.hid he
    have HSM := Lib.hid hsm
    have HN := Lib.hid hN
    clear hr hR he hL hsm hN
    obtain ⟨i0, hi, hz0, hz1, hz2⟩ := info_parts info_prt
    go_enter Tryz.func28, Tryz.ntmps28
    go_wp2_with fail
    refine HSP.out.mono ?_
    rintro e w0 ⟨rfl, rfl⟩
    go_wp2_with fail
    have hx0 : Ext w (w.alloc (.cells (L.map Value.string).toArray 9)) := (Ext.refl _).alloc _
    go_loopw [4, 16] (fun out i' wr => ∃ (k : Nat) (O : List Prt), k ≤ N ∧ i' = .int .i64 k ∧ wr.ownsRow (w.heap.size + 1) 132 2 out O.length (prtsC O) ∧ Ext (w.alloc (.cells (L.map Value.string).toArray 9)) wr ∧ Hid (R = portsGo (L.drop k) O) ∧ O.length ≤ 8)
      (fun _ i' _ => N - (RowKit.intOf i').toNat)
    case atStart => exact ⟨0, [], by omega, rfl, World.ownsRow_nil _ _ _ _, Ext.refl _, HR, by simp⟩
    case round =>
      obtain ⟨k, O, hk, rfl, hown, hx, ha, hol⟩ := hrel
      clear HR
      have hxs := hx.size
      have hxw := hx0.trans hx
      by_cases hp : k < N
      · have hkl : k < L.length := by rw [← HN.out]; exact hp
        have c0 := hx.cell (parts_cell w L k hkl)
        have hst := ha.out
        rw [List.drop_eq_getElem_cons hkl] at hst
        have hps := HSM.out _ (List.getElem_mem hkl)
        obtain ⟨p, hpe⟩ : ∃ p, p = L[k] := ⟨_, rfl⟩
        rw [← hpe] at hst c0 hps
        have hw := portsGo_ways p _ O R hst
        clear hst ha hpe
        obtain ⟨n, hn⟩ : ∃ n, nmOf p = n := ⟨_, rfl⟩
        obtain ⟨x, hxd⟩ : ∃ x, wdOf p = x := ⟨_, rfl⟩
        obtain ⟨d, hd⟩ : ∃ d, sideN x = d := ⟨_, rfl⟩
        rw [hn, hxd, hd] at hw
        rcases hw with ⟨c1, hf'⟩ | ⟨c1, c2, hf'⟩ | ⟨c1, c2, c3, hf'⟩ | ⟨c1, c2, c3, c4, hf'⟩ | ⟨c1, c2, c3, c4, c5, hf'⟩ | ⟨c1, c2, c3, c4, c5, hf'⟩
        · have HC := Lib.hid (cut_miss p wr (by omega) (HE.out.ext hxw) c1)
          clear c1 hn hxd hd
          go_wp2_with (first | (go_at_call 65; refine HC.out.mono ?_; rintro e w1 ⟨⟨b, rfl⟩, x1⟩) | (go_at_call 43; refine (side_any _ _ _ _ rfl).mono ?_; rintro e w2 ⟨rfl, rfl⟩))
          go_returns
          rw [hf'.out]
          exact ⟨⟨_, rfl, World.ownsRow_nil _ _ _ _⟩, ((hxw.trans x1).alloc _).alloc _⟩
        all_goals
          have HC := Lib.hid (cut_hit p n x wr (by omega) (HE.out.ext hxw) c1 hn hxd)
          have HD := Lib.hid hd
          have HNM := Lib.hid (fun w => isName_any n (by rw [← hn]; unfold nmOf; rw [ByteArray.size_extract]; omega) w)
          clear c1 hn hxd hd
        · have g1 : decide (d < 0) = true := decide_eq_true c2
          go_wp2_with (first | (go_at_call 65; refine HC.out.mono ?_; rintro e w1 ⟨rfl, x1⟩; have hn1 := cell_new w1 n) | (go_at_call 43; refine (side_any _ d _ _ HD.out).mono ?_; rintro e w2 ⟨rfl, rfl⟩))
          go_returns
          rw [hf'.out]
          exact ⟨⟨_, rfl, World.ownsRow_nil _ _ _ _⟩, ((hxw.trans x1).alloc _).alloc _⟩
        all_goals
          have g1 : decide (d < 0) = false := decide_eq_false (by omega)
          rw [c3] at HNM
        · go_wp2_with (first | (go_at_call 65; refine HC.out.mono ?_; rintro e w1 ⟨rfl, x1⟩; have hn1 := cell_new w1 n) | (go_at_call 43; refine (side_any _ d _ _ HD.out).mono ?_; rintro e w2 ⟨rfl, rfl⟩) | (go_at_call 50; refine (HNM.out _).mono ?_; rintro e w3 ⟨rfl, rfl⟩))
          go_returns
          rw [hf'.out]
          exact ⟨⟨_, rfl, World.ownsRow_nil _ _ _ _⟩, ((hxw.trans x1).alloc _).alloc _⟩
        all_goals
          obtain ⟨oa, oc, rfl, hin⟩ := own_prts hown
        · go_wp2_with (first | (go_at_call 65; refine HC.out.mono ?_; rintro e w1 ⟨rfl, x1⟩; have hn1 := cell_new w1 n) | (go_at_call 43; refine (side_any _ d _ _ HD.out).mono ?_; rintro e w2 ⟨rfl, rfl⟩) | (go_at_call 50; refine (HNM.out _).mono ?_; rintro e w3 ⟨rfl, rfl⟩) | (go_at_call 66; refine (hasP_any oa O oc n ⟨w1.heap.size, 0, none⟩ _ (hin.ext ((x1.alloc _).alloc _)) (hn1 _) (by omega)).mono ?_; rw [c4]; rintro e w4 ⟨rfl, x4⟩; have hn4 := x4.cell (hn1 _)))
          go_returns
          rw [hf'.out]
          exact ⟨⟨_, rfl, World.ownsRow_nil _ _ _ _⟩, (((hxw.trans x1).alloc _).alloc _).trans x4⟩
        · obtain ⟨f1, _⟩ := eq_facts (x := (O.length : Int)) (k := 8) (by omega)
          clear c5
          go_wp2_with (first | (go_at_call 65; refine HC.out.mono ?_; rintro e w1 ⟨rfl, x1⟩; have hn1 := cell_new w1 n) | (go_at_call 43; refine (side_any _ d _ _ HD.out).mono ?_; rintro e w2 ⟨rfl, rfl⟩) | (go_at_call 50; refine (HNM.out _).mono ?_; rintro e w3 ⟨rfl, rfl⟩) | (go_at_call 66; refine (hasP_any oa O oc n ⟨w1.heap.size, 0, none⟩ _ (hin.ext ((x1.alloc _).alloc _)) (hn1 _) (by omega)).mono ?_; rw [c4]; rintro e w4 ⟨rfl, x4⟩; have hn4 := x4.cell (hn1 _)))
          go_returns
          rw [hf'.out]
          exact ⟨⟨_, rfl, World.ownsRow_nil _ _ _ _⟩, (((hxw.trans x1).alloc _).alloc _).trans x4⟩
        · obtain ⟨f1, _⟩ := ne_facts (x := (O.length : Int)) (k := 8) (by omega)
          have H8 : O.length < 8 := by omega
          clear c5
          go_wp2_with (first | (go_at_call 65; refine HC.out.mono ?_; rintro e w1 ⟨rfl, x1⟩; have hn1 := cell_new w1 n) | (go_at_call 43; refine (side_any _ d _ _ HD.out).mono ?_; rintro e w2 ⟨rfl, rfl⟩) | (go_at_call 50; refine (HNM.out _).mono ?_; rintro e w3 ⟨rfl, rfl⟩) | (go_at_call 66; refine (hasP_any oa O oc n ⟨w1.heap.size, 0, none⟩ _ (hin.ext ((x1.alloc _).alloc _)) (hn1 _) (by omega)).mono ?_; rw [c4]; rintro e w4 ⟨rfl, x4⟩; have hn4 := x4.cell (hn1 _)) | (at_builtin; refine wpList_append_own _ rfl _ _ 38 rfl (w.heap.size + 1) 132 i0 _ 2 24 Tryz.underlying38 hi hz0 hz1 hz2 rfl (by decide) _ _ _ rfl ((own_ext hown (((x1.alloc _).alloc _).trans x4)).alloc _) ⟨w4.heap.size, 0, none⟩ 1 1 (prtC (n, d)) rfl rfl ?c1 ?c2 ?c3 ?c4 ?c5 ?_))
          case c1 => exact fun j u hj => cell_new1 w4 (prtC (n, d)) 132 j u hj
          case c2 => intro u hu; simp [prtC] at hu; rcases hu with rfl | rfl <;> rfl
          case c3 => unfold maxLen; omega
          case c4 => omega
          case c5 =>
            have h := (hx.trans (((x1.alloc (.cells #[.string n] 9)).alloc (.cells #[.string ⟨#[116, 111, 112]⟩, .string ⟨#[114, 105, 103, 104, 116]⟩, .string ⟨#[98, 111, 116, 116, 111, 109]⟩, .string ⟨#[108, 101, 102, 116]⟩] 9)).trans x4)).size
            rw [World.size_alloc] at h
            simp; omega
          intro v' w5 hown' hgrow _
          have hx4 := (((hxw.trans x1).alloc (.cells #[.string n] 9)).alloc (.cells #[.string ⟨#[116, 111, 112]⟩, .string ⟨#[114, 105, 103, 104, 116]⟩, .string ⟨#[98, 111, 116, 116, 111, 109]⟩, .string ⟨#[108, 101, 102, 116]⟩] 9)).trans x4
          have hown2 : w5.ownsRow (w.heap.size + 1) 132 2 v' (O ++ [(n, d)]).length (prtsC (O ++ [(n, d)])) := by
            rw [prtsC_snoc]; simpa using hown'
          have hsz := hx4.size
          have hx6 : Ext (w.alloc (.cells (L.map Value.string).toArray 9)) w5 := Below.grown ((((hx.trans x1).alloc (.cells #[.string n] 9)).alloc (.cells #[.string ⟨#[116, 111, 112]⟩, .string ⟨#[114, 105, 103, 104, 116]⟩, .string ⟨#[98, 111, 116, 116, 111, 109]⟩, .string ⟨#[108, 101, 102, 116]⟩] 9)).trans x4 |>.alloc _) hgrow (by simp; omega) (fun k hk => by rw [World.size_alloc]; exact (hown.lt k hk).1)
          clear hown' hgrow hown hx4
          go_wp2
          go_roundw
          case rel => exact ⟨k + 1, O ++ [(n, d)], by omega, by go_num, hown2, hx6, hf', by simp; omega⟩
          case measure => simp [RowKit.intOf]; omega
      · have hR : R = (O, 0) := by
          rw [ha.out, List.drop_eq_nil_of_le (by rw [← HN.out]; omega)]; rfl
        have HR := Lib.hid hR
        clear ha hR
        go_wp2
        go_returns
        rw [HR.out]
        exact ⟨⟨_, rfl, own_base hown (by omega)⟩, hxw⟩
end Go.Proofs.YtnancphlkbfglaaGreatDoor.At

namespace Go.Proofs.YtnancphlkbfglaaGreatDoor.Fx
open Go.Lib
theorem valF_app : ∀ (x y : List UInt8) (a : Nat), valF a (x ++ y) = valF (valF a x) y
  | [], _, _ => rfl
  | b :: r, y, a => valF_app r y (10 * a + (b.toNat - 48))
theorem byte_of (b : UInt8) (h : isD b = true) : UInt8.ofNat (48 + (b.toNat - 48)) = b := by
  unfold isD at h; simp at h
  rw [show 48 + (b.toNat - 48) = b.toNat by omega]; simp
theorem dd_big (u : Nat) (h : 10 ≤ u) : decDigits u = decDigits (u / 10) ++ [UInt8.ofNat (48 + u % 10)] := by rw [decDigits, dif_neg (by omega)]
theorem split_join : ∀ (l : List UInt8), l = (splitDot l).1 ++ (if (splitDot l).2.2 then 46 :: (splitDot l).2.1 else [])
  | [] => rfl
  | b :: r => by
    have ih := split_join r
    unfold splitDot
    by_cases h : b = 46
    · simp [h]
    · have hb : (b == 46) = false := by simpa using h
      rw [hb]
      simp only [Bool.false_eq_true, if_false, List.cons_append]
      rw [← ih]
theorem trim_pad (F : List UInt8) (k : Nat) (h : F = [] ∨ F[F.length - 1]?.getD 0 ≠ 48) : trimRightB (F ++ List.replicate k 48) 48 = F := by
  have hr : ∀ (k : Nat) (l : List UInt8), (List.replicate k (48 : UInt8) ++ l).dropWhile (· == 48) = l.dropWhile (· == 48) := by
    intro k
    induction k with
    | zero => intro l; rfl
    | succ k ih => intro l; rw [List.replicate_succ, List.cons_append, List.dropWhile_cons]; simp [ih]
  unfold trimRightB
  rw [List.reverse_append, List.reverse_replicate, hr]
  by_cases hF0 : F = []
  · subst hF0; rfl
  · replace h := h.resolve_left hF0
    have : ∃ x r, F.reverse = x :: r ∧ x ≠ 48 := by
      cases hF : F.reverse with
      | nil => exact absurd (by simpa using hF) hF0
      | cons x r =>
        refine ⟨x, r, rfl, ?_⟩
        have e : F = r.reverse ++ [x] := by have := congrArg List.reverse hF; simpa using this
        rw [e] at h; simpa using h
    obtain ⟨x, r, e, hx⟩ := this
    rw [e, List.dropWhile_cons]
    have hx' : (x == 48) = false := by simpa using hx
    rw [hx']
    simp only [Bool.false_eq_true, if_false]
    rw [← e, List.reverse_reverse]
theorem dd_of : ∀ (n : Nat) (W : List UInt8), W.length = n → W.all isD = true → W ≠ [] → W[0]?.getD 0 ≠ 48 → decDigits (valF 0 W) = W ∧ 1 ≤ valF 0 W := by
  intro n
  induction n with
  | zero => intro W hl _ hne; exact absurd (List.eq_nil_of_length_eq_zero hl) hne
  | succ n ih =>
    intro W hl hd hne h0
    have hsplit : W = W.dropLast ++ [W.getLast hne] := (List.dropLast_concat_getLast hne).symm
    have hdl : (W.dropLast).all isD = true := by
      rw [List.all_eq_true] at hd ⊢; exact fun x hx => hd x (List.dropLast_subset _ hx)
    have hlast : isD (W.getLast hne) = true := (List.all_eq_true.1 hd) _ (List.getLast_mem hne)
    have hlb : 48 ≤ (W.getLast hne).toNat ∧ (W.getLast hne).toNat ≤ 57 := by unfold isD at hlast; simpa using hlast
    generalize hc : W.getLast hne = c at *
    generalize hp : W.dropLast = p at *
    have hval : valF 0 W = 10 * valF 0 p + (c.toNat - 48) := by rw [hsplit, valF_app]; rfl
    by_cases hpe : p = []
    · subst hpe
      have hW : W = [c] := by rw [hsplit]; rfl
      have hc0 : c ≠ 48 := by rw [hW] at h0; simpa using h0
      have hv : valF 0 W = c.toNat - 48 := by rw [hval]; show 10 * 0 + _ = _; omega
      have hne48 : c.toNat ≠ 48 := fun e => hc0 (UInt8.toNat_inj.1 (by have e48 : (48 : UInt8).toNat = 48 := rfl; omega))
      rw [hv, decDigits_one (by omega), byte_of c hlast, hW]
      exact ⟨rfl, by omega⟩
    · have hpl : p.length = n := by have := congrArg List.length hsplit; simp at this; omega
      have hp0 : p[0]?.getD 0 ≠ 48 := by
        cases p with
        | nil => exact absurd rfl hpe
        | cons a r => rw [hsplit] at h0; simpa using h0
      obtain ⟨i1, i2⟩ := ih p hpl hdl hpe hp0
      rw [hval, dd_big _ (by omega), show (10 * valF 0 p + (c.toNat - 48)) / 10 = valF 0 p by omega, show (10 * valF 0 p + (c.toNat - 48)) % 10 = c.toNat - 48 by omega, i1, byte_of c hlast]
      exact ⟨hsplit.symm, by omega⟩
theorem dd_word (W : List UInt8) (hd : W.all isD = true) (hne : W ≠ []) (h0 : ¬ (1 < W.length ∧ W[0]?.getD 0 = 48)) : decDigits (valF 0 W) = W := by
  by_cases h : W[0]?.getD 0 = 48
  · have hl : W.length = 1 := by have h1 := List.length_pos_iff.2 hne; have h2 : ¬ 1 < W.length := fun hh => h0 ⟨hh, h⟩; omega
    cases W with
    | nil => simp at hl
    | cons a r =>
      have : r = [] := List.eq_nil_of_length_eq_zero (by simpa using hl)
      subst this
      have : a = 48 := by simpa using h
      subst this
      show decDigits 0 = [48]
      rw [decDigits_one (by omega)]; rfl
  · exact (dd_of _ W rfl hd hne h).1
theorem three (l : List UInt8) (hl : l.length = 3) (hd : l.all isD = true) : valF 0 l ≤ 999 ∧ (decDigits (1000 + valF 0 l)).drop 1 = l := by
  match l, hl with
  | [x, y, z], _ =>
    simp only [List.all_cons, List.all_nil, Bool.and_true, Bool.and_eq_true] at hd
    obtain ⟨hx, hy, hz⟩ := hd
    have bx : 48 ≤ x.toNat ∧ x.toNat ≤ 57 := by unfold isD at hx; simpa using hx
    have by' : 48 ≤ y.toNat ∧ y.toNat ≤ 57 := by unfold isD at hy; simpa using hy
    have bz : 48 ≤ z.toNat ∧ z.toNat ≤ 57 := by unfold isD at hz; simpa using hz
    have hv : valF 0 [x, y, z] = 10 * (10 * (10 * 0 + (x.toNat - 48)) + (y.toNat - 48)) + (z.toNat - 48) := rfl
    have h9 : valF 0 [x, y, z] ≤ 999 := by omega
    refine ⟨h9, ?_⟩
    rw [dec4 _ h9]
    show [UInt8.ofNat (48 + valF 0 [x, y, z] / 100), UInt8.ofNat (48 + valF 0 [x, y, z] / 10 % 10), UInt8.ofNat (48 + valF 0 [x, y, z] % 10)] = _
    rw [show valF 0 [x, y, z] / 100 = x.toNat - 48 by omega, show valF 0 [x, y, z] / 10 % 10 = y.toNat - 48 by omega, show valF 0 [x, y, z] % 10 = z.toNat - 48 by omega, byte_of x hx, byte_of y hy, byte_of z hz]
theorem valF_lin : ∀ (l : List UInt8) (a : Nat), valF a l = a * 10 ^ l.length + valF 0 l
  | [], a => by simp [valF]
  | b :: r, a => by
    have h1 := valF_lin r (10 * a + (b.toNat - 48))
    have h2 := valF_lin r (10 * 0 + (b.toNat - 48))
    show valF (10 * a + (b.toNat - 48)) r = a * 10 ^ (r.length + 1) + valF (10 * 0 + (b.toNat - 48)) r
    rw [h1, h2, Nat.pow_succ, Nat.add_mul, Nat.add_mul]
    have : 10 * a * 10 ^ r.length = a * (10 ^ r.length * 10) := by rw [Nat.mul_comm 10 a, Nat.mul_assoc, Nat.mul_comm 10]
    omega
theorem parse3_cases (m p : Bool) (A B : List UInt8) : parse3 m p A B = (0, 4) ∨ parse3 m p A B = (0, 16) ∨
    (digs A = true ∧ ¬ (1 < A.length ∧ A[0]?.getD 0 = 48) ∧ (p = true → digs B = true ∧ B.length ≤ 3 ∧ B[B.length - 1]?.getD 0 ≠ 48) ∧ (p = false → ¬ (m = true ∧ A = [48])) ∧ valF 0 (A ++ (B ++ [48, 48, 48]).take 3) ≤ 268435456 ∧
      parse3 m p A B = (if m then -(valF 0 (A ++ (B ++ [48, 48, 48]).take 3) : Int) else valF 0 (A ++ (B ++ [48, 48, 48]).take 3), 0)) := by
  unfold parse3
  by_cases c1 : (!digs A || (decide (1 < A.length) && A[0]?.getD 0 == 48)) = true
  · rw [if_pos c1]; exact Or.inl rfl
  rw [if_neg c1]
  by_cases c2 : (p && (!digs B || decide (3 < B.length) || B[B.length - 1]?.getD 0 == 48)) = true
  · rw [if_pos c2]; exact Or.inl rfl
  rw [if_neg c2]
  by_cases c3 : (m && !p && A == [48]) = true
  · rw [if_pos c3]; exact Or.inl rfl
  rw [if_neg c3]
  by_cases c4 : 9 < A.length
  · rw [if_pos c4]; exact Or.inr (Or.inl rfl)
  rw [if_neg c4]
  by_cases c5 : 268435456 < valF 0 (A ++ (B ++ [48, 48, 48]).take 3)
  · rw [if_pos c5]; exact Or.inr (Or.inl rfl)
  rw [if_neg c5]
  refine Or.inr (Or.inr ⟨?_, ?_, ?_, ?_, by omega, rfl⟩)
  · simp at c1; exact c1.1
  · simp at c1; exact fun h => c1.2 h.1 h.2
  · intro hp; subst hp; simp at c2; exact ⟨c2.1.1, c2.1.2, c2.2⟩
  · intro hp; subst hp; simp at c3; exact fun h => c3 h.1 h.2
theorem head_join (s : List UInt8) : s = (if hasPrefix s [45] then [45] else []) ++ trimPrefix s [45] := by
  unfold trimPrefix
  cases hp : hasPrefix s [45]
  · rfl
  · cases s with
    | nil => cases hp
    | cons a r =>
      have : (45 == a) = true := by simpa [hasPrefix, List.isPrefixOf] using hp
      have : (45 : UInt8) = a := by simpa using this
      subst this; rfl
theorem exact_ok (s : List UInt8) (v : Int) (h : parse s = (v, 0)) : fmt v = s ∧ v ≤ 268435456 ∧ -268435456 ≤ v := by
  have hs := head_join s
  have hj := split_join (trimPrefix s [45])
  have hn := splitDot_none (trimPrefix s [45])
  unfold parse at h
  generalize hm : hasPrefix s [45] = m at *
  generalize htp : trimPrefix s [45] = t at *
  generalize hA : (splitDot t).1 = A at *
  generalize hB : (splitDot t).2.1 = B at *
  generalize hP : (splitDot t).2.2 = p at *
  rcases parse3_cases m p A B with e | e | ⟨d1, d2, d3, d4, d5, e⟩
  · rw [h] at e; simp at e
  · rw [h] at e; simp at e
  · rw [h] at e
    have hv := congrArg Prod.fst e
    simp only at hv
    have hAd : A.all isD = true ∧ A ≠ [] := by unfold digs at d1; simp at d1; exact ⟨by simpa using d1.1, d1.2⟩
    have hB3 : B.length ≤ 3 ∧ B.all isD = true := by
      cases p
      · rw [hn rfl]; exact ⟨by simp, rfl⟩
      · obtain ⟨k1, k2, k3⟩ := d3 rfl
        unfold digs at k1; simp at k1; exact ⟨k2, by simpa using k1.1⟩
    rw [take_pad B hB3.1] at d5 hv
    have hpl : (pad3 B).length = 3 := by unfold pad3; simp; omega
    have hpd : (pad3 B).all isD = true := by
      unfold pad3; rw [List.all_append, hB3.2, Bool.true_and, List.all_eq_true]
      intro x hx; rw [(List.mem_replicate.1 hx).2]; rfl
    obtain ⟨r9, rD⟩ := three (pad3 B) hpl hpd
    have hval : valF 0 (A ++ pad3 B) = valF 0 A * 1000 + valF 0 (pad3 B) := by rw [valF_app, valF_lin, hpl]
    have hw := dd_word A hAd.1 hAd.2 d2
    generalize hU : valF 0 (A ++ pad3 B) = u at *
    have q1 : u / 1000 = valF 0 A := by omega
    have q2 : u % 1000 = valF 0 (pad3 B) := by omega
    have hBl : B = [] ∨ B[B.length - 1]?.getD 0 ≠ 48 := by
      cases p
      · exact Or.inl (hn rfl)
      · exact Or.inr (d3 rfl).2.2
    have hfr : fracT (u % 1000) = B := by
      unfold fracT; rw [q2, rD]; exact trim_pad B _ hBl
    have hpos : p = true → 0 < u % 1000 := by
      intro hp
      obtain ⟨k1, k2, k3⟩ := d3 hp
      rcases Nat.eq_zero_or_pos (u % 1000) with h0 | h0
      · have hz : pad3 B = [48, 48, 48] := by rw [← rD, ← q2, h0, dec4 0 (by omega)]; rfl
        have : trimRightB (pad3 B) 48 = B := trim_pad B _ hBl
        rw [hz] at this
        have hB0 : B = [] := by rw [← this]; rfl
        rw [hB0] at k1; cases k1
      · exact h0
    have hbody : fmtU u = t := by
      unfold fmtU
      rw [q1, hw, hj]
      cases p
      · have : u % 1000 = 0 := by rw [q2, hn rfl]; rfl
        rw [if_neg (by omega)]; rfl
      · rw [if_pos (hpos rfl), hfr]; rfl
    cases m
    · simp at hv
      subst hv
      refine ⟨?_, by omega, by omega⟩
      unfold fmt
      rw [if_neg (by omega), show ((u : Int)).natAbs = u by omega, hbody]
      rw [hs]; rfl
    · simp at hv
      subst hv
      have hu0 : 0 < u := by
        cases p
        · have hne : A ≠ [48] := fun h => d4 rfl ⟨rfl, h⟩
          rcases Nat.eq_zero_or_pos u with h0 | h0
          · have hv0 : valF 0 A = 0 := by omega
            rw [hv0, decDigits_one (by omega)] at hw
            exact absurd hw.symm hne
          · exact h0
        · have := hpos rfl; omega
      refine ⟨?_, by omega, by omega⟩
      unfold fmt
      rw [if_pos (by omega), show (-(u : Int)).natAbs = u by omega, hbody]
      rw [hs]; rfl
end Go.Proofs.YtnancphlkbfglaaGreatDoor.Fx

namespace Go.Proofs.YtnancphlkbfglaaGreatDoor.At
open Go.RowKit Go.Sort Go.Lib Go.Shelf Fx Lx
def accN (r : Rul) (T : Int × Int) : Bool := decide (T.2 = 0) && decide (r.2.1 ≤ T.1) && decide (T.1 ≤ r.2.2.1) && (decide (r.1 = 3) || decide (T.1.tmod 1000 = 0))
def accB (r : Rul) (s : ByteArray) : Bool :=
  if r.1 = 1 then textB s else if r.1 = 2 then textB s && decide ((portsV s).2 = 0) else if r.1 = 5 then Lib.containsS modesL s else accN r (parse s.data.toList)
theorem words_any (x : ByteArray) (ws : Value) (w : World) (h : WordsAt w ws) :
    Calls Tryz.prog 106 #[ws, .string x] w fun e w' => e = .returned (.bool (Lib.containsS modesL x)) ∧ w' = w := by
  obtain ⟨g, rfl, hc⟩ := h
  exact Tryz.slices_Contains_string g 0 5 5 modesL x w (by decide) (by decide) hc
theorem WordsAt.ext {w w' : World} {ws : Value} (h : WordsAt w ws) (x : Ext w w') : WordsAt w' ws := by
  obtain ⟨g, rfl, hc⟩ := h
  exact ⟨g, rfl, fun j hj => x.cell (hc j hj)⟩
theorem rule_cells (w : World) (a lo hi d : Int) (ws : Value) : ∀ w1, Ext (w.alloc (.cells #[.int .i64 a, .int .i64 lo, .int .i64 hi, .int .i64 d, ws] 120)) w1 →
    w1.cell? ⟨w.heap.size, 0, none⟩ = some (.int .i64 a) ∧ w1.cell? ⟨w.heap.size, 1, none⟩ = some (.int .i64 lo) ∧ w1.cell? ⟨w.heap.size, 2, none⟩ = some (.int .i64 hi) := fun w1 x => by
  have hb := heap_alloc_new w (.cells #[.int .i64 a, .int .i64 lo, .int .i64 hi, .int .i64 d, ws] 120)
  refine ⟨x.cell ?_, x.cell ?_, x.cell ?_⟩ <;> rw [Lib.cell_of_heap hb] <;> rfl
set_option maxHeartbeats 4000000 in
theorem acc_num (a lo hi d : Int) (ws : Value) (s : ByteArray) (w : World) (hs : s.size < 4294967281) (he : Env w) (h1 : a ≠ 1) (h2 : a ≠ 2) (h5 : a ≠ 5) :
    Calls Tryz.prog 61 #[.agg #[.int .i64 a, .int .i64 lo, .int .i64 hi, .int .i64 d, ws], .string s] w fun e w' => e = .returned (.bool (accN (a, lo, hi, d) (parse s.data.toList))) ∧ Ext w w' := by
  obtain ⟨f1, _⟩ := ne_facts h1
  obtain ⟨f2, _⟩ := ne_facts h2
  obtain ⟨f5, _⟩ := ne_facts h5
  obtain ⟨v, c, hp⟩ : ∃ v c, parse s.data.toList = (v, c) := ⟨_, _, rfl⟩
  have hpa := parse_any s (w.alloc (.cells #[.int .i64 a, .int .i64 lo, .int .i64 hi, .int .i64 d, ws] 120)) hs (he.ext ((Ext.refl _).alloc _))
  have hb : c = 0 → v ≤ 268435456 ∧ -268435456 ≤ v := fun h => by rw [h] at hp; exact (exact_ok _ _ hp).2
  have hx0 : Ext w (w.alloc (.cells #[.int .i64 a, .int .i64 lo, .int .i64 hi, .int .i64 d, ws] 120)) := (Ext.refl _).alloc _
  have hcl := rule_cells w a lo hi d ws
  rw [hp] at hpa ⊢
  have HPA := Lib.hid hpa
  have HCL := Lib.hid hcl
  clear hp hpa he hs h1 h2 h5 hcl
  unfold accN
  dsimp only
  by_cases k0 : c = 0
  · obtain ⟨fc, _⟩ := eq_facts k0
    obtain ⟨b1, b2⟩ := hb k0
    rw [decide_eq_true k0]
    clear hb
    by_cases k1 : lo ≤ v
    · rw [decide_eq_true k1]
      have g1 : decide (lo ≤ v) = true := decide_eq_true k1
      by_cases k2 : v ≤ hi
      · rw [decide_eq_true k2]
        have g2 : decide (v ≤ hi) = true := decide_eq_true k2
        by_cases k3 : a = 3
        · obtain ⟨f3, _⟩ := eq_facts k3
          rw [decide_eq_true k3]
          clear k0 k1 k2 k3
          go_enter Tryz.func61, Tryz.ntmps61
          go_wp2_with (go_at_call 62; refine HPA.out.mono ?_; rintro e w1 ⟨rfl, x1⟩; obtain ⟨q0, q1, q2⟩ := HCL.out _ x1)
          go_returns
          exact ⟨rfl, hx0.trans x1⟩
        · obtain ⟨f3, _⟩ := ne_facts k3
          rw [decide_eq_false k3]
          by_cases k4 : v.tmod 1000 = 0
          · obtain ⟨f4, _⟩ := eq_facts k4
            rw [decide_eq_true k4]
            clear k0 k1 k2 k3 k4
            go_enter Tryz.func61, Tryz.ntmps61
            go_wp2_with (go_at_call 62; refine HPA.out.mono ?_; rintro e w1 ⟨rfl, x1⟩; obtain ⟨q0, q1, q2⟩ := HCL.out _ x1)
            go_returns
            exact ⟨rfl, hx0.trans x1⟩
          · obtain ⟨f4, _⟩ := ne_facts k4
            rw [decide_eq_false k4]
            clear k0 k1 k2 k3 k4
            go_enter Tryz.func61, Tryz.ntmps61
            go_wp2_with (go_at_call 62; refine HPA.out.mono ?_; rintro e w1 ⟨rfl, x1⟩; obtain ⟨q0, q1, q2⟩ := HCL.out _ x1)
            go_returns
            exact ⟨rfl, hx0.trans x1⟩
      · rw [decide_eq_false k2]
        have g2 : decide (v ≤ hi) = false := decide_eq_false k2
        clear k0 k1 k2
        go_enter Tryz.func61, Tryz.ntmps61
        go_wp2_with (go_at_call 62; refine HPA.out.mono ?_; rintro e w1 ⟨rfl, x1⟩; obtain ⟨q0, q1, q2⟩ := HCL.out _ x1)
        go_returns
        exact ⟨rfl, hx0.trans x1⟩
    · rw [decide_eq_false k1]
      have g1 : decide (lo ≤ v) = false := decide_eq_false k1
      clear k0 k1
      go_enter Tryz.func61, Tryz.ntmps61
      go_wp2_with (go_at_call 62; refine HPA.out.mono ?_; rintro e w1 ⟨rfl, x1⟩; obtain ⟨q0, q1, q2⟩ := HCL.out _ x1)
      go_returns
      exact ⟨rfl, hx0.trans x1⟩
  · obtain ⟨fc, _⟩ := ne_facts k0
    rw [decide_eq_false k0]
    clear k0 hb
    go_enter Tryz.func61, Tryz.ntmps61
    go_wp2_with (go_at_call 62; refine HPA.out.mono ?_; rintro e w1 ⟨rfl, x1⟩; obtain ⟨q0, q1, q2⟩ := HCL.out _ x1)
    go_returns
    exact ⟨rfl, hx0.trans x1⟩
set_option maxHeartbeats 4000000 in
theorem acc_text (lo hi d : Int) (ws : Value) (s : ByteArray) (w : World) (hs : s.size ≤ 9223372036854775807) :
    Calls Tryz.prog 61 #[.agg #[.int .i64 1, .int .i64 lo, .int .i64 hi, .int .i64 d, ws], .string s] w fun e w' => e = .returned (.bool (textB s)) ∧ Ext w w' := by
  have HT := Lib.hid (fun w => text_any s w hs)
  clear hs
  go_enter Tryz.func61, Tryz.ntmps61
  go_wp2_with (go_at_call 105; refine (HT.out _).mono ?_; rintro e w1 ⟨rfl, rfl⟩)
  go_returns
  exact ⟨rfl, (Ext.refl _).alloc _⟩
set_option maxHeartbeats 4000000 in
theorem acc_word (lo hi d : Int) (ws : Value) (s : ByteArray) (w : World) (hw : WordsAt w ws) :
    Calls Tryz.prog 61 #[.agg #[.int .i64 5, .int .i64 lo, .int .i64 hi, .int .i64 d, ws], .string s] w fun e w' => e = .returned (.bool (Lib.containsS modesL s)) ∧ Ext w w' := by
  have HT := Lib.hid (fun w' (x : Ext w w') => words_any s ws w' (hw.ext x))
  obtain ⟨g, rfl, _⟩ := hw
  have hx : Ext w (w.alloc (.cells #[.int .i64 5, .int .i64 lo, .int .i64 hi, .int .i64 d, .slice (some ⟨g, 0, none⟩) 5 5] 120)) := (Ext.refl _).alloc _
  go_enter Tryz.func61, Tryz.ntmps61
  go_wp2_with (go_at_call 106; refine (HT.out _ hx).mono ?_; rintro e w1 ⟨rfl, rfl⟩)
  go_returns
  exact ⟨rfl, hx⟩
set_option maxHeartbeats 4000000 in
theorem acc_ports (lo hi d : Int) (ws : Value) (s : ByteArray) (w : World) (hs : s.size < 4294967281) (he : Env w) :
    Calls Tryz.prog 61 #[.agg #[.int .i64 2, .int .i64 lo, .int .i64 hi, .int .i64 d, ws], .string s] w fun e w' => e = .returned (.bool (textB s && decide ((portsV s).2 = 0))) ∧ Ext w w' := by
  have hx0 : Ext w (w.alloc (.cells #[.int .i64 2, .int .i64 lo, .int .i64 hi, .int .i64 d, ws] 120)) := (Ext.refl _).alloc _
  have hpo := ports_any s _ hs (he.ext hx0)
  have ht := fun w => text_any s w (by omega)
  generalize textB s = t at ht ⊢
  obtain ⟨PL, c, hp⟩ : ∃ PL c, portsV s = (PL, c) := ⟨_, _, rfl⟩
  rw [hp] at hpo ⊢
  dsimp only
  have HPO := Lib.hid hpo
  clear hp hpo hs he
  cases t
  · have HT := Lib.hid ht
    clear ht
    rw [Bool.false_and]
    go_enter Tryz.func61, Tryz.ntmps61
    go_wp2_with (first | (go_at_call 28; refine HPO.out.mono ?_; rintro e w1 ⟨⟨v, rfl, _⟩, x1⟩) | (go_at_call 105; refine (HT.out _).mono ?_; rintro e w2 ⟨rfl, rfl⟩))
    go_returns
    exact ⟨rfl, hx0.trans x1⟩
  · have HT := Lib.hid ht
    clear ht
    rw [Bool.true_and]
    by_cases k0 : c = 0
    · obtain ⟨fc, _⟩ := eq_facts k0
      rw [decide_eq_true k0]
      clear k0
      go_enter Tryz.func61, Tryz.ntmps61
      go_wp2_with (first | (go_at_call 28; refine HPO.out.mono ?_; rintro e w1 ⟨⟨v, rfl, _⟩, x1⟩) | (go_at_call 105; refine (HT.out _).mono ?_; rintro e w2 ⟨rfl, rfl⟩))
      go_returns
      exact ⟨rfl, hx0.trans x1⟩
    · obtain ⟨fc, _⟩ := ne_facts k0
      rw [decide_eq_false k0]
      clear k0
      go_enter Tryz.func61, Tryz.ntmps61
      go_wp2_with (first | (go_at_call 28; refine HPO.out.mono ?_; rintro e w1 ⟨⟨v, rfl, _⟩, x1⟩) | (go_at_call 105; refine (HT.out _).mono ?_; rintro e w2 ⟨rfl, rfl⟩))
      go_returns
      exact ⟨rfl, hx0.trans x1⟩
end Go.Proofs.YtnancphlkbfglaaGreatDoor.At
