/- Packed texts: TreTln, TreLawC, TreEqs -/
import Derived.Test.YtnjnfkfmkbnkhaaGreatDoorPa20
import Derived.Test.YtnjnfkfmkbnkhaaGreatDoorPa05
import Derived.Test.YtnjnfkfmkbnkhaaGreatDoorPa31
import Derived.Test.YtnjnfkfmkbnkhaaGreatDoorPa32
import Derived.Test.YtnjnfkfmkbnkhaaGreatDoorPa33
import Derived.Test.YtnjnfkfmkbnkhaaGreatDoorPa14
import Derived.Laws.StructEq
import Derived.Deep.QuietTactic
import Derived.BigQuiet
set_option linter.unusedVariables false
set_option linter.unusedSimpArgs false
/- How many tokens a text has at most; plain. -/
namespace Go.Proofs.YtnjnfkfmkbnkhaaGreatDoor.Lx
open Go.Lib Fx


theorem tokz_len (hn : ∀ s : List UInt8, 0 < s.length → (next s).2.2 = 0 → 1 ≤ (next s).2.1) : ∀ (f : Nat) (s : List UInt8) (ln : Int) (L : List Tok), s.length ≤ f → (tokz f ln L s).1.length ≤ L.length + s.length
  | 0, s, ln, L, _ => by show L.length ≤ _; omega
  | f + 1, [], ln, L, _ => by show L.length ≤ _; omega
  | f + 1, c :: r, ln, L, h => by
    simp only [List.length_cons] at h ⊢
    rw [tokz_cons]
    by_cases h1 : c = 10
    · rw [if_pos h1]; have := tokz_len hn f r (ln + 1) L (by omega); omega
    rw [if_neg h1]
    by_cases h2 : (decide (c = 32) || decide (c = 9)) = true
    · rw [if_pos h2]; have := tokz_len hn f r ln L (by omega); omega
    rw [if_neg h2]
    by_cases h3 : c = 35
    · rw [if_pos h3, skip_cons r h1]
      have hs := skip_le r
      have := tokz_len hn f (skip r).1 (if (skip r).2 then ln + 1 else ln) L (by omega)
      omega
    rw [if_neg h3]
    by_cases h4 : (next (c :: r)).2.2 = 0
    · rw [if_pos h4]
      have hl := hn (c :: r) (by simp) h4
      have hd : ((c :: r).drop (next (c :: r)).2.1).length ≤ r.length := by rw [List.length_drop, List.length_cons]; omega
      have := tokz_len hn f ((c :: r).drop (next (c :: r)).2.1) ln (L ++ [⟨(next (c :: r)).1.kind, (next (c :: r)).1.text, (next (c :: r)).1.n, ln⟩]) (by omega)
      rw [List.length_append, List.length_singleton] at this
      rw [List.length_drop, List.length_cons] at this
      omega
    · rw [if_neg h4]; exact Nat.zero_le _
theorem tokenize_len (s : List UInt8) : (tokenize s).1.length ≤ 16384 := by
  unfold tokenize
  by_cases h : 16384 < s.length
  · rw [if_pos h]; exact Nat.zero_le _
  · rw [if_neg h]
    have := tokz_len (fun s h0 h1 => (next_len s h0 h1).1) s.length s 1 [] (Nat.le_refl _)
    simp only [List.length_nil] at this
    omega
end Go.Proofs.YtnjnfkfmkbnkhaaGreatDoor.Lx

/- The law of tokens, walked. -/
namespace Go.Proofs.YtnjnfkfmkbnkhaaGreatDoor.Tr
open Go.RowKit Go.Sort Go.Lib Go.Shelf Fx Lx Go.ChangeShapes Go.WideShapes Go.Deep

theorem tok_big (s : List UInt8) (h : 16384 < s.length) : tokenize s = ([], 0, 2) := by unfold tokenize; rw [if_pos h]
theorem count_step (s : List UInt8) (k : Nat) (hk : k < s.length) : (s.take (k + 1)).count 10 = (s.take k).count 10 + (if s[k] = 10 then 1 else 0) := by
  rw [List.take_succ_eq_append_getElem hk, List.count_append]
  congr 1
  by_cases h : s[k] = 10
  · rw [if_pos h, h]; rfl
  · rw [if_neg h, List.count_eq_zero]; simp; exact fun e => h e.symm
set_option maxHeartbeats 8000000 in
set_option maxRecDepth 100000 in
theorem tokens_walk (nm : ByteArray) (dir : Bool) (b : Option Addr) (L : List Stm) (cap : Nat) (w : World) (h : StmsAt w.heap.size w b L) (hs : sizeL L ≤ 1048576) (hnm : nm.size ≤ 1048576) (he : Env w) :
    Calls Tryz.prog 6 #[.agg #[.string nm, .bool dir, .slice b L.length cap]] w fun e w' => e = .returned (.bool true) ∧ Ext w w' := by
  have hx0 : Ext w (w.alloc (.cells #[.string nm, .bool dir, .slice b L.length cap] 24)) := (Ext.refl _).alloc _
  have hawk := fun w' (x : Ext w w') => awake_any w' (he.ext x)
  have hsm := fun w' (x : Ext w w') => small_any nm dir b L cap w.heap.size w' x.size (StmsAt.below x L h) hs
  have hlen : validE nm L = 0 → (printT dir nm L).length + 1000 ≤ 140737488355328 := fun _ => printT_len dir nm L hnm hs
  have hpr := fun w' (x : Ext w w') => print_any nm dir b L cap w' (he.ext x) (StmsAt.mono x.size L (StmsAt.below x L h)) hs hnm hlen
  have hvd := fun w' (x : Ext w w') => validR_any nm dir b L cap w.heap.size w' x.size (StmsAt.below x L h) hs (by omega)
  have hcn := fun w' (x : Ext w w') => countR_any nm dir b L cap w.heap.size w' x.size (StmsAt.below x L h) hs
  have hct := fun (hv : validE nm L = 0) w' (x : Ext w w') => clustR_any nm dir b L cap w.heap.size w' x.size (StmsAt.below x L h) hs hnm hv
  have hcl := tree_cells w nm dir b L.length cap
  have hlF : (flatL 0 L).length ≤ 1048576 := Nat.le_trans (flatL_len 0 L) hs
  have hAll : smallB nm L = smallB nm L := rfl
  obtain ⟨m0, m1, m2⟩ := hcl _ (Ext.refl _)
  have HX := Lib.hid hx0
  cases hsb : smallB nm L
  · rw [hsb] at hsm
    generalize L.length = N at *
    have HAWK := Lib.hid hawk; have HSM := Lib.hid hsm
    clear hawk hsm hlen hpr h hs hnm he hvd hcn hct hcl hlF hAll hsb
    go_enter Tryz.func6, Tryz.ntmps6
    go_wp2_with (first | (go_at_call 7; refine (HSM.out _ HX.out).mono ?_; rintro e w1 ⟨rfl, x1⟩) | (go_at_call 8; refine (HAWK.out _ (HX.out.trans x1)).mono ?_; rintro e w2 ⟨rfl, x2⟩))
    go_returns
    exact ⟨rfl, (HX.out.trans x1).trans x2⟩
  rw [hsb] at hsm
  by_cases hv : validE nm L = 0
  · rw [hv] at hvd
    rw [if_pos hv] at hpr
    obtain ⟨v1, v2, v3, v4⟩ := valid_ok nm L hv
    have hgood := good_tree dir nm L v1 v4
    rw [lines_stms L 0 v4] at hgood
    have htk := tokenize_tree dir nm L hv
    have hfour := toksT_four dir nm L
    have htl : (printT dir nm L).length ≤ 16384 → (toksT dir nm L).length ≤ 16384 := fun hl => by
      have := tokenize_len (printT dir nm L)
      rw [htk hl] at this
      exact this
    have hct := hct hv
    have hcle := clusN_le (flatL 0 L)
    obtain ⟨F, hF⟩ : ∃ F, F = (flatL 0 L).length := ⟨_, rfl⟩
    obtain ⟨K, hK⟩ : ∃ K, K = clusN (flatL 0 L) := ⟨_, rfl⟩
    rw [← hF, ← hK] at hgood hcle
    rw [← hF] at hcn hlF v2
    rw [← hK] at hct
    obtain ⟨T, hT⟩ : ∃ T, T = toksT dir nm L := ⟨_, rfl⟩
    rw [← hT] at htk hfour htl
    obtain ⟨P, hP⟩ : ∃ P : ByteArray, P = ⟨(printT dir nm L).toArray⟩ := ⟨_, rfl⟩
    have hPd : P.data.toList = printT dir nm L := by rw [hP]
    have hPs : P.size = P.data.toList.length := size_len P
    rw [← hP] at hpr
    have hpl := hlen hv
    rw [← hPd] at hgood htk htl hpl
    rw [← hPs] at hpl
    have hto := fun w' (x : Ext w w') => tokenize_any P w' (by omega) (he.ext x)
    have htr := fun w' => tokenizeR_any P w' (by omega)
    generalize L.length = N at *
    have HAWK := Lib.hid hawk; have HSM := Lib.hid hsm; have HPR := Lib.hid hpr; have HVD := Lib.hid hvd; have HCN := Lib.hid hcn; have HCT := Lib.hid hct; have HCL := Lib.hid hcl
    have HTO := Lib.hid hto; have HTR := Lib.hid htr; have HG := Lib.hid hgood; have HTK := Lib.hid htk; have HTL := Lib.hid htl; have HPS := Lib.hid hPs; have HFOUR := Lib.hid hfour
    have hPb : P.size ≤ 140737488355328 := by omega
    clear hawk hsm hlen hpr h hs hnm he hvd hcn hct hcl hAll hsb hv v1 v3 v4 hgood htk htl hfour hF hK hT hP hPd hPs hpl hto htr hx0
    go_enter Tryz.func6, Tryz.ntmps6
    go_wp2_with (first
      | (go_at_call 7; refine (HSM.out _ HX.out).mono ?_; rintro e w1 ⟨rfl, x1⟩; obtain ⟨m0, m1, m2⟩ := HCL.out _ x1)
      | (go_at_call 13; refine (HVD.out _ (HX.out.trans x1)).mono ?_; rintro e w2 ⟨rfl, x2⟩; obtain ⟨m0, m1, m2⟩ := HCL.out _ (x1.trans x2))
      | (go_at_call 9; refine (HPR.out _ ((HX.out.trans x1).trans x2)).mono ?_; rintro e w3 ⟨rfl, x3⟩))
    have x13 := (x1.trans x2).trans x3
    clear m0 m1 m2 x1 x2 x3
    go_loop [4, 5] (fun l' i' => ∃ k : Nat, k ≤ P.size ∧ i' = .int .i64 k ∧ l' = .int .i64 ((P.data.toList.take k).count 10 : Nat)) (fun _ i' => P.size - (RowKit.intOf i').toNat)
    case atStart => exact ⟨0, by omega, rfl, rfl⟩
    case round =>
      obtain ⟨k, hk, rfl, rfl⟩ := hrel
      by_cases hlt : k < P.size
      · have hkl : k < P.data.toList.length := by rw [← HPS.out]; exact hlt
        have hstep := count_step P.data.toList k hkl
        have hat : P.data.toList[k] = P[k] := rfl
        have hok : okL P[k] = true := by rw [← hat]; exact List.all_eq_true.1 HG.out.1 _ (List.getElem_mem hkl)
        rw [hat] at hstep
        have hcb : (P.data.toList.take k).count 10 ≤ k := by
          refine Nat.le_trans List.count_le_length ?_
          rw [List.length_take]; omega
        obtain ⟨c, hc⟩ : ∃ c, c = (P.data.toList.take k).count 10 := ⟨_, rfl⟩
        rw [← hc] at hstep hcb ⊢
        unfold okL okT at hok
        by_cases h10 : P[k] = 10
        · rw [if_pos h10] at hstep
          have g1 : ((P[k].toNat : Int) == 10) = true := by rw [h10]; rfl
          have HST := Lib.hid hstep
          clear hstep hok hat hc h10
          go_wp2_with fail
          go_round
          case rel => exact ⟨k + 1, by omega, by go_num, by rw [HST.out]; go_num⟩
          case measure => simp [RowKit.intOf]; omega
        · rw [if_neg h10, Nat.add_zero] at hstep
          have hn10 : P[k].toNat ≠ 10 := fun e => h10 (UInt8.toNat_inj.1 e)
          obtain ⟨g1, _⟩ := ne_facts (x := (P[k].toNat : Int)) (k := 10) (by omega)
          have hr : 32 ≤ P[k].toNat ∧ P[k].toNat ≤ 126 := by
            simp only [Bool.or_eq_true, Bool.and_eq_true, decide_eq_true_eq, beq_iff_eq] at hok
            rcases hok with h | h
            · exact h
            · exact absurd h h10
          have g2 : decide ((P[k].toNat : Int) < 32) = false := decide_eq_false (by omega)
          have g3 : decide ((126 : Int) < P[k].toNat) = false := decide_eq_false (by omega)
          have HST := Lib.hid hstep
          clear hstep hok hat hc h10 hn10 hr
          go_wp2_with fail
          go_round
          case rel => exact ⟨k + 1, by omega, by go_num, by rw [HST.out]; rfl⟩
          case measure => simp [RowKit.intOf]; omega
      · have hcnt : (P.data.toList.take k).count 10 = 2 + (F + K) := by rw [List.take_of_length_le (by rw [← HPS.out]; omega)]; exact HG.out.2
        rw [hcnt]
        clear hcnt
        obtain ⟨m0, m1, m2⟩ := HCL.out _ x13
        have g0 : ((2 + ((F : Int) + (K : Int))) != IntKind.i64.wrap (IntKind.i64.wrap (2 + (F : Int)) + (K : Int))) = false := by
          rw [bne_eq_false_iff_eq]
          rw [IntKind.wrap_i64, IntKind.wrap_i64]
          omega
        go_wp2_with fail
        go_region_held3 (fun w' => w'.cell? ⟨w.heap.size, 0, none⟩ = some (.string nm) ∧ w'.cell? ⟨w.heap.size, 1, none⟩ = some (.bool dir) ∧ w'.cell? ⟨w.heap.size, 2, none⟩ = some (.slice b N cap))
          (first | exact ⟨m0, m1, m2⟩ | exact HCL.out _ (x13.trans x4) | exact HCL.out _ ((x13.trans x4).trans x5))
          (first
            | (go_at_call 15; refine (HCN.out _ ((HX.out.trans x13).drew)).mono ?_; rintro e w4 ⟨rfl, x4⟩; replace x4 := ((Ext.refl _).drew).trans x4)
            | (go_at_call 16; refine (HCT.out _ ((HX.out.trans x13).trans x4)).mono ?_; rintro e w5 ⟨⟨ca, cc, rfl⟩, x5⟩))
        have x15 := (x13.trans x4).trans x5
        clear m0 m1 m2 x13 x4 x5 HCN HCT HPR HVD HSM HCL
        by_cases hbig : 16384 < P.size
        · have g2 : decide ((16384 : Int) < P.size) = true := decide_eq_true (by omega)
          have ht : tokenize P.data.toList = ([], 0, 2) := tok_big _ (by rw [← HPS.out]; exact hbig)
          rw [ht] at HTO
          clear ht hbig
          go_wp2_with fail
          refine (HTO.out _ (HX.out.trans x15)).mono ?_
          rintro e w6 ⟨⟨va, rfl, hoa⟩, x6⟩
          clear hoa
          go_wp2_with (go_at_call 8; refine (HAWK.out _ ((HX.out.trans x15).trans x6)).mono ?_; rintro e w7 ⟨rfl, x7⟩)
          go_returns
          exact ⟨rfl, ((HX.out.trans x15).trans x6).trans x7⟩
        · have g2 : decide ((16384 : Int) < P.size) = false := decide_eq_false (by omega)
          have hle : P.data.toList.length ≤ 16384 := by rw [← HPS.out]; omega
          have ht := HTK.out hle
          have hl := HTL.out hle
          rw [ht] at HTO HTR
          have g4 : decide ((4 : Int) ≤ T.length) = true := decide_eq_true (by have := HFOUR.out; omega)
          clear ht hbig hle
          go_wp2_with fail
          refine (HTO.out _ (HX.out.trans x15)).mono ?_
          rintro e w6 ⟨⟨va, rfl, hoa⟩, x6⟩
          obtain ⟨ga, ca2, rfl, -, -⟩ : ∃ g cap, va = .slice (some ⟨g, 0, none⟩) T.length cap ∧ g < w6.heap.size ∧ RowAt g T w6 := by
            rcases own_row hoa with ⟨h, _⟩ | h
            · have h2 : T = [] := h
              have := HFOUR.out; rw [h2] at this; exact absurd this (by decide)
            · exact h
          go_wp2_with fail
          refine (HTR.out _).mono ?_
          rintro e w7 ⟨⟨vb, rfl, hob⟩, x7⟩
          have hoa2 := Lx.own_ext hoa x7
          have HA := Lib.hid hoa2; have HB := Lib.hid hob; have HL := Lib.hid hl
          clear hoa hob hoa2 hl
          go_wp2_with fail
          refine (same_any T T _ vb _ _ w7 HA.out HB.out HL.out HL.out).mono ?_
          rintro e w8 ⟨rfl, x8⟩
          rw [decide_eq_true (rfl : T = T)]
          have x18 := ((x15.trans x6).trans x7).trans x8
          go_wp2_with (go_at_call 8; refine (HAWK.out _ (HX.out.trans x18)).mono ?_; rintro e w9 ⟨rfl, x9⟩)
          go_returns
          exact ⟨rfl, (HX.out.trans x18).trans x9⟩
  · obtain ⟨f1, f2⟩ := ne_facts hv
    generalize L.length = N at *
    generalize validE nm L = VE at *
    have HAWK := Lib.hid hawk; have HSM := Lib.hid hsm; have HVD := Lib.hid hvd; have HCL := Lib.hid hcl
    clear hawk hsm hlen hpr h hs hnm he hvd hcn hct hcl hlF hAll hsb hv
    go_enter Tryz.func6, Tryz.ntmps6
    go_wp2_with (first | (go_at_call 7; refine (HSM.out _ HX.out).mono ?_; rintro e w1 ⟨rfl, x1⟩; obtain ⟨m0, m1, m2⟩ := HCL.out _ x1) | (go_at_call 13; refine (HVD.out _ (HX.out.trans x1)).mono ?_; rintro e w2 ⟨rfl, x2⟩) | (go_at_call 8; refine (HAWK.out _ ((HX.out.trans x1).trans x2)).mono ?_; rintro e w3 ⟨rfl, x3⟩))
    go_returns
    exact ⟨rfl, ((HX.out.trans x1).trans x2).trans x3⟩
theorem tokens_card (v : Value) (w : World) (hv : TreeArg w v) (he : Env w) : Calls Tryz.prog 6 #[v] w fun e w' => e = .returned (.bool true) ∧ Ext w w' := by
  obtain ⟨nm, dir, b, L, cap, rfl, h1, h2, h3⟩ := hv
  exact tokens_walk nm dir b L cap w h1 h2 h3 he
end Go.Proofs.YtnjnfkfmkbnkhaaGreatDoor.Tr

/- What slices.Equal returns at references and attributes. -/
namespace Go.Proofs.YtnjnfkfmkbnkhaaGreatDoor.Tr
open Go.RowKit Go.Sort Go.Lib Go.Shelf Fx Lx

open Classical in
/-- Whether two things are one. -/
noncomputable def eqb {α : Type} (a b : α) : Bool := decide (a = b)
open Classical in
theorem eqb_iff {α : Type} (a b : α) : eqb a b = true ↔ a = b := by unfold eqb; exact decide_eq_true_iff
theorem eqb_false {α : Type} {a b : α} (h : a ≠ b) : eqb a b = false := Bool.eq_false_iff.2 fun e => h ((eqb_iff a b).1 e)
theorem eqb_self {α : Type} (a : α) : eqb a a = true := (eqb_iff a a).2 rfl
theorem eqb_cons {α : Type} (x y : α) (r s : List α) : eqb (x :: r) (y :: s) = (eqb x y && eqb r s) := by
  rw [Bool.eq_iff_iff, Bool.and_eq_true, eqb_iff, eqb_iff, eqb_iff, List.cons.injEq]
theorem eqb_two (a b c d : ByteArray) : eqb (a, b) (c, d) = ((a.toList == c.toList) && (b.toList == d.toList)) := by
  rw [Bool.eq_iff_iff, Bool.and_eq_true, eqb_iff, beqs, beqs, decide_eq_true_eq, decide_eq_true_eq, Prod.mk.injEq]
theorem eqb_len {α : Type} {L M : List α} (h : L.length ≠ M.length) : eqb L M = false := eqb_false fun e => h (by rw [e])
set_option maxHeartbeats 4000000 in
set_option maxRecDepth 100000 in
theorem equal_ref (a b : Option Addr) (L M : List Two) (ca cb : Nat) (w : World) (hL : TwoIn w a L) (hM : TwoIn w b M) (hl : L.length ≤ 9223372036854775807) :
    Calls Tryz.prog 47 #[.slice a L.length ca, .slice b M.length cb] w fun e w' => e = .returned (.bool (eqb L M)) ∧ Ext w w' := by
  by_cases hn : L.length = M.length
  · obtain ⟨V, hV⟩ : ∃ V, V = eqb L M := ⟨_, rfl⟩
    rw [← hV]
    have HV : Hid (V = eqb (L.drop 0) (M.drop 0)) := Lib.hid hV
    obtain ⟨N, hN⟩ : ∃ N, N = L.length := ⟨_, rfl⟩
    rw [← hN] at hn hl ⊢
    rw [← hn]
    have HN := Lib.hid hN; have HM := Lib.hid hn; have HL := Lib.hid hL; have HI := Lib.hid hM
    clear hV hN hL hM hn
    go_enter Tryz.func47, Tryz.ntmps47
    go_wp2
    go_loopw [13] (fun i' wr => ∃ k : Nat, k ≤ N ∧ i' = .int .i64 k ∧ Ext w wr ∧ Hid (V = eqb (L.drop k) (M.drop k))) (fun i' _ => N - (RowKit.intOf i').toNat)
    case atStart => exact ⟨0, by omega, rfl, Ext.refl _, HV⟩
    case round =>
      obtain ⟨k, hk, rfl, hx, hb⟩ := hrel
      clear HV
      by_cases hlt : k < N
      · have hkl : k < L.length := by rw [← HN.out]; exact hlt
        have hkm : k < M.length := by rw [← HM.out]; exact hlt
        obtain ⟨g, o, rfl, c0, c1⟩ := (HL.out.ext hx) k hkl
        obtain ⟨g2, o2, rfl, d0, d1⟩ := (HI.out.ext hx) k hkm
        have hst := hb.out
        rw [List.drop_eq_getElem_cons hkl, List.drop_eq_getElem_cons hkm, eqb_cons] at hst
        obtain ⟨x, y, hq⟩ : ∃ x y, L[k] = (x, y) := ⟨_, _, rfl⟩
        obtain ⟨u, v, hq2⟩ : ∃ u v, M[k] = (u, v) := ⟨_, _, rfl⟩
        rw [hq] at c0 c1 hst
        rw [hq2] at d0 d1 hst
        rw [eqb_two] at hst
        clear hb hq hq2
        cases h1 : (x.toList == u.toList)
        · rw [h1, Bool.false_and, Bool.false_and] at hst
          have hf := Lib.hid hst
          clear hst
          go_wp2
          go_quiet (fail)
          go_wp2
          go_returns
          exact ⟨by rw [hf.out]; rfl, hx.drewN _⟩
        · cases h2 : (y.toList == v.toList)
          · rw [h1, h2, Bool.and_false, Bool.false_and] at hst
            have hf := Lib.hid hst
            clear hst
            go_wp2
            go_quiet (fail)
            go_wp2
            go_returns
            exact ⟨by rw [hf.out]; rfl, hx.drewN _⟩
          · rw [h1, h2, Bool.true_and, Bool.true_and] at hst
            have hf := Lib.hid hst
            clear hst
            go_wp2
            go_quiet (fail)
            go_wp2
            go_roundw
            case rel => exact ⟨k + 1, by omega, by go_num, hx.drewN _, hf⟩
            case measure => simp [RowKit.intOf]; omega
      · have hf : Hid (V = true) := Lib.hid (by
          rw [hb.out, List.drop_eq_nil_of_le (by rw [← HN.out]; omega), List.drop_eq_nil_of_le (by rw [← HM.out]; omega)]
          exact eqb_self _)
        clear hb
        go_wp2
        go_returns
        exact ⟨by rw [hf.out]; rfl, hx⟩
  · rw [eqb_len hn]
    obtain ⟨f1, f2⟩ := ne_facts (x := (L.length : Int)) (k := (M.length : Int)) (by omega)
    clear hL hM hl hn
    generalize L.length = N at *
    generalize M.length = K at *
    go_enter Tryz.func47, Tryz.ntmps47
    go_wp2
    go_returns
    exact ⟨rfl, Ext.refl _⟩
set_option maxHeartbeats 4000000 in
set_option maxRecDepth 100000 in
theorem equal_attr (a b : Option Addr) (L M : List Two) (ca cb : Nat) (w : World) (hL : TwoIn w a L) (hM : TwoIn w b M) (hl : L.length ≤ 9223372036854775807) :
    Calls Tryz.prog 48 #[.slice a L.length ca, .slice b M.length cb] w fun e w' => e = .returned (.bool (eqb L M)) ∧ Ext w w' := by
  by_cases hn : L.length = M.length
  · obtain ⟨V, hV⟩ : ∃ V, V = eqb L M := ⟨_, rfl⟩
    rw [← hV]
    have HV : Hid (V = eqb (L.drop 0) (M.drop 0)) := Lib.hid hV
    obtain ⟨N, hN⟩ : ∃ N, N = L.length := ⟨_, rfl⟩
    rw [← hN] at hn hl ⊢
    rw [← hn]
    have HN := Lib.hid hN; have HM := Lib.hid hn; have HL := Lib.hid hL; have HI := Lib.hid hM
    clear hV hN hL hM hn
    go_enter Tryz.func48, Tryz.ntmps48
    go_wp2
    go_loopw [13] (fun i' wr => ∃ k : Nat, k ≤ N ∧ i' = .int .i64 k ∧ Ext w wr ∧ Hid (V = eqb (L.drop k) (M.drop k))) (fun i' _ => N - (RowKit.intOf i').toNat)
    case atStart => exact ⟨0, by omega, rfl, Ext.refl _, HV⟩
    case round =>
      obtain ⟨k, hk, rfl, hx, hb⟩ := hrel
      clear HV
      by_cases hlt : k < N
      · have hkl : k < L.length := by rw [← HN.out]; exact hlt
        have hkm : k < M.length := by rw [← HM.out]; exact hlt
        obtain ⟨g, o, rfl, c0, c1⟩ := (HL.out.ext hx) k hkl
        obtain ⟨g2, o2, rfl, d0, d1⟩ := (HI.out.ext hx) k hkm
        have hst := hb.out
        rw [List.drop_eq_getElem_cons hkl, List.drop_eq_getElem_cons hkm, eqb_cons] at hst
        obtain ⟨x, y, hq⟩ : ∃ x y, L[k] = (x, y) := ⟨_, _, rfl⟩
        obtain ⟨u, v, hq2⟩ : ∃ u v, M[k] = (u, v) := ⟨_, _, rfl⟩
        rw [hq] at c0 c1 hst
        rw [hq2] at d0 d1 hst
        rw [eqb_two] at hst
        clear hb hq hq2
        cases h1 : (x.toList == u.toList)
        · rw [h1, Bool.false_and, Bool.false_and] at hst
          have hf := Lib.hid hst
          clear hst
          go_wp2
          go_quiet (fail)
          go_wp2
          go_returns
          exact ⟨by rw [hf.out]; rfl, hx.drewN _⟩
        · cases h2 : (y.toList == v.toList)
          · rw [h1, h2, Bool.and_false, Bool.false_and] at hst
            have hf := Lib.hid hst
            clear hst
            go_wp2
            go_quiet (fail)
            go_wp2
            go_returns
            exact ⟨by rw [hf.out]; rfl, hx.drewN _⟩
          · rw [h1, h2, Bool.true_and, Bool.true_and] at hst
            have hf := Lib.hid hst
            clear hst
            go_wp2
            go_quiet (fail)
            go_wp2
            go_roundw
            case rel => exact ⟨k + 1, by omega, by go_num, hx.drewN _, hf⟩
            case measure => simp [RowKit.intOf]; omega
      · have hf : Hid (V = true) := Lib.hid (by
          rw [hb.out, List.drop_eq_nil_of_le (by rw [← HN.out]; omega), List.drop_eq_nil_of_le (by rw [← HM.out]; omega)]
          exact eqb_self _)
        clear hb
        go_wp2
        go_returns
        exact ⟨by rw [hf.out]; rfl, hx⟩
  · rw [eqb_len hn]
    obtain ⟨f1, f2⟩ := ne_facts (x := (L.length : Int)) (k := (M.length : Int)) (by omega)
    clear hL hM hl hn
    generalize L.length = N at *
    generalize M.length = K at *
    go_enter Tryz.func48, Tryz.ntmps48
    go_wp2
    go_returns
    exact ⟨rfl, Ext.refl _⟩
end Go.Proofs.YtnjnfkfmkbnkhaaGreatDoor.Tr
