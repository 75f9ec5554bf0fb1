/- The law of the joins, walked. -/
import Derived.Test.YtfhephcbjbdejaaGreatDoorAttK
import Derived.Test.YtfhephcbjbdejaaGreatDoorAttI
import Derived.BigQuiet
namespace Go.Proofs.YtfhephcbjbdejaaGreatDoor.At
open Go.RowKit Go.Sort Go.Lib Go.Shelf Fx Lx

theorem getT_memL {L : List Atr} {x v : ByteArray} (h : getT L x = (v, true)) : (x, v) ∈ L := by
  unfold getT at h
  cases hf : L.reverse.find? (fun q => decide (q.1 = x)) with
  | none => rw [hf] at h; cases h
  | some q =>
    rw [hf] at h
    have h1 := List.find?_some hf
    have h2 := List.mem_of_find?_eq_some hf
    have e1 : q.1 = x := of_decide_eq_true h1
    have e2 : q.2 = v := by injection h
    rw [← e1, ← e2]
    exact List.mem_reverse.1 h2
theorem mrgT_mem {L : List Atr} {q : Atr} (h : q ∈ mrgT L) : q ∈ L := by
  obtain ⟨x, v⟩ := q
  exact getT_memL ((mrgT_iff x v L).1 h)
theorem asc_at {M : List Atr} (h : Asc M) (j : Nat) (h1 : j + 1 < M.length) : ltK M[j].1 M[j + 1].1 = true := by
  unfold Asc at h
  exact List.pairwise_iff_getElem.1 h j (j + 1) (by omega) h1 (by omega)
set_option maxHeartbeats 1000000 in
set_option maxRecDepth 100000 in
theorem joins_long (v0 v1 v2 : Value) (w : World) (h0 : AtrsArg w v0) (h1 : AtrsArg w v1) (h2 : AtrsArg w v2) (he : Env w)
    (hl : ∀ a b c La Lb Lc ca cb cc, v0 = .slice a (List.length La) ca → v1 = .slice b (List.length Lb) cb → v2 = .slice c (List.length Lc) cc → AtrIn w a La → AtrIn w b Lb → AtrIn w c Lc → (a = none → ca = 0) → (b = none → cb = 0) → (c = none → cc = 0) →
      La.length ≤ 20 → Lb.length ≤ 20 → Lc.length ≤ 20 → fewB La = true → fewB Lb = true → fewB Lc = true →
      (∀ w' (_ : Ext w w'), Calls Tryz.prog 9 #[.slice a La.length ca] w' fun e w'' => e = .returned (.bool true) ∧ Ext w' w'') →
      (∀ w' (_ : Ext w w'), Calls Tryz.prog 9 #[.slice b Lb.length cb] w' fun e w'' => e = .returned (.bool true) ∧ Ext w' w'') →
      (∀ w' (_ : Ext w w'), Calls Tryz.prog 9 #[.slice c Lc.length cc] w' fun e w'' => e = .returned (.bool true) ∧ Ext w' w'') →
      Calls Tryz.prog 6 #[v0, v1, v2] w fun e w' => e = .returned (.bool true) ∧ Ext w w') :
    Calls Tryz.prog 6 #[v0, v1, v2] w fun e w' => e = .returned (.bool true) ∧ Ext w w' := by
  obtain ⟨a, La, ca, rfl, ha, hsa, ha1, ha2, na⟩ := h0
  obtain ⟨b, Lb, cb, rfl, hb, hsb, hb1, hb2, nb⟩ := h1
  obtain ⟨c, Lc, cc, rfl, hc, hsc, hc1, hc2, nc⟩ := h2
  have hfa := fun w' (y : Ext w w') => few_arg a La ca w' (ha.ext y) hsa ha1 ha2
  have hfb := fun w' (y : Ext w w') => few_arg b Lb cb w' (hb.ext y) hsb hb1 hb2
  have hfc := fun w' (y : Ext w w') => few_arg c Lc cc w' (hc.ext y) hsc hc1 hc2
  have HAW := Lib.hid (fun w' (y : Ext w w') => awake_any w' (he.ext y))
  have hll := hl a b c La Lb Lc ca cb cc rfl rfl rfl ha hb hc na nb nc
  have hA : La.length ≤ 9223372036854775807 := by unfold maxLen at ha2; omega
  have hB : Lb.length ≤ 9223372036854775807 := by unfold maxLen at hb2; omega
  have hC : Lc.length ≤ 9223372036854775807 := by unfold maxLen at hc2; omega
  clear hl ha hb hc hsa hsb hsc ha1 ha2 hb1 hb2 hc1 hc2 na nb nc he
  by_cases c1 : 20 < La.length
  · clear hll hfa hfb hfc
    generalize La.length = A at *
    generalize Lb.length = B at *
    generalize Lc.length = C at *
    go_enter Tryz.func6, Tryz.ntmps6
    go_wp2_with fail
    refine (HAW.out _ (Ext.refl _)).mono ?_
    rintro e w1 ⟨rfl, x1⟩
    go_wp2_with fail
    go_returns
    exact ⟨rfl, x1⟩
  by_cases c2 : 20 < Lb.length
  · clear hll hfa hfb hfc
    generalize La.length = A at *
    generalize Lb.length = B at *
    generalize Lc.length = C at *
    go_enter Tryz.func6, Tryz.ntmps6
    go_wp2_with fail
    refine (HAW.out _ (Ext.refl _)).mono ?_
    rintro e w1 ⟨rfl, x1⟩
    go_wp2_with fail
    go_returns
    exact ⟨rfl, x1⟩
  by_cases c3 : 20 < Lc.length
  · clear hll hfa hfb hfc
    generalize La.length = A at *
    generalize Lb.length = B at *
    generalize Lc.length = C at *
    go_enter Tryz.func6, Tryz.ntmps6
    go_wp2_with fail
    refine (HAW.out _ (Ext.refl _)).mono ?_
    rintro e w1 ⟨rfl, x1⟩
    go_wp2_with fail
    go_returns
    exact ⟨rfl, x1⟩
  replace hll := hll (by omega) (by omega) (by omega)
  cases f1 : fewB La
  · rw [f1] at hfa
    have HF := Lib.hid hfa
    clear hll hfa hfb hfc f1
    generalize La.length = A at *
    generalize Lb.length = B at *
    generalize Lc.length = C at *
    go_enter Tryz.func6, Tryz.ntmps6
    go_wp2_with fail
    refine (HF.out _ (Ext.refl _)).mono ?_
    rintro e w0 ⟨rfl, x0⟩
    go_wp2_with fail
    refine (HAW.out _ x0).mono ?_
    rintro e w1 ⟨rfl, x1⟩
    go_wp2_with fail
    go_returns
    exact ⟨rfl, x0.trans x1⟩
  rw [f1] at hfa
  cases f2 : fewB Lb
  · rw [f2] at hfb
    have HF := Lib.hid hfa
    have HG := Lib.hid hfb
    clear hll hfa hfb hfc f1 f2
    generalize La.length = A at *
    generalize Lb.length = B at *
    generalize Lc.length = C at *
    go_enter Tryz.func6, Tryz.ntmps6
    go_wp2_with fail
    refine (HF.out _ (Ext.refl _)).mono ?_
    rintro e w0 ⟨rfl, x0⟩
    go_wp2_with fail
    refine (HG.out _ x0).mono ?_
    rintro e w1 ⟨rfl, x1⟩
    have y1 := x0.trans x1
    go_wp2_with fail
    refine (HAW.out _ y1).mono ?_
    rintro e w2 ⟨rfl, x2⟩
    go_wp2_with fail
    go_returns
    exact ⟨rfl, y1.trans x2⟩
  rw [f2] at hfb
  cases f3 : fewB Lc
  · rw [f3] at hfc
    have HF := Lib.hid hfa
    have HG := Lib.hid hfb
    have HC := Lib.hid hfc
    clear hll hfa hfb hfc f1 f2 f3
    generalize La.length = A at *
    generalize Lb.length = B at *
    generalize Lc.length = C at *
    go_enter Tryz.func6, Tryz.ntmps6
    go_wp2_with fail
    refine (HF.out _ (Ext.refl _)).mono ?_
    rintro e w0 ⟨rfl, x0⟩
    go_wp2_with fail
    refine (HG.out _ x0).mono ?_
    rintro e w1 ⟨rfl, x1⟩
    have y1 := x0.trans x1
    go_wp2_with fail
    refine (HC.out _ y1).mono ?_
    rintro e w2 ⟨rfl, x2⟩
    have y2 := y1.trans x2
    go_wp2_with fail
    refine (HAW.out _ y2).mono ?_
    rintro e w3 ⟨rfl, x3⟩
    go_wp2_with fail
    go_returns
    exact ⟨rfl, y2.trans x3⟩
  rw [f3] at hfc
  exact hll f1 f2 f3 hfa hfb hfc
set_option maxHeartbeats 4000000 in
set_option maxRecDepth 100000 in
theorem joins_main (a b c : Option Addr) (La Lb Lc : List Atr) (ca cb cc : Nat) (w : World) (he : Env w) (ha : AtrIn w a La) (hb : AtrIn w b Lb) (hc : AtrIn w c Lc) (na : a = none → ca = 0) (nb : b = none → cb = 0) (nc : c = none → cc = 0)
    (hA : La.length ≤ 20) (hB : Lb.length ≤ 20) (hC : Lc.length ≤ 20) (f1 : fewB La = true) (f2 : fewB Lb = true) (f3 : fewB Lc = true)
    (hfa : ∀ w' (_ : Ext w w'), Calls Tryz.prog 9 #[.slice a La.length ca] w' fun e w'' => e = .returned (.bool true) ∧ Ext w' w'')
    (hfb : ∀ w' (_ : Ext w w'), Calls Tryz.prog 9 #[.slice b Lb.length cb] w' fun e w'' => e = .returned (.bool true) ∧ Ext w' w'')
    (hfc : ∀ w' (_ : Ext w w'), Calls Tryz.prog 9 #[.slice c Lc.length cc] w' fun e w'' => e = .returned (.bool true) ∧ Ext w' w'') :
    Calls Tryz.prog 6 #[.slice a La.length ca, .slice b Lb.length cb, .slice c Lc.length cc] w fun e w' => e = .returned (.bool true) ∧ Ext w w' := by
  have hq : ∀ q ∈ La ++ Lb ++ Lc, q.1.size ≤ maxLen ∧ q.2.size ≤ maxLen := fun q hq => by
    unfold maxLen
    rcases List.mem_append.1 hq with h | h
    · rcases List.mem_append.1 h with h | h
      · have := (few_facts f1).2 q h; omega
      · have := (few_facts f2).2 q h; omega
    · have := (few_facts f3).2 q h; omega
  have qa : ∀ q ∈ La, q.1.size ≤ maxLen ∧ q.2.size ≤ maxLen := fun q h => hq q (by simp [h])
  have qb : ∀ q ∈ Lb, q.1.size ≤ maxLen ∧ q.2.size ≤ maxLen := fun q h => hq q (by simp [h])
  have qc : ∀ q ∈ Lc, q.1.size ≤ maxLen ∧ q.2.size ≤ maxLen := fun q h => hq q (by simp [h])
  have app : ∀ {X Y : List Atr}, (∀ q ∈ X, q.1.size ≤ maxLen ∧ q.2.size ≤ maxLen) → (∀ q ∈ Y, q.1.size ≤ maxLen ∧ q.2.size ≤ maxLen) → ∀ q ∈ X ++ Y, q.1.size ≤ maxLen ∧ q.2.size ≤ maxLen := fun h k q hq => (List.mem_append.1 hq).elim (h q) (k q)
  have mrg : ∀ {X : List Atr}, (∀ q ∈ X, q.1.size ≤ maxLen ∧ q.2.size ≤ maxLen) → ∀ q ∈ mrgT X, q.1.size ≤ maxLen ∧ q.2.size ≤ maxLen := fun h q hq => h q (mrgT_mem hq)
  have lM := mrgT_len (La ++ Lb)
  have lK := mrgT_len (Lb ++ Lc)
  have l1 := mrgT_len (mrgT (La ++ Lb) ++ Lc)
  have l2 := mrgT_len (La ++ mrgT (Lb ++ Lc))
  have l3 := mrgT_len (La ++ [])
  have l4 := mrgT_len (La ++ La)
  rw [List.length_append] at lM lK l1 l2 l3 l4
  have hm1 := fun w' (y : Ext w w') => mrg_any a b La Lb ca cb w' (ha.ext y) (hb.ext y) na nb (by omega) (by omega) (app qa qb)
  have hm2 := fun p pc w' (y : Ext w w') (hp : AtrIn w' p (mrgT (La ++ Lb))) (np : p = none → pc = 0) => mrg_any p c (mrgT (La ++ Lb)) Lc pc cc w' hp (hc.ext y) np nc (by omega) (by omega) (app (mrg (app qa qb)) qc)
  have hm3 := fun w' (y : Ext w w') => mrg_any b c Lb Lc cb cc w' (hb.ext y) (hc.ext y) nb nc (by omega) (by omega) (app qb qc)
  have hm4 := fun p pc w' (y : Ext w w') (hp : AtrIn w' p (mrgT (Lb ++ Lc))) (np : p = none → pc = 0) => mrg_any a p La (mrgT (Lb ++ Lc)) ca pc w' (ha.ext y) hp na np (by omega) (by omega) (app qa (mrg (app qb qc)))
  have hm5 := fun w' (y : Ext w w') => mrg_any a none La [] ca 0 w' (ha.ext y) (fun k h => absurd h (by simp)) na (fun _ => rfl) (by omega) (by simp) (app qa (fun q h => by cases h))
  have hm6 := fun w' (y : Ext w w') => mrg_any a a La La ca ca w' (ha.ext y) (ha.ext y) na na (by omega) (by omega) (app qa qa)
  rw [← mrgT_assoc] at hm4
  rw [← mrgT_assoc] at l2
  have e5 := mrgT_self La
  rw [← e5] at hm6
  have hgm := fun p pc x w' (hp : AtrIn w' p (mrgT (La ++ Lb))) => get_any p (mrgT (La ++ Lb)) pc x w' hp (by omega)
  have hgb := fun x w' (y : Ext w w') => get_any b Lb cb x w' (hb.ext y) (by omega)
  have hga := fun x w' (y : Ext w w') => get_any a La ca x w' (ha.ext y) (by omega)
  have hlt := fun q hq => mrgT_later La Lb q hq
  have hasc := mrgT_asc (La ++ Lb)
  generalize mrgT (mrgT (La ++ Lb) ++ Lc) = T at hm2 hm4 l1 l2
  generalize mrgT (Lb ++ Lc) = K at hm3 hm4 lK l2
  generalize mrgT (La ++ Lb) = M at hm1 hm2 lM l1 hgm hlt hasc
  generalize mrgT (La ++ []) = S at hm5 hm6 l3
  have HAW := Lib.hid (fun w' (y : Ext w w') => awake_any w' (he.ext y))
  have HF1 := Lib.hid hfa; have HF2 := Lib.hid hfb; have HF3 := Lib.hid hfc
  have H1 := Lib.hid hm1; have H2 := Lib.hid hm2; have H3 := Lib.hid hm3; have H4 := Lib.hid hm4; have H5 := Lib.hid hm5; have H6 := Lib.hid hm6
  have HGM := Lib.hid hgm; have HGB := Lib.hid hgb; have HGA := Lib.hid hga
  have HLT := Lib.hid hlt; have HASC := Lib.hid hasc; have HA := Lib.hid ha
  have hlS : S.length ≤ 20 := by have h := l3; simp only [List.length_nil, Nat.add_zero] at h; omega
  have hlM : M.length ≤ 40 := by omega
  have hlT : T.length ≤ 60 := by omega
  obtain ⟨A, hAN⟩ : ∃ A, A = La.length := ⟨_, rfl⟩
  rw [← hAN] at hA ⊢
  have HAN := Lib.hid hAN
  rw [← hAN] at HF1 H1 H4 H5 H6 HGA
  clear hq qa qb qc app mrg hm1 hm2 hm3 hm4 hm5 hm6 e5 hgm hgb hga hlt hasc hfa hfb hfc ha hb hc na nb nc f1 f2 f3 he lM lK l1 l2 l3 l4 hAN
  generalize Lb.length = B at *
  generalize Lc.length = C at *
  go_enter Tryz.func6, Tryz.ntmps6
  go_wp2_with fail
  refine (HF1.out _ (Ext.refl _)).mono ?_
  rintro e u1 ⟨rfl, x1⟩
  go_wp2_with fail
  refine (HF2.out _ x1).mono ?_
  rintro e u2 ⟨rfl, x2⟩
  have y2 := x1.trans x2
  go_wp2_with fail
  refine (HF3.out _ y2).mono ?_
  rintro e u3 ⟨rfl, x3⟩
  have y3 := y2.trans x3
  clear x1 x2 x3 y2
  go_wp2_with fail
  refine (H1.out _ y3).mono ?_
  rintro e w1 ⟨⟨p, pc, rfl, hpi, hpn⟩, x4⟩
  have HPI := Lib.hid hpi; have HPN := Lib.hid hpn; have Y1 := Lib.hid (y3.trans x4)
  clear hpi hpn x4 y3
  go_wp2_with fail
  go_loopw [8] (fun i' wr => ∃ j : Nat, (j = 0 ∨ j + 1 ≤ M.length) ∧ i' = .int .i64 ((j : Int) + 1) ∧ Ext w1 wr) (fun i' _ => (M.length + 1 - (RowKit.intOf i')).toNat)
  case atStart => exact ⟨0, .inl rfl, rfl, Ext.refl _⟩
  case round =>
    obtain ⟨j, hj, rfl, hx⟩ := hrel
    by_cases hlt : j + 1 < M.length
    · obtain ⟨g, o, rfl, c0, _⟩ := (HPI.out.ext hx) j (by omega)
      obtain ⟨g', o', e, d0, _⟩ := (HPI.out.ext hx) (j + 1) hlt
      injection e with e; injection e with e1 e2 _
      subst e1; subst e2
      have hlk := asc_at HASC.out j hlt
      generalize M[j].1 = n1 at c0 hlk
      generalize M[j + 1].1 = n2 at d0 hlk
      have g2 : ∀ t, binOp .geq t (.string n1) (.string n2) = pure (.bool (!true)) := fun t => by rw [geq_str, ltK_less]; exact congrArg (fun z => (pure (Value.bool (!z)) : Sem Value)) hlk
      have HX := Lib.hid hx
      clear hlk hx hj
      go_wp2
      go_quiet (fail)
      go_wp2
      go_roundw
      case rel => exact ⟨j + 1, .inr (by omega), by go_num, HX.out.drewN _⟩
      case measure => simp [RowKit.intOf]; omega
    · have HX := Lib.hid hx
      clear hx hj
      go_wp2_with fail
      go_loopw [9] (fun i' wr => ∃ k : Nat, k ≤ A ∧ i' = .int .i64 k ∧ Ext w1 wr) (fun i' _ => A - (RowKit.intOf i').toNat)
      case atStart => exact ⟨0, by omega, rfl, HX.out⟩
      case round =>
        clear HX
        obtain ⟨k, hk, rfl, hx⟩ := hrel
        by_cases hlt : k < A
        · have hkl : k < La.length := by rw [← HAN.out]; exact hlt
          obtain ⟨g, o, rfl, c0, _⟩ := (HA.out.ext (Y1.out.trans hx)) k hkl
          obtain ⟨q1, q2⟩ := HLT.out La[k] (List.getElem_mem hkl)
          generalize La[k].1 = n at c0 q1 q2
          have hgm := HGM.out p pc n _ (HPI.out.ext hx)
          have hgb := fun w' y => HGB.out n w' y
          have hga := fun w' y => HGA.out n w' y
          rw [q1] at hgm
          obtain ⟨s, is, hG⟩ : ∃ s is, getT Lb n = (s, is) := ⟨_, _, rfl⟩
          obtain ⟨s2, is2, hG2⟩ : ∃ s is, getT La n = (s, is) := ⟨_, _, rfl⟩
          rw [hG, hG2] at hgm
          rw [hG] at hgb
          rw [hG2] at hga q2
          dsimp only at q2 hgb hga
          subst q2
          have hy := Y1.out.trans hx
          have HXX := Lib.hid hx
          cases is
          · rw [if_neg (show ¬ ((s, false) : ByteArray × Bool).2 = true by simp)] at hgm
            dsimp only at hgm
            have HM2 := Lib.hid hgm; have HB2 := Lib.hid hgb; have HA2 := Lib.hid hga
            clear hgm hgb hga q1 hG hG2 hx
            go_wp2_with fail
            refine HM2.out.mono ?_
            rintro e w2 ⟨rfl, x2⟩
            have d2 := x2.cell c0
            have y2 := hy.trans x2
            go_wp2_with fail
            refine (HB2.out _ y2).mono ?_
            rintro e w3 ⟨rfl, x3⟩
            have d3 := x3.cell d2
            have y3 := y2.trans x3
            go_wp2_with fail
            refine (HA2.out _ y3).mono ?_
            rintro e w4 ⟨rfl, x4⟩
            go_wp2_with fail
            go_roundw
            case rel => exact ⟨k + 1, by omega, by go_num, ((HXX.out.trans x2).trans x3).trans x4⟩
            case measure => simp [RowKit.intOf]; omega
          · rw [if_pos rfl] at hgm
            dsimp only at hgm
            have HM2 := Lib.hid hgm; have HB2 := Lib.hid hgb
            clear hgm hgb hga q1 hG hG2 hx
            go_wp2_with fail
            refine HM2.out.mono ?_
            rintro e w2 ⟨rfl, x2⟩
            have d2 := x2.cell c0
            have y2 := hy.trans x2
            go_wp2_with fail
            refine (HB2.out _ y2).mono ?_
            rintro e w3 ⟨rfl, x3⟩
            go_wp2_with fail
            go_roundw
            case rel => exact ⟨k + 1, by omega, by go_num, (HXX.out.trans x2).trans x3⟩
            case measure => simp [RowKit.intOf]; omega
        · have HX := Lib.hid hx
          have y1 := Y1.out.trans hx
          clear hx
          go_wp2_with fail
          refine (H2.out p pc _ y1 (HPI.out.ext HX.out) HPN.out).mono ?_
          rintro e w2 ⟨⟨p2, c2, rfl, hi2, _⟩, x2⟩
          have HI2 := Lib.hid hi2
          have y2 := y1.trans x2
          clear hi2
          go_wp2_with fail
          refine (H3.out _ y2).mono ?_
          rintro e w3 ⟨⟨p3, c3, rfl, hi3, hn3⟩, x3⟩
          have HI3 := Lib.hid hi3
          have HN3 := Lib.hid hn3
          have y3 := y2.trans x3
          clear hi3 hn3
          go_wp2_with fail
          refine (H4.out p3 c3 _ y3 HI3.out HN3.out).mono ?_
          rintro e w4 ⟨⟨p4, c4, rfl, hi4, _⟩, x4⟩
          have HI4 := Lib.hid hi4
          have y4 := y3.trans x4
          clear hi4
          have hsm := sameEq_any p2 p4 T T c2 c4 w4 (HI2.out.ext (x3.trans x4)) HI4.out (by omega) (by omega)
          rw [decide_eq_true rfl] at hsm
          have HSM := Lib.hid hsm
          clear hsm x2 x3 x4
          go_wp2_with fail
          refine HSM.out.mono ?_
          rintro e w5 ⟨rfl, x5⟩
          have y5 := y4.trans x5
          go_wp2_with fail
          refine (H5.out _ y5).mono ?_
          rintro e w6 ⟨⟨p6, c6, rfl, hi6, _⟩, x6⟩
          have HI6 := Lib.hid hi6
          have y6 := y5.trans x6
          clear hi6
          go_wp2_with fail
          refine (H6.out _ y6).mono ?_
          rintro e w7 ⟨⟨p7, c7, rfl, hi7, _⟩, x7⟩
          have HI7 := Lib.hid hi7
          have y7 := y6.trans x7
          clear hi7
          have hsm := sameEq_any p6 p7 S S c6 c7 w7 (HI6.out.ext x7) HI7.out (by omega) (by omega)
          rw [decide_eq_true rfl] at hsm
          have HSM2 := Lib.hid hsm
          clear hsm
          go_wp2_with fail
          refine HSM2.out.mono ?_
          rintro e w8 ⟨rfl, x8⟩
          have y8 := y7.trans x8
          go_wp2_with fail
          refine (HAW.out _ y8).mono ?_
          rintro e w9 ⟨rfl, x9⟩
          go_wp2_with fail
          go_returns
          exact ⟨rfl, y8.trans x9⟩
theorem joins_card (v0 v1 v2 : Value) (w : World) (h0 : AtrsArg w v0) (h1 : AtrsArg w v1) (h2 : AtrsArg w v2) (he : Env w) :
    Calls Tryz.prog 6 #[v0, v1, v2] w fun e w' => e = .returned (.bool true) ∧ Ext w w' :=
  joins_long v0 v1 v2 w h0 h1 h2 he (fun a b c La Lb Lc ca cb cc e0 e1 e2 ha hb hc na nb nc hA hB hC f1 f2 f3 hfa hfb hfc => by
    subst e0; subst e1; subst e2
    exact joins_main a b c La Lb Lc ca cb cc w he ha hb hc na nb nc hA hB hC f1 f2 f3 hfa hfb hfc)
end Go.Proofs.YtfhephcbjbdejaaGreatDoor.At
