/- Packed texts: NorSetD, NorOptD, NorFew, NorCnt -/
import Derived.Test.YtnancphlkbfglaaGreatDoorPn35
import Derived.Test.YtnancphlkbfglaaGreatDoorPn37
import Derived.Test.YtnancphlkbfglaaGreatDoorPn30
import Derived.Test.YtnancphlkbfglaaGreatDoorPn17
import Derived.Test.YtnancphlkbfglaaGreatDoorPn19
set_option linter.unusedVariables false
set_option linter.unusedSimpArgs false
/- The document's settings. -/
namespace Go.Proofs.YtnancphlkbfglaaGreatDoor.Nm
open Go.RowKit Go.Sort Go.Lib Go.Shelf Fx Lx Tr At

/-- The settings of statements. -/
def keyL (L : List Stm) : List Two := (setsL L).map keyed
theorem keyL_nil : keyL [] = [] := by unfold keyL; rw [setsL_nil]; rfl
theorem keyL_cons (x : Stm) (r : List Stm) : keyL (x :: r) = (if x.kind = 4 then [keyed x] else []) ++ keyL x.body ++ keyL r := by
  unfold keyL
  rw [setsL_cons, setsS_eq, List.map_append, List.map_append]
  split <;> simp
theorem keyL_4 (x : Stm) (r : List Stm) (h4 : x.kind = 4) (hb : x.body = []) : keyL (x :: r) = keyed x :: keyL r := by
  rw [keyL_cons, if_pos h4, hb, keyL_nil, List.append_nil]; rfl
theorem keyL_n (x : Stm) (r : List Stm) (h4 : x.kind ≠ 4) : keyL (x :: r) = keyL x.body ++ keyL r := by
  rw [keyL_cons, if_neg h4, List.nil_append]
theorem keyL_len (L : List Stm) : (keyL L).length ≤ cntL L := by
  unfold keyL
  rw [List.length_map]
  by_cases h : optE (setsL L) = 0
  · have := @setF_len [] ((setsL L).map keyed) L (by unfold setF; rw [if_neg (fun e => e h), List.nil_append])
    simpa using this
  · have key : ∀ (n : Nat) (M : List Stm), sizeL M ≤ n → (setsL M).length ≤ cntL M := by
      intro n
      induction n using Nat.strongRecOn with
      | _ n ih =>
        intro M
        induction M with
        | nil => intro _; rw [setsL_nil]; simp
        | cons x r ihr =>
          intro hn
          rw [sizeL_cons] at hn
          have h1 := sizeS_body x
          have h2 := ihr (by omega)
          have h3 := ih (sizeL x.body) (by omega) x.body (Nat.le_refl _)
          rw [setsL_cons, setsS_eq, cntL_cons, cntS_body]
          simp only [List.length_append]
          split <;> simp <;> omega
    exact key _ L (Nat.le_refl _)
def SetDC (w0 : World) (B nn M : Nat) : Prop :=
  ∀ (L : List Stm) (b : Option Addr) (cap : Nat) (O : List Two) (oa : Option Addr) (oc : Nat) (w : World), cntL L ≤ M → StmsAt nn w0 b L → L.length ≤ maxLen → okWL L → Ext w0 w → B ≤ w.heap.size → O.length + cntL L ≤ 1000 → w.ownsRow B 109 2 (.slice oa O.length oc) O.length (atrsC O) →
    Calls Tryz.prog 44 #[.slice oa O.length oc, .slice b L.length cap] w fun e w' => (∃ a c, e = .returned (.slice a (O ++ keyL L).length c) ∧ w'.ownsRow B 109 2 (.slice a (O ++ keyL L).length c) (O ++ keyL L).length (atrsC (O ++ keyL L))) ∧ Ext w0 w' ∧ w.heap.size ≤ w'.heap.size
/-- Where settings stands. -/
structure SetDAt (w0 : World) (s0 B : Nat) (V : List Two) (L : List Stm) (i : Nat) (O : List Two) (oa : Option Addr) (oc : Nat) (wr : World) : Prop where
  v : V = O ++ keyL (L.drop i)
  own : wr.ownsRow B 109 2 (.slice oa O.length oc) O.length (atrsC O)
  x : Ext w0 wr
  z : B ≤ wr.heap.size
  l : O.length + cntL (L.drop i) ≤ 1000
  s : s0 ≤ wr.heap.size
set_option maxHeartbeats 8000000 in
set_option maxRecDepth 100000 in
theorem setD_step (w0 : World) (B nn M : Nat) (hnn : nn ≤ w0.heap.size) (hB : w0.heap.size ≤ B) (IH : ∀ M', M' < M → SetDC w0 B nn M') : SetDC w0 B nn M := by
  intro L b cap O oa oc w hcM hst hlen hok hx hz hl hown
  obtain ⟨j0, hj, hjz0, hjz1, hjz2⟩ := info_parts info_at
  obtain ⟨V, hV⟩ : ∃ V, V = O ++ keyL L := ⟨_, rfl⟩
  obtain ⟨N, hN⟩ : ∃ N, N = L.length := ⟨_, rfl⟩
  obtain ⟨ON, hON⟩ : ∃ N, N = O.length := ⟨_, rfl⟩
  rw [← hV]
  have hlen2 : N ≤ 1000 := by have := cntL_len L; omega
  have hC : Hid (SetDAt w0 w.heap.size B V L 0 O oa oc w) := Lib.hid ⟨by rw [List.drop_zero]; exact hV, hown, hx, hz, by rw [List.drop_zero]; exact hl, Nat.le_refl _⟩
  rw [← hN, ← hON]
  have HST := Lib.hid hst; have HOK := Lib.hid hok; have HIH := Lib.hid IH; have HN := Lib.hid hN; have HCM := Lib.hid hcM; have HNN := Lib.hid hnn; have HB := Lib.hid hB; have HON := Lib.hid hON
  clear hst hok IH hV hN hcM hnn hB hx hz hl hown hlen hON
  go_enter Tryz.func44, Tryz.ntmps44
  go_wp2_with fail
  go_loopw [0, 5] (fun ov i' wr => ∃ (i : Nat) (O : List Two) (oa : Option Addr) (oc ON : Nat), i ≤ N ∧ i' = .int .i64 i ∧ ov = .slice oa ON oc ∧ Hid (ON = O.length) ∧ Hid (SetDAt w0 w.heap.size B V L i O oa oc wr)) (fun _ i' _ => N - (RowKit.intOf i').toNat)
  case atStart => exact ⟨0, O, oa, oc, ON, Nat.zero_le _, rfl, rfl, HON, hC⟩
  case round =>
    clear hC HON
    obtain ⟨i, O, oa, oc, ON, hi, rfl, rfl, HON, hC⟩ := hrel
    by_cases hlt : i < N
    · have hkl : i < L.length := by rw [← HN.out]; exact hlt
      have hx := hC.out.x
      obtain ⟨g, o, rfl, hg, hst⟩ := StmsAt.at L HST.out i hkl
      have hoki := okWL_at L i hkl HOK.out
      have hct := cntL_take L i hkl
      have hcle := cntL_le L (i + 1)
      have hv := hC.out.v
      have hl := hC.out.l
      rw [List.drop_eq_getElem_cons hkl] at hv hl
      obtain ⟨x, hxe⟩ : ∃ x, x = L[i] := ⟨_, rfl⟩
      rw [← hxe] at hst hoki hct hv hl
      rw [cntL_cons] at hl
      obtain ⟨kind, nm, rs, al, body⟩ := x
      rw [StmAt] at hst
      obtain ⟨r, rc, a, ac, b', bc, c0', c1', c2', c3', c4', hr, ha, hbs, hl1, hl2, hl3, hl4, hl5⟩ := hst
      have c0 := hx.cell c0'; have c1 := hx.cell c1'; have c2 := hx.cell c2'; have c3 := hx.cell c3'; have c4 := hx.cell c4'
      rw [okWS_eq] at hoki
      obtain ⟨⟨ok1, ok2, ok3, ok4, ok5, ok6⟩, okb⟩ := hoki
      simp only [Stm.refs, Stm.attrs, Stm.name, Stm.body] at ok1 ok2 ok3 ok4 ok5 okb
      have hcb := cntS_body (.mk kind nm rs al body)
      simp only [Stm.body] at hcb
      rw [hcb] at hl
      have hbM : cntL body < M := by have := HCM.out; rw [hcb] at hct; omega
      have hat : AtrIn wr a al := two_atr (TwoAt.below ha (hx.mono HNN.out))
      have hk4 := (form_kinds _ ok6).2.2
      have hfp := (form_parts _ ok6).2
      have hk1 := keyL_4 (.mk kind nm rs al body) (L.drop (i + 1))
      have hk2 := keyL_n (.mk kind nm rs al body) (L.drop (i + 1))
      simp only [Stm.kind, Stm.attrs, Stm.body] at hk4 hfp hk1 hk2
      have HK1 := Lib.hid hk1; have HK2 := Lib.hid hk2
      clear hk1 hk2
      have hkl2 := keyL_len body
      have hih := fun (O' : List Two) (oa : Option Addr) (oc : Nat) (w5 : World) (x : Ext w0 w5) (z : B ≤ w5.heap.size) (hl' : O'.length + cntL body ≤ 1000) (ow : w5.ownsRow B 109 2 (.slice oa O'.length oc) O'.length (atrsC O')) => HIH.out (M - 1) (by omega) body b' bc O' oa oc w5 (by omega) hbs hl5 okb x z hl' ow
      obtain ⟨RN, hRN⟩ : ∃ n, n = rs.length := ⟨_, rfl⟩
      obtain ⟨AN, hAN⟩ : ∃ n, n = al.length := ⟨_, rfl⟩
      obtain ⟨BN, hBN⟩ : ∃ n, n = body.length := ⟨_, rfl⟩
      rw [← hRN] at c2; rw [← hAN] at c3; rw [← hBN] at c4
      simp only [← hBN] at hih
      have HV := Lib.hid hv; have HL := Lib.hid hl; have HIB := Lib.hid hih; have HAT := Lib.hid hat; have HX := Lib.hid hx; have HFP := Lib.hid hfp; have HK4 := Lib.hid hk4; have HAN := Lib.hid hAN; have HKL := Lib.hid hkl2
      have b0 : (0 : Int) ≤ (i : Int) := by omega
      have b1 : (i : Int) < (N : Int) := by omega
      have c40 := c4'
      rw [← hBN] at c40
      have C40 := Lib.hid c40
      clear c40
      clear c0' c1' c2' c3' c4' hr ha hbs hl1 hl2 hl3 hl4 hl5 ok1 ok4 okb ok6 hv hl hih hat hx hfp hk4 hct hcle hcb hbM hxe hg hRN hAN hBN hkl2
      by_cases h4 : kind = 4
      · subst h4
        have hb0 : body = [] := HFP.out (by decide)
        obtain ⟨q, hq, -⟩ := HK4.out rfl
        have hvs := HV.out
        have hky : keyed (.mk 4 nm rs al body) = (nm, q.2) := by rw [hq]; rfl
        rw [HK1.out rfl hb0, hky, List.append_cons] at hvs
        have hA1 : AN = 1 := by rw [HAN.out, hq]; rfl
        subst hA1
        have hkd := keyed_any 4 nm q r a b' RN BN rc ac bc wr (by rw [← hq]; exact HAT.out)
        have HVS := Lib.hid hvs; have HKD := Lib.hid hkd
        have hln := HL.out
        have honl : ON ≤ 1000 := by rw [HON.out]; omega
        have OWR := Lib.hid (show wr.ownsRow B 109 2 (.slice oa ON oc) ON (atrsC O) by rw [HON.out]; exact hC.out.own)
        subst hb0
        clear hvs hky hkd HAN HV HFP HK4 HK1 HK2
        go_wp2_with (first
          | (go_at_call 76; refine Calls.mono (by with_reducible exact HKD.out) ?_; rintro e w5 ⟨rfl, x5⟩; have HX5 := Lib.hid x5; have OW5 := Lib.hid (At.own_ext OWR.out x5); have HZ5 := Lib.hid (Nat.le_trans hC.out.z x5.size); clear x5)
          | (at_builtin; refine wpList_append_lies _ rfl _ _ 54 rfl B 109 j0 _ 2 32 Tryz.underlying54 hj hjz0 hjz1 hjz2 rfl (by decide) _ _ _ rfl (OW5.out.alloc _) ⟨w5.heap.size, 0, none⟩ 1 1 [.string nm, .string q.2] rfl rfl ?c1 ?c2 (by decide) ?c3 ?c4 ?c5 _ rfl ?_))
        case c1 => exact World.news_of_block (cs := #[.string nm, .string q.2]) (t := 109) (fr := (0, 0)) (heap_alloc_new w5 _)
        case c2 => intro u hu; simp at hu; rcases hu with rfl | rfl <;> rfl
        case c3 => unfold maxLen; omega
        case c4 => omega
        case c5 => have := HZ5.out; simp; omega
        intro g7 c7 w7 hown1 hgrow _ _
        have hrt := row_ty (OW5.out.alloc (.cells #[.string nm, .string q.2] 109))
        have HX7 := Lib.hid (ext_grown ((HX.out.trans HX5.out).alloc (.cells #[.string nm, .string q.2] 109)) hgrow (fun k e => by have := (OW5.out.lt k e).1; have := HB.out; omega))
        have HZ7 := Lib.hid (Nat.le_trans HZ5.out (Nat.le_trans ((Ext.refl w5).alloc (.cells #[.string nm, .string q.2] 109)).size hgrow.size))
        have HS7 := Lib.hid (Nat.le_trans HX5.out.size (Nat.le_trans ((Ext.refl w5).alloc (.cells #[.string nm, .string q.2] 109)).size hgrow.size))
        have OW7 := Lib.hid (show w7.ownsRow B 109 2 (.slice (some ⟨g7, 0, none⟩) (O ++ [(nm, q.2)]).length c7) (O ++ [(nm, q.2)]).length (atrsC (O ++ [(nm, q.2)])) by rw [atrsC_snoc, List.length_append, ← HON.out]; exact hown1)
        clear hown1 hgrow hrt
        have hih := HIB.out (O ++ [(nm, q.2)]) (some ⟨g7, 0, none⟩) c7 w7 HX7.out HZ7.out (by simp; omega) OW7.out
        rw [keyL_nil, List.append_nil] at hih
        have hon2 : (O ++ [(nm, q.2)]).length = ON + 1 := by rw [HON.out]; simp
        rw [hon2] at hih
        have HIH2 := Lib.hid hih
        have s74 : w7.cell? ⟨g, o + i * 5 + 4, none⟩ = some (.slice b' BN bc) := HX7.out.cell C40.out
        clear hih hon2 c0 c1 c2 c3 c4
        go_wp2_with (go_at_call 44; refine Calls.mono (by with_reducible exact HIH2.out) ?_; rintro e w8 ⟨⟨a8, c8, rfl, ow8⟩, x8, z8'⟩; have OW8 := Lib.hid ow8; have X8 := Lib.hid x8; have Z8 := Lib.hid (show w7.heap.size ≤ w8.heap.size from z8'); clear ow8 x8 z8')
        go_roundw
        case rel => exact ⟨i + 1, O ++ [(nm, q.2)], a8, c8, _, by omega, by go_num, rfl, Lib.hid (by rw [List.length_append, ← HON.out]; rfl), Lib.hid ⟨HVS.out, by have h := OW8.out; rw [show ON + 1 = (O ++ [(nm, q.2)]).length by rw [List.length_append, ← HON.out]; rfl] at h; exact h, X8.out, Nat.le_trans HZ7.out Z8.out, by simp; omega, Nat.le_trans hC.out.s (Nat.le_trans HS7.out Z8.out)⟩⟩
        case measure => simp [RowKit.intOf]; omega
      · have f4 : (kind == 4) = false := by rw [beq_eq_false_iff_ne]; exact h4
        have f4' : (kind != 4) = true := by rw [bne, f4]; rfl
        have hvs := HV.out
        rw [HK2.out h4, ← List.append_assoc] at hvs
        have hcl := HIB.out O oa oc wr HX.out hC.out.z (by have := HL.out; omega) hC.out.own
        obtain ⟨O2, hO2⟩ : ∃ O2, O2 = O ++ keyL body := ⟨_, rfl⟩
        have ho2l : O2.length ≤ O.length + cntL body := by rw [hO2, List.length_append]; have := HKL.out; omega
        rw [← hO2] at hvs hcl
        have HVS := Lib.hid hvs; have HCL := Lib.hid hcl; have HO2 := Lib.hid ho2l
        have hon := HON.out
        subst hon
        clear hvs hcl hO2 ho2l HV HFP HK4 HAN HK1 HK2
        go_wp2_with (go_at_call 44; refine Calls.mono (by with_reducible exact HCL.out) ?_; rintro e w5 ⟨⟨a5, c5, rfl, ow5⟩, x5, z5⟩; have OW5 := Lib.hid ow5; have X5 := Lib.hid x5; have Z5 := Lib.hid z5; clear ow5 x5 z5)
        go_roundw
        case rel => exact ⟨i + 1, O2, _, _, O2.length, by omega, by go_num, rfl, Lib.hid rfl, Lib.hid ⟨HVS.out, OW5.out, X5.out, Nat.le_trans hC.out.z Z5.out, by have := HO2.out; have := HL.out; omega, Nat.le_trans hC.out.s Z5.out⟩⟩
        case measure => simp [RowKit.intOf]; omega
    · have hr : Hid (V = O) := Lib.hid (by rw [hC.out.v, List.drop_eq_nil_of_le (by rw [← HN.out]; omega), keyL_nil, List.append_nil])
      have b1 : ¬ (i : Int) < (N : Int) := by omega
      have hon := HON.out
      subst hon
      go_wp2
      go_returns
      rw [hr.out]
      exact ⟨⟨_, _, rfl, hC.out.own⟩, hC.out.x, hC.out.s⟩
/-- The document's settings, of all statements. -/
theorem setD_any (w0 : World) (B nn : Nat) (hnn : nn ≤ w0.heap.size) (hB : w0.heap.size ≤ B) : ∀ M, SetDC w0 B nn M := fun M => by
  induction M using Nat.strongRecOn with
  | _ M ih => exact setD_step w0 B nn M hnn hB ih
end Go.Proofs.YtnancphlkbfglaaGreatDoor.Nm

/- The document's Mode and Options. -/
namespace Go.Proofs.YtnancphlkbfglaaGreatDoor.Nm
open Go.RowKit Go.Sort Go.Lib Go.Shelf Fx Lx Tr At

def mOrt : List UInt8 := [111, 114, 116, 104, 111, 103, 111, 110, 97, 108]
def mStr : List UInt8 := [115, 116, 114, 97, 105, 103, 104, 116]
def mTid : List UInt8 := [116, 105, 100, 121]
def mRad : List UInt8 := [114, 97, 100, 105, 97, 108]
def mLay : List UInt8 := [108, 97, 121, 101, 114, 101, 100]
theorem mode_cases (s : ByteArray) : modeR s = if s.data.toList = mOrt then 1 else if s.data.toList = mStr then 2 else if s.data.toList = mTid then 3 else if s.data.toList = mRad then 4 else 0 := by
  by_cases h1 : s.data.toList = mOrt
  · rw [key_eq s _ h1]; decide
  by_cases h2 : s.data.toList = mStr
  · rw [key_eq s _ h2]; decide
  by_cases h3 : s.data.toList = mTid
  · rw [key_eq s _ h3]; decide
  by_cases h4 : s.data.toList = mRad
  · rw [key_eq s _ h4]; decide
  rw [if_neg h1, if_neg h2, if_neg h3, if_neg h4]
  by_cases h0 : s.data.toList = mLay
  · rw [key_eq s _ h0]; decide
  have ne : ∀ (l : List UInt8), s.data.toList ≠ l → (⟨l.toArray⟩ : ByteArray) ≠ s := fun l h e => h (by rw [← e])
  have g0 := ne _ h0; have g1 := ne _ h1; have g2 := ne _ h2; have g3 := ne _ h3; have g4 := ne _ h4
  unfold mLay at g0; unfold mOrt at g1; unfold mStr at g2; unfold mTid at g3; unfold mRad at g4
  have hmn : modeN s = -1 := by
    unfold modeN Lib.idxOfS modesL
    simp only [Lib.idxFromS]
    rw [if_neg g0, if_neg g1, if_neg g2, if_neg g3, if_neg g4]
  unfold modeR
  rw [if_pos hmn]
set_option maxHeartbeats 2000000 in
theorem modeD_any (s : ByteArray) (w : World) : Calls Tryz.prog 48 #[.string s] w fun e w' => e = .returned (.int .i64 (modeR s)) ∧ Ext w w' := by
  have hm := mode_cases s
  have n1 := litEq s [111, 114, 116, 104, 111, 103, 111, 110, 97, 108]
  have n2 := litEq s [115, 116, 114, 97, 105, 103, 104, 116]
  have n3 := litEq s [116, 105, 100, 121]
  have n4 := litEq s [114, 97, 100, 105, 97, 108]
  unfold mOrt mStr mTid mRad at hm
  obtain ⟨V, hV⟩ : ∃ V, V = modeR s := ⟨_, rfl⟩
  rw [← hV] at hm ⊢
  clear hV
  by_cases h1 : s.data.toList = [111, 114, 116, 104, 111, 103, 111, 110, 97, 108]
  · have hr := Lib.hid (show V = 1 by rw [hm, if_pos h1])
    rw [decide_eq_true h1] at n1
    clear hm h1 n2 n3 n4
    go_enter Tryz.func48, Tryz.ntmps48
    go_wp2
    go_returns
    exact ⟨by rw [hr.out]; rfl, Ext.refl _⟩
  by_cases h2 : s.data.toList = [115, 116, 114, 97, 105, 103, 104, 116]
  · have hr := Lib.hid (show V = 2 by rw [hm, if_neg h1, if_pos h2])
    rw [decide_eq_false h1] at n1; rw [decide_eq_true h2] at n2
    clear hm h1 h2 n3 n4
    go_enter Tryz.func48, Tryz.ntmps48
    go_wp2
    go_returns
    exact ⟨by rw [hr.out]; rfl, Ext.refl _⟩
  by_cases h3 : s.data.toList = [116, 105, 100, 121]
  · have hr := Lib.hid (show V = 3 by rw [hm, if_neg h1, if_neg h2, if_pos h3])
    rw [decide_eq_false h1] at n1; rw [decide_eq_false h2] at n2; rw [decide_eq_true h3] at n3
    clear hm h1 h2 h3 n4
    go_enter Tryz.func48, Tryz.ntmps48
    go_wp2
    go_returns
    exact ⟨by rw [hr.out]; rfl, Ext.refl _⟩
  by_cases h4 : s.data.toList = [114, 97, 100, 105, 97, 108]
  · have hr := Lib.hid (show V = 4 by rw [hm, if_neg h1, if_neg h2, if_neg h3, if_pos h4])
    rw [decide_eq_false h1] at n1; rw [decide_eq_false h2] at n2; rw [decide_eq_false h3] at n3; rw [decide_eq_true h4] at n4
    clear hm h1 h2 h3 h4
    go_enter Tryz.func48, Tryz.ntmps48
    go_wp2
    go_returns
    exact ⟨by rw [hr.out]; rfl, Ext.refl _⟩
  have hr := Lib.hid (show V = 0 by rw [hm, if_neg h1, if_neg h2, if_neg h3, if_neg h4])
  rw [decide_eq_false h1] at n1; rw [decide_eq_false h2] at n2; rw [decide_eq_false h3] at n3; rw [decide_eq_false h4] at n4
  clear hm h1 h2 h3 h4
  go_enter Tryz.func48, Tryz.ntmps48
  go_wp2
  go_returns
  exact ⟨by rw [hr.out]; rfl, Ext.refl _⟩
theorem mrgT_idem (L : List Two) : mrgT (mrgT L) = mrgT L := (mrgT_is (mrgT L) (mrgT L) (mrgT_asc L) (asc_get (mrgT L) (mrgT_asc L))).symm
theorem mrgT_step (L : List Two) (a : Two) : mrgT (mrgT L ++ [a]) = mrgT (L ++ [a]) := by rw [mrgT_snoc, mrgT_idem, mrgT_snoc]
theorem one_atO (w : World) (k v : ByteArray) : AtrIn (w.alloc (.cells #[.string k, .string v] 109)) (some ⟨w.heap.size, 0, none⟩) [(k, v)] := fun i hi => by
  have hb := heap_alloc_new w (.cells #[.string k, .string v] 109)
  have h0 : i = 0 := by simp at hi; omega
  subst h0
  exact ⟨_, 0, rfl, by rw [Lib.cell_of_heap hb]; rfl, by rw [Lib.cell_of_heap hb]; rfl⟩
theorem optE_keyL {nm : ByteArray} {L : List Stm} (h : validE nm L = 0) : optE (setsL L) = chkGo 4 none (keyL L) := optE_chk _ (sets_form h)
theorem chkGo_consN (kind : Int) (q : Two) (r : List Two) : chkGo kind none (q :: r) = if checkV kind q.1 q.2 ≠ 0 then checkV kind q.1 q.2 else chkGo kind none r := rfl
/-- Where the document's Options stands. -/
structure OpDAt (R : Except Int Op5) (K : List Two) (w5 : World) (i : Nat) (ov : Value) (wr : World) : Prop where
  r : R = if chkGo 4 none (K.drop i) ≠ 0 then .error (chkGo 4 none (K.drop i)) else .ok (optsR K)
  o : AtL wr ov (mrgT (K.take i))
  x : Ext w5 wr
set_option maxHeartbeats 8000000 in
set_option maxRecDepth 100000 in
theorem optsD_any (nm : ByteArray) (dir : Bool) (b : Option Addr) (L : List Stm) (cap n : Nat) (w : World) (hn : n ≤ w.heap.size) (h : StmsAt n w b L) (hlen : L.length ≤ maxLen) (hs : cntL L ≤ 1099511627776) (hbig : BigL L) (hnm : nm.size ≤ 9223372036854775807) (hfw : ∀ p ∈ flatL 0 L, p.1.refs.length ≤ 10 ∧ p.1.attrs.length ≤ 20) :
    Calls Tryz.prog 20 #[.agg #[.string nm, .bool dir, .slice b L.length cap]] w fun e w' => OptR (optionsT nm L) e ∧ Ext w w' := by
  obtain ⟨R, hR⟩ : ∃ R, R = optionsT nm L := ⟨_, rfl⟩
  rw [← hR]
  unfold optionsT at hR
  have hok := fun hv => ok_valid (nm := nm) (L := L) hv hfw
  have hvc := fun (w5 : World) (x : Ext w w5) => validR_big nm dir b L cap n w5 (Nat.le_trans hn x.size) (StmsAt.below (x.mono hn) L h) (by rw [cntL_flat]; exact hs) hbig hnm
  have hke := @optE_keyL nm L
  obtain ⟨V, hV⟩ : ∃ V, V = validE nm L := ⟨_, rfl⟩
  rw [← hV] at hR hok hvc hke
  obtain ⟨N, hN⟩ : ∃ N, N = L.length := ⟨_, rfl⟩
  rw [← hN] at hvc hlen ⊢
  have HOK := Lib.hid hok; have HVC := Lib.hid hvc; have HR := Lib.hid hR; have HST := Lib.hid h; have HN := Lib.hid hN; have HNN := Lib.hid hn; have HKE := Lib.hid hke
  clear hok hvc hR h hN hn hs hbig hnm hfw hV hke
  go_enter Tryz.func20, Tryz.ntmps20
  by_cases hv0 : V = 0
  case neg =>
    obtain ⟨f1, f2⟩ := nfacts hv0
    have hr : Hid (R = .error V) := Lib.hid (by rw [HR.out, if_pos hv0])
    go_wp2_with (go_at_call 31; refine (HVC.out _ (((Ext.refl _).alloc _).alloc _)).mono ?_; rintro e w3 ⟨rfl, x3⟩; have HG3 := Lib.hid (two_newO x3); obtain ⟨z0, z1, z2, z3, z4⟩ := cells5g HG3.out; have zf : ∀ j, w3.frozen? ⟨w.heap.size + 1, j, none⟩ = false := (fun j => Lib.frozen_of_heap HG3.out j))
    (try simp only [Exit.inBlock, Exit.then]); refine bodyPost_ret (results_op rfl _ _ (w.heap.size + 1) _ (.int .i64 V) rfl rfl rfl (set5g HG3.out _ _ _ _ _)) rfl ?_
    rw [hr.out]
    exact ⟨⟨rfl, hv0⟩, ext5g ((((Ext.refl _).alloc _).alloc _).trans x3) (Nat.le_succ _) _ _ _ _ _⟩
  subst hv0
  obtain ⟨f1, f2⟩ := efacts 0
  obtain ⟨ok1, ok2, ok3⟩ := HOK.out (by trivial)
  have hR := HR.out
  rw [if_neg (by decide), HKE.out (by trivial)] at hR
  have hSD := fun (w3 : World) (x : Ext w w3) => setD_any w3 w3.heap.size n (Nat.le_trans HNN.out x.size) (Nat.le_refl _) (cntL L) L b cap [] none 0 w3 (Nat.le_refl _) (StmsAt.below (x.mono HNN.out) L HST.out) (by rw [← HN.out]; exact hlen) ok3 (Ext.refl _) (Nat.le_refl _) (by simp; omega) (World.ownsRow_nil _ _ _ _)
  simp only [List.length_nil, List.nil_append] at hSD
  have hKl := keyL_len L
  have hsz : ∀ q ∈ keyL L, q.1.size ≤ 64 ∧ q.2.size ≤ 64 := keyed_sz ok3
  have hRR : R = if chkGo 4 none (keyL L) ≠ 0 then .error (chkGo 4 none (keyL L)) else .ok (optsR (keyL L)) := by
    rw [hR]
    by_cases h0 : chkGo 4 none (keyL L) = 0
    · rw [if_neg (fun e => e h0), if_neg (fun e => e h0), opts_same h0]; rfl
    · rw [if_pos h0, if_pos h0]
  obtain ⟨K, hK⟩ : ∃ K, K = keyL L := ⟨_, rfl⟩
  rw [← hK] at hKl hsz hRR
  simp only [← hK] at hSD
  rw [← HN.out] at hSD
  obtain ⟨KN, hKN⟩ : ∃ n, n = K.length := ⟨_, rfl⟩
  simp only [← hKN] at hSD
  have hKl2 : KN ≤ 1000 := by omega
  have HSD := Lib.hid hSD; have HRR := Lib.hid hRR; have HSZ := Lib.hid hsz; have HKN := Lib.hid hKN
  clear hSD hR ok1 ok2 ok3 HR HOK HKE hK hKl hsz hRR hKN
  go_wp2_with (first
    | (go_at_call 31; refine (HVC.out _ (((Ext.refl _).alloc _).alloc _)).mono ?_; rintro e w3 ⟨rfl, x3⟩; have HG3 := Lib.hid (two_newO x3); have HT3 := Lib.hid (box_newO x3); have t2 : w3.cell? ⟨w.heap.size, 2, none⟩ = some (.slice b N cap) := (by rw [Lib.cell_of_heap HT3.out]; rfl); have X3 := Lib.hid ((((Ext.refl _).alloc _).alloc _).trans x3 : Ext w w3))
    | (go_at_call 44; refine Calls.mono (by with_reducible exact HSD.out _ X3.out) ?_; rintro e w5 ⟨⟨a5, c5, rfl, ow5⟩, x5, -⟩; have OW5 := Lib.hid ow5; have X5 := Lib.hid (X3.out.trans x5); have HG5 := Lib.hid (At.heap_ext HG3.out x5); clear ow5 x5 t2))
  have hat : AtrIn w5 a5 K := by
    have ho := OW5.out
    rw [HKN.out] at ho
    obtain ⟨aa, cc, e1, hat, -⟩ := own_atrs ho
    injection e1 with e1 _ _
    subst e1
    exact hat
  have HAT := Lib.hid hat
  have hC : Hid (OpDAt R K w5 0 (.slice none 0 0) w5) := Lib.hid ⟨by rw [List.drop_zero]; exact HRR.out, by rw [List.take_zero, show mrgT [] = [] from rfl]; exact AtL.nil _, Ext.refl _⟩
  clear hat OW5 HRR HSD HVC HG3 HT3 x3
  go_wp2_with fail
  go_loopw [6, 7] (fun ov i' wr => ∃ (i : Nat) (oa : Option Addr) (on oc : Nat), i ≤ KN ∧ i' = .int .i64 i ∧ ov = .slice oa on oc ∧ Hid (OpDAt R K w5 i (.slice oa on oc) wr)) (fun _ i' _ => KN - (RowKit.intOf i').toNat)
  case atStart => exact ⟨0, none, 0, 0, Nat.zero_le _, rfl, rfl, hC⟩
  case round =>
    clear hC
    obtain ⟨i, oa, on, oc, hi, rfl, rfl, hC⟩ := hrel
    by_cases hlt : i < KN
    · have hkl : i < K.length := by rw [← HKN.out]; exact hlt
      obtain ⟨g, o, rfl, c0, c1⟩ := (HAT.out.ext hC.out.x) i hkl
      have hr0 := hC.out.r
      obtain ⟨hs1, hs2⟩ := HSZ.out _ (List.getElem_mem hkl)
      rw [List.drop_eq_getElem_cons hkl, chkGo_consN] at hr0
      have hst : mrgT (mrgT (K.take i) ++ [K[i]]) = mrgT (K.take (i + 1)) := by rw [mrgT_step, List.take_succ_eq_append_getElem hkl]
      have hml := mrgT_len (K.take i)
      rw [List.length_take] at hml
      obtain ⟨p, pc, hp, hpi, -⟩ := hC.out.o
      injection hp with e1 e2 e3
      subst e1; subst e2; subst e3
      obtain ⟨k1, hk1⟩ : ∃ q, q = K[i].1 := ⟨_, rfl⟩
      obtain ⟨v1, hv1⟩ : ∃ q, q = K[i].2 := ⟨_, rfl⟩
      have hch := fun w5 => checkR_any 4 K[i].1 K[i].2 w5 (by omega)
      simp only [← check_same] at hch
      have hki : K[i] = (k1, v1) := by rw [hk1, hv1]
      rw [hki] at hst hr0 hch
      dsimp only at hr0 hch
      rw [← hk1] at c0; rw [← hv1] at c1
      have hmg := fun (w7 : World) (x : Ext wr w7) => mrgR_any oa (some ⟨w7.heap.size, 0, none⟩) (mrgT (K.take i)) [(k1, v1)] oc 1 (w7.alloc (.cells #[.string k1, .string v1] 109)) ((hpi.ext x).ext ((Ext.refl _).alloc _)) (one_atO w7 k1 v1) (by omega) (by simp)
      rw [hst] at hmg
      simp only [List.length_cons, List.length_nil, Nat.zero_add] at hmg
      obtain ⟨c, hc⟩ : ∃ c, c = checkV 4 k1 v1 := ⟨_, rfl⟩
      rw [← hc] at hr0
      simp only [← hc] at hch
      obtain ⟨ON, hON⟩ : ∃ n, n = (mrgT (K.take i)).length := ⟨_, rfl⟩
      rw [← hON] at hmg ⊢
      have HR0 := Lib.hid hr0; have HCH := Lib.hid hch; have HMG := Lib.hid hmg
      have b0 : (0 : Int) ≤ (i : Int) := by omega
      have b1 : (i : Int) < (KN : Int) := by omega
      clear hr0 hch hmg hst hml hki hk1 hv1 hc hs1 hs2 hpi hON
      by_cases hc0 : c = 0
      · subst hc0
        obtain ⟨g1, g2⟩ := efacts 0
        have hr : Hid (R = if chkGo 4 none (K.drop (i + 1)) ≠ 0 then .error (chkGo 4 none (K.drop (i + 1))) else .ok (optsR K)) := Lib.hid (by rw [HR0.out]; simp)
        clear HR0
        go_wp2_with (first
          | (go_at_call 45; refine Calls.mono (by with_reducible exact HCH.out _) ?_; rintro e w6 ⟨rfl, x6⟩; have X6 := Lib.hid x6; have d0 := x6.cell c0; have d1 := x6.cell c1; clear x6)
          | (go_at_call 46; refine Calls.mono (by with_reducible exact HMG.out _ X6.out) ?_; rintro e w7 ⟨⟨ra, rc, rfl, hri, hrz⟩, x7⟩; have HO7 := Lib.hid (show AtL w7 (.slice ra (mrgT (K.take (i + 1))).length rc) (mrgT (K.take (i + 1))) from ⟨ra, rc, rfl, hri, hrz⟩); have X7 := Lib.hid ((X6.out.alloc _).trans x7); clear hri hrz x7))
        go_roundw
        case rel => exact ⟨i + 1, _, _, _, by omega, by go_num, rfl, Lib.hid ⟨hr.out, HO7.out, hC.out.x.trans X7.out⟩⟩
        case measure => simp [RowKit.intOf]; omega
      · obtain ⟨g1, g2⟩ := nfacts hc0
        have hr : Hid (R = .error c) := Lib.hid (by rw [HR0.out]; simp [hc0])
        clear HR0 HMG
        go_wp2_with (go_at_call 45; refine Calls.mono (by with_reducible exact HCH.out _) ?_; rintro e w6 ⟨rfl, x6⟩; have HG6 := Lib.hid (At.heap_ext HG5.out (hC.out.x.trans x6)); obtain ⟨z0, z1, z2, z3, z4⟩ := cells5g HG6.out; have zf : ∀ j, w6.frozen? ⟨w.heap.size + 1, j, none⟩ = false := (fun j => Lib.frozen_of_heap HG6.out j))
        (try simp only [Exit.inBlock, Exit.then]); refine bodyPost_ret (results_op rfl _ _ (w.heap.size + 1) _ (.int .i64 c) rfl rfl rfl (set5g HG6.out _ _ _ _ _)) rfl ?_
        rw [hr.out]
        exact ⟨⟨rfl, hc0⟩, ext5g ((X5.out.trans hC.out.x).trans x6) (Nat.le_succ _) _ _ _ _ _⟩
    · have hiK : i = K.length := by rw [← HKN.out]; omega
      have hr0 := hC.out.r
      rw [List.drop_eq_nil_of_le (by omega)] at hr0
      have ho := hC.out.o
      rw [hiK, List.take_length] at ho
      obtain ⟨p, pc, hp, hpi, -⟩ := ho
      injection hp with e1 e2 e3
      subst e1; subst e2; subst e3
      have hr1 : R = .ok (optsR (mrgT K)) := by rw [hr0, optsR_mrg]; rfl
      have hml := mrgT_len K
      have hsz : ∀ q ∈ mrgT K, q.2.size ≤ 4294967280 := fun q hq => by have := (HSZ.out q (mrgT_mem hq)).2; omega
      have hge := fun (w7 : World) (x : Ext wr w7) => getR_any oa (mrgT K) oc kMode w7 (hpi.ext x) (by have := HKN.out; omega)
      have hnu := fun (k : ByteArray) (w7 : World) (x : Ext wr w7) => numR_any 4 oa (mrgT K) oc k w7 (hpi.ext x) (by have := HKN.out; omega) hsz
      have h1 := hnu kNs; have h2 := hnu kRs; have h3 := hnu kMg; have h4 := hnu kRd
      unfold optsR at hr1
      obtain ⟨NS, hNS⟩ : ∃ v, v = numRT (knownT 4 kNs.data.toList) (getT (mrgT K) kNs) := ⟨_, rfl⟩
      obtain ⟨RS, hRS⟩ : ∃ v, v = numRT (knownT 4 kRs.data.toList) (getT (mrgT K) kRs) := ⟨_, rfl⟩
      obtain ⟨MG, hMG⟩ : ∃ v, v = numRT (knownT 4 kMg.data.toList) (getT (mrgT K) kMg) := ⟨_, rfl⟩
      obtain ⟨RD, hRD⟩ : ∃ v, v = numRT (knownT 4 kRd.data.toList) (getT (mrgT K) kRd) := ⟨_, rfl⟩
      rw [← hNS, ← hRS, ← hMG, ← hRD] at hr1
      simp only [← hNS] at h1; simp only [← hRS] at h2; simp only [← hMG] at h3; simp only [← hRD] at h4
      obtain ⟨⟨ms, mb⟩, hG⟩ : ∃ G, G = getT (mrgT K) kMode := ⟨_, rfl⟩
      simp only [← hG] at hge hr1
      obtain ⟨MN, hMN⟩ : ∃ v, v = modeR ms := ⟨_, rfl⟩
      have hmo := fun (w7 : World) => modeD_any ms w7
      rw [← hMN] at hr1
      simp only [← hMN] at hmo
      unfold kNs at h1; unfold kRs at h2; unfold kMg at h3; unfold kRd at h4; unfold kMode at hge
      obtain ⟨MK, hMK⟩ : ∃ n, n = (mrgT K).length := ⟨_, rfl⟩
      simp only [← hMK] at h1 h2 h3 h4 hge
      rw [← hMK]
      have H1 := Lib.hid h1; have H2 := Lib.hid h2; have H3 := Lib.hid h3; have H4 := Lib.hid h4; have HGE := Lib.hid hge; have HMO := Lib.hid hmo; have hr := Lib.hid hr1
      have b1 : ¬ (i : Int) < (KN : Int) := by omega
      clear h1 h2 h3 h4 hge hmo hr1 hnu hsz hNS hRS hMG hRD hG hMN hMK hml hpi hr0 hiK
      go_wp2_with fail
      refine (HGE.out _ (Ext.refl _)).mono ?_
      rintro e w7 ⟨rfl, rfl⟩
      go_wp2_with fail
      refine (HMO.out _).mono ?_
      rintro e w8 ⟨rfl, x8⟩
      go_wp2_with fail
      refine (H1.out _ x8).mono ?_
      rintro e w9 ⟨rfl, x9⟩
      go_wp2_with fail
      refine (H2.out _ (x8.trans x9)).mono ?_
      rintro e wA ⟨rfl, xA⟩
      go_wp2_with fail
      refine (H3.out _ ((x8.trans x9).trans xA)).mono ?_
      rintro e wB ⟨rfl, xB⟩
      go_wp2_with fail
      refine (H4.out _ (((x8.trans x9).trans xA).trans xB)).mono ?_
      rintro e wC ⟨rfl, xC⟩
      have XC := Lib.hid (hC.out.x.trans ((((x8.trans x9).trans xA).trans xB).trans xC))
      clear x8 x9 xA xB xC
      have HG6 := Lib.hid (At.heap_ext HG5.out XC.out)
      obtain ⟨z0, z1, z2, z3, z4⟩ := cells5g HG6.out
      have zf : ∀ j, wC.frozen? ⟨w.heap.size + 1, j, none⟩ = false := (fun j => Lib.frozen_of_heap HG6.out j)
      go_wp2
      (try simp only [Exit.inBlock, Exit.then]); refine bodyPost_ret (results_op rfl _ _ (w.heap.size + 1) _ (.int .i64 0) rfl rfl rfl (set5g HG6.out _ _ _ _ _)) rfl ?_
      rw [hr.out]
      exact ⟨rfl, ext5g (X5.out.trans XC.out) (Nat.le_succ _) _ _ _ _ _⟩
end Go.Proofs.YtnancphlkbfglaaGreatDoor.Nm

/- What few returns, where a tree's statements are few, and where not. -/
namespace Go.Proofs.YtnancphlkbfglaaGreatDoor.Nm
open Go.RowKit Go.Sort Go.Lib Go.Shelf Fx Lx Tr

mutual
def fewS (dep : Nat) : Stm → Bool
  | .mk _ _ rs al b => decide (rs.length ≤ 10) && decide (al.length ≤ 20) && (decide (b.length ≤ 20) && decide (dep ≤ 7) && fewA (dep + 1) b)
def fewA (dep : Nat) : List Stm → Bool
  | [] => true
  | x :: r => fewS dep x && fewA dep r
end
/-- Statements are few, at few levels. -/
def fewB (dep : Nat) (L : List Stm) : Bool := decide (L.length ≤ 20) && decide (dep ≤ 8) && fewA dep L
theorem fewS_mk (dep : Nat) (k : Int) (n : ByteArray) (rs al : List Two) (b : List Stm) : fewS dep (.mk k n rs al b) = (decide (rs.length ≤ 10) && decide (al.length ≤ 20) && fewB (dep + 1) b) := by
  rw [fewS]; unfold fewB
  rw [show decide (dep + 1 ≤ 8) = decide (dep ≤ 7) by rw [decide_eq_decide]; omega]
theorem fewA_cons (dep : Nat) (x : Stm) (r : List Stm) : fewA dep (x :: r) = (fewS dep x && fewA dep r) := by rw [fewA]
theorem fewA_nil (dep : Nat) : fewA dep [] = true := by rw [fewA]
set_option maxHeartbeats 4000000 in
set_option maxRecDepth 100000 in
theorem few_any : ∀ (K : Nat) (L : List Stm) (b : Option Addr) (cap n dep : Nat) (w : World), sizeL L ≤ K → L.length ≤ maxLen → dep ≤ 9 → n ≤ w.heap.size → StmsAt n w b L →
    Calls Tryz.prog 8 #[.slice b L.length cap, .int .i64 dep] w fun e w' => e = .returned (.bool (fewB dep L)) ∧ Ext w w' := by
  intro K
  induction K using Nat.strongRecOn with
  | _ K ih =>
  intro L b cap n dep w hK hmax hdep hn hL
  obtain ⟨V, hV⟩ : ∃ V, V = fewB dep L := ⟨_, rfl⟩
  rw [← hV]
  unfold fewB at hV
  obtain ⟨N, hN⟩ : ∃ N, N = L.length := ⟨_, rfl⟩
  rw [← hN] at hV hmax ⊢
  unfold maxLen at hmax
  by_cases h20 : N ≤ 20
  · by_cases h8 : dep ≤ 8
    · rw [decide_eq_true h20, decide_eq_true h8, Bool.true_and, Bool.true_and] at hV
      have f1 : decide ((20 : Int) < N) = false := decide_eq_false (by omega)
      have f2 : decide ((8 : Int) < dep) = false := decide_eq_false (by omega)
      have f1' : ¬ (20 : Int) < N := by omega
      have f2' : ¬ (8 : Int) < dep := by omega
      have HV : Hid (V = fewA dep (L.drop 0)) := Lib.hid hV
      have HN := Lib.hid hN; have HL := Lib.hid hL; have HK := Lib.hid hK; have HNW := Lib.hid hn; have HIH := Lib.hid ih
      clear hV hN hL hK hn ih
      go_enter Tryz.func8, Tryz.ntmps8
      go_wp2_with fail
      go_loopw [5] (fun i' wr => ∃ k : Nat, k ≤ N ∧ i' = .int .i64 k ∧ Ext w wr ∧ Hid (V = fewA dep (L.drop k))) (fun i' _ => N - (RowKit.intOf i').toNat)
      case atStart => exact ⟨0, by omega, rfl, Ext.refl _, HV⟩
      case round =>
        obtain ⟨k, hk, rfl, hx, hb⟩ := hrel
        clear HV
        by_cases hlt : k < N
        · have hkl : k < L.length := by rw [← HN.out]; exact hlt
          have hbn : Below n w wr := Below.mono hx HNW.out
          obtain ⟨g, o, rfl, hg, hst⟩ := StmsAt.at L (StmsAt.below hbn L HL.out) k hkl
          have hsz : sizeS L[k] ≤ K := Nat.le_trans (sizeL_at L k hkl) HK.out
          have hbv := hb.out
          rw [List.drop_eq_getElem_cons hkl, fewA_cons] at hbv
          obtain ⟨s, hs⟩ : ∃ s, s = L[k] := ⟨_, rfl⟩
          rw [← hs] at hst hsz hbv
          clear hs hb
          obtain ⟨kind, nm, rs, al, body⟩ := s
          have hbd := sizeS_body (.mk kind nm rs al body)
          simp only [Stm.body, Stm.name, Stm.refs, Stm.attrs] at hbd
          rw [StmAt] at hst
          obtain ⟨r, rc, a', atc, b', bc, c0, c1, c2, c3, c4, hr, ha, hbs, hl1, hl2, hl3, hl4, hl5⟩ := hst
          have hwn : n ≤ wr.heap.size := Nat.le_trans HNW.out hx.size
          have hcall := HIH.out (sizeL body) (by omega) body b' bc n (dep + 1) wr (Nat.le_refl _) hl5 (by omega) hwn (StmsAt.below (Below.refl _ _) body hbs)
          rw [fewS_mk] at hbv
          have hrl : rs.length ≤ 9223372036854775807 := by unfold maxLen at hl3; omega
          have hal : al.length ≤ 9223372036854775807 := by unfold maxLen at hl4; omega
          generalize fewB (dep + 1) body = cc at hbv hcall
          have hdp : ((dep + 1 : Nat) : Int) = (dep : Int) + 1 := by omega
          rw [hdp] at hcall
          have HC := Lib.hid hcall
          clear hcall hbd hsz hr ha hbs hl1 hl2 hl3 hl4 hl5 hg hbn hwn hdp
          generalize rs.length = R at *
          generalize al.length = A at *
          generalize body.length = B at *
          by_cases e1 : R ≤ 10
          · have g1 : ¬ (10 : Int) < R := by omega
            by_cases e2 : A ≤ 20
            · have g2 : ¬ (20 : Int) < A := by omega
              rw [decide_eq_true e1, decide_eq_true e2, Bool.true_and, Bool.true_and] at hbv
              cases cc
              · rw [Bool.false_and] at hbv
                have hf := Lib.hid hbv
                clear hbv
                go_wp2_with (go_at_call 8; refine HC.out.mono ?_; rintro e w5 ⟨rfl, x5⟩)
                go_returns
                exact ⟨by rw [hf.out]; rfl, hx.trans x5⟩
              · rw [Bool.true_and] at hbv
                have hf := Lib.hid hbv
                clear hbv
                go_wp2_with (go_at_call 8; refine HC.out.mono ?_; rintro e w5 ⟨rfl, x5⟩)
                go_roundw
                case rel => exact ⟨k + 1, by omega, by go_num, hx.trans x5, hf⟩
                case measure => simp [RowKit.intOf]; omega
            · have g2 : (20 : Int) < A := by omega
              have hf : Hid (V = false) := Lib.hid (by rw [hbv, decide_eq_false e2]; simp)
              clear hbv e2
              go_wp2_with fail
              go_returns
              exact ⟨by rw [hf.out]; rfl, hx⟩
          · have g1 : (10 : Int) < R := by omega
            have hf : Hid (V = false) := Lib.hid (by rw [hbv, decide_eq_false e1]; simp)
            clear hbv e1
            go_wp2_with fail
            go_returns
            exact ⟨by rw [hf.out]; rfl, hx⟩
        · have hf : Hid (V = true) := Lib.hid (by rw [hb.out, List.drop_eq_nil_of_le (by rw [← HN.out]; omega), fewA_nil])
          clear hb
          go_wp2_with fail
          go_returns
          exact ⟨by rw [hf.out]; rfl, hx⟩
    · have f1' : ¬ (20 : Int) < N := by omega
      have f2' : (8 : Int) < dep := by omega
      have hf : Hid (V = false) := Lib.hid (by rw [hV, decide_eq_false h8]; simp)
      clear hV hN hL hK hn ih h8
      go_enter Tryz.func8, Tryz.ntmps8
      go_wp2_with fail
      go_returns
      exact ⟨by rw [hf.out]; rfl, Ext.refl _⟩
  · have f1' : (20 : Int) < N := by omega
    have hf : Hid (V = false) := Lib.hid (by rw [hV, decide_eq_false h20]; simp)
    clear hV hN hL hK hn ih h20
    go_enter Tryz.func8, Tryz.ntmps8
    go_wp2_with fail
    go_returns
    exact ⟨by rw [hf.out]; rfl, Ext.refl _⟩
end Go.Proofs.YtnancphlkbfglaaGreatDoor.Nm

/- How many statements a tree of few statements has; no program in sight. -/
namespace Go.Proofs.YtnancphlkbfglaaGreatDoor.Nm
open Go.Lib Fx Lx Tr

def cntF : Nat → Nat
  | 0 => 0
  | k + 1 => 20 * (1 + cntF k)
theorem fewB_parts {dep : Nat} {L : List Stm} (h : fewB dep L = true) : L.length ≤ 20 ∧ dep ≤ 8 ∧ fewA dep L = true := by
  unfold fewB at h
  rw [Bool.and_eq_true, Bool.and_eq_true, decide_eq_true_eq, decide_eq_true_eq] at h
  exact ⟨h.1.1, h.1.2, h.2⟩
theorem fewS_parts {dep : Nat} {x : Stm} (h : fewS dep x = true) : x.refs.length ≤ 10 ∧ x.attrs.length ≤ 20 ∧ fewB (dep + 1) x.body = true := by
  obtain ⟨k, n, rs, al, b⟩ := x
  rw [fewS_mk, Bool.and_eq_true, Bool.and_eq_true, decide_eq_true_eq, decide_eq_true_eq] at h
  exact ⟨h.1.1, h.1.2, h.2⟩
/-- The statements of few statements, in number, and what each holds. -/
theorem few_count : ∀ (k : Nat) (L : List Stm) (dep lev : Nat), dep + k = 9 → fewB dep L = true → (flatL lev L).length ≤ cntF k ∧ ∀ p ∈ flatL lev L, p.1.refs.length ≤ 10 ∧ p.1.attrs.length ≤ 20
  | 0, L, dep, lev, hk, h => by have := (fewB_parts h).2.1; omega
  | k + 1, L, dep, lev, hk, h => by
    obtain ⟨h20, _, hA⟩ := fewB_parts h
    have H : ∀ M : List Stm, fewA dep M = true → (flatL lev M).length ≤ M.length * (1 + cntF k) ∧ ∀ p ∈ flatL lev M, p.1.refs.length ≤ 10 ∧ p.1.attrs.length ≤ 20 := by
      intro M
      induction M with
      | nil => intro _; rw [flatL_nil]; exact ⟨by simp, fun p hp => by cases hp⟩
      | cons x r ih =>
        intro hM
        rw [fewA_cons, Bool.and_eq_true] at hM
        obtain ⟨g1, g2, g3⟩ := fewS_parts hM.1
        obtain ⟨i1, i2⟩ := ih hM.2
        obtain ⟨j1, j2⟩ := few_count k x.body (dep + 1) (if x.kind = 5 then lev + 1 else lev) (by omega) g3
        rw [flatL_cons, flatS_eq]
        refine ⟨?_, fun p hp => ?_⟩
        · rw [List.length_append, List.length_cons, List.length_cons, Nat.add_mul]
          omega
        · rcases List.mem_append.1 hp with hp | hp
          · rcases List.mem_cons.1 hp with rfl | hp
            · exact ⟨g1, g2⟩
            · exact j2 p hp
          · exact i2 p hp
    obtain ⟨h1, h2⟩ := H L hA
    refine ⟨Nat.le_trans h1 ?_, h2⟩
    exact Nat.mul_le_mul_right _ h20
theorem few_flat {L : List Stm} (h : fewB 0 L = true) : (flatL 0 L).length ≤ 1099511627776 ∧ ∀ p ∈ flatL 0 L, p.1.refs.length ≤ 10 ∧ p.1.attrs.length ≤ 20 := by
  obtain ⟨h1, h2⟩ := few_count 9 L 0 0 rfl h
  exact ⟨Nat.le_trans h1 (by decide), h2⟩
end Go.Proofs.YtnancphlkbfglaaGreatDoor.Nm
