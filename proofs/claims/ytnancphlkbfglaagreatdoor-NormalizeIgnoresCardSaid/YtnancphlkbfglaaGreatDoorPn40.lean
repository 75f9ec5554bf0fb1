/- Packed texts: NorSets, NorIgnP, NorSameG, NorLawI -/
import Derived.Test.YtnancphlkbfglaaGreatDoorPn39
import Derived.Test.YtnancphlkbfglaaGreatDoorPn30
import Derived.Test.YtnancphlkbfglaaGreatDoorPn16
import Derived.Deep.CutRange
set_option linter.unusedVariables false
set_option linter.unusedSimpArgs false
/- The law's sets. -/
namespace Go.Proofs.YtnancphlkbfglaaGreatDoor.Nm
open Go.RowKit Go.Sort Go.Lib Go.Shelf Fx Lx Tr At Pa

theorem setsL_len : ∀ (n : Nat) (M : List Stm), sizeL M ≤ n → (setsL M).length ≤ cntL M := by
  intro n
  induction n using Nat.strongRecOn with
  | _ n ih =>
    intro M
    induction M with
    | nil => intro _; rw [setsL_nil]; simp
    | cons x r ihr =>
      intro hn
      rw [sizeL_cons] at hn
      have h1 := sizeS_body x
      have h2 := ihr (by omega)
      have h3 := ih (sizeL x.body) (by omega) x.body (Nat.le_refl _)
      rw [setsL_cons, setsS_eq, cntL_cons, cntS_body]
      simp only [List.length_append]
      split <;> simp <;> omega
theorem setsL_cnt (M : List Stm) : (setsL M).length ≤ cntL M := setsL_len _ M (Nat.le_refl _)
/-- A row of the law's sets. -/
structure SetRow (w0 : World) (nn B : Nat) (K : List Stm) (ov : Value) (wr : World) : Prop where
  own : ∃ X, wr.ownsRow B 56 5 ov K.length X ∧ StmsC (· < nn) w0 K X
def SetsC (w0 : World) (B nn M : Nat) : Prop :=
  ∀ (L : List Stm) (b : Option Addr) (cap : Nat) (O : List Stm) (oa : Option Addr) (oc : Nat) (w : World), cntL L ≤ M → StmsAt nn w0 b L → L.length ≤ maxLen → Ext w0 w → B ≤ w.heap.size → O.length + cntL L ≤ 1099511627776 → SetRow w0 nn B O (.slice oa O.length oc) w →
    Calls Tryz.prog 19 #[.slice oa O.length oc, .slice b L.length cap] w fun e w' => (∃ a c, e = .returned (.slice a (O ++ setsL L).length c) ∧ SetRow w0 nn B (O ++ setsL L) (.slice a (O ++ setsL L).length c) w') ∧ Ext w0 w' ∧ w.heap.size ≤ w'.heap.size
structure SetsAt (w0 : World) (s0 B nn : Nat) (V : List Stm) (L : List Stm) (i : Nat) (O : List Stm) (oa : Option Addr) (oc : Nat) (wr : World) : Prop where
  v : V = O ++ setsL (L.drop i)
  own : SetRow w0 nn B O (.slice oa O.length oc) wr
  x : Ext w0 wr
  z : B ≤ wr.heap.size
  l : O.length + cntL (L.drop i) ≤ 1099511627776
  s : s0 ≤ wr.heap.size
set_option maxHeartbeats 8000000 in
set_option maxRecDepth 100000 in
theorem sets_step (w0 : World) (B nn M : Nat) (hnn : nn ≤ w0.heap.size) (hB : w0.heap.size ≤ B) (IH : ∀ M', M' < M → SetsC w0 B nn M') : SetsC w0 B nn M := by
  intro L b cap O oa oc w hcM hst hlen hx hz hl hown
  obtain ⟨j0, hj, hjz0, hjz1, hjz2⟩ := info_parts info_stm
  obtain ⟨V, hV⟩ : ∃ V, V = O ++ setsL L := ⟨_, rfl⟩
  obtain ⟨N, hN⟩ : ∃ N, N = L.length := ⟨_, rfl⟩
  obtain ⟨ON, hON⟩ : ∃ N, N = O.length := ⟨_, rfl⟩
  rw [← hV]
  have hlen2 : N ≤ 1099511627776 := by have := cntL_len L; omega
  have hC : Hid (SetsAt w0 w.heap.size B nn V L 0 O oa oc w) := Lib.hid ⟨by rw [List.drop_zero]; exact hV, hown, hx, hz, by rw [List.drop_zero]; exact hl, Nat.le_refl _⟩
  rw [← hN, ← hON]
  have HST := Lib.hid hst; have HIH := Lib.hid IH; have HN := Lib.hid hN; have HCM := Lib.hid hcM; have HNN := Lib.hid hnn; have HB := Lib.hid hB; have HON := Lib.hid hON
  clear hst IH hV hN hcM hnn hB hx hz hl hown hlen hON
  go_enter Tryz.func19, Tryz.ntmps19
  go_wp2_with fail
  go_loopw [0, 5] (fun ov i' wr => ∃ (i : Nat) (O : List Stm) (oa : Option Addr) (oc ON : Nat), i ≤ N ∧ i' = .int .i64 i ∧ ov = .slice oa ON oc ∧ Hid (ON = O.length) ∧ Hid (SetsAt w0 w.heap.size B nn V L i O oa oc wr)) (fun _ i' _ => N - (RowKit.intOf i').toNat)
  case atStart => exact ⟨0, O, oa, oc, ON, Nat.zero_le _, rfl, rfl, HON, hC⟩
  case round =>
    clear hC HON
    obtain ⟨i, O, oa, oc, ON, hi, rfl, rfl, HON, hC⟩ := hrel
    by_cases hlt : i < N
    · have hkl : i < L.length := by rw [← HN.out]; exact hlt
      have hx := hC.out.x
      obtain ⟨g, o, rfl, hg, hst⟩ := StmsAt.at L HST.out i hkl
      have hct := cntL_take L i hkl
      have hcle := cntL_le L (i + 1)
      have hv := hC.out.v
      have hl := hC.out.l
      rw [List.drop_eq_getElem_cons hkl] at hv hl
      obtain ⟨x, hxe⟩ : ∃ x, x = L[i] := ⟨_, rfl⟩
      rw [← hxe] at hst hct hv hl
      rw [cntL_cons] at hl
      rw [setsL_cons, setsS_eq] at hv
      have hv4 : x.kind = 4 → V = (O ++ [x]) ++ setsL x.body ++ setsL (L.drop (i + 1)) := fun h => by rw [hv, if_pos h]; simp
      have hvn : x.kind ≠ 4 → V = O ++ setsL x.body ++ setsL (L.drop (i + 1)) := fun h => by rw [hv, if_neg h]; simp
      have hcb := cntS_body x
      have hsb := setsL_cnt x.body
      have HS0 := Lib.hid hst
      obtain ⟨xs, hxl, hxp, hxc⟩ := stmAt_p x g (o + i * 5) hst
      obtain ⟨kind, nm, rs, al, body⟩ := x
      simp only [Stm.kind, Stm.body] at hv4 hvn hcb hsb
      rw [StmAt] at hst
      obtain ⟨r, rc, a, ac, b', bc, c0', c1', c2', c3', c4', hr, ha, hbs, hl1, hl2, hl3, hl4, hl5⟩ := hst
      have hsp : StmP (· < nn) w0 (.mk kind nm rs al body) [.int .i64 kind, .string nm, .slice r rs.length rc, .slice a al.length ac, .slice b' body.length bc] := by
        rw [StmP]; exact ⟨r, rc, a, ac, b', bc, rfl, twoAt_p hr, twoAt_p ha, stmsAt_p body b' hbs, hl1, hl2, hl3, hl4, hl5⟩
      have c0 := hx.cell c0'; have c1 := hx.cell c1'; have c2 := hx.cell c2'; have c3 := hx.cell c3'; have c4 := hx.cell c4'
      rw [hcb] at hl
      have hbM : cntL body < M := by have := HCM.out; rw [hcb] at hct; omega
      have hih := fun (O' : List Stm) (oa : Option Addr) (oc : Nat) (w5 : World) (x : Ext w0 w5) (z : B ≤ w5.heap.size) (hl' : O'.length + cntL body ≤ 1099511627776) (ow : SetRow w0 nn B O' (.slice oa O'.length oc) w5) => HIH.out (M - 1) (by omega) body b' bc O' oa oc w5 (by omega) hbs hl5 x z hl' ow
      obtain ⟨SB, hSB⟩ : ∃ SB, SB = setsL body := ⟨_, rfl⟩
      simp only [← hSB] at hih hv4 hvn hsb
      have HSP := Lib.hid hsp; have HV4 := Lib.hid hv4; have HVN := Lib.hid hvn; have HSB := Lib.hid hsb
      obtain ⟨RN, hRN⟩ : ∃ n, n = rs.length := ⟨_, rfl⟩
      obtain ⟨AN, hAN⟩ : ∃ n, n = al.length := ⟨_, rfl⟩
      obtain ⟨BN, hBN⟩ : ∃ n, n = body.length := ⟨_, rfl⟩
      rw [← hRN] at c2; rw [← hAN] at c3; rw [← hBN] at c4
      simp only [← hBN] at hih
      rw [← hRN, ← hAN, ← hBN] at HSP
      have HL := Lib.hid hl; have HIB := Lib.hid hih; have HX := Lib.hid hx
      have b0 : (0 : Int) ≤ (i : Int) := by omega
      have b1 : (i : Int) < (N : Int) := by omega
      have c40 := c4'
      rw [← hBN] at c40
      have C40 := Lib.hid c40
      clear c40
      clear c0' c1' c2' c3' c4' hr ha hbs hl1 hl2 hl3 hl4 hl5 hv hl hih hx hct hcle hcb hbM hxe hg hRN hAN hBN hxl hxp hxc hsp hv4 hvn hsb HS0 hSB
      by_cases h4 : kind = 4
      · subst h4
        have hvs := HV4.out rfl
        have HVS := Lib.hid hvs
        have hln := HL.out
        have honl : ON ≤ 1099511627776 := by rw [HON.out]; omega
        have honl' : ON + 1 ≤ 1099511627776 := by rw [HON.out]; omega
        obtain ⟨X, hown, hrow⟩ := hC.out.own.own
        have OWR := Lib.hid (show wr.ownsRow B 56 5 (.slice oa ON oc) ON X by rw [HON.out]; exact hown)
        have ORW := Lib.hid hrow
        clear hvs HV4 HVN hown hrow
        go_wp2_with (at_builtin; refine wpList_append_lies _ rfl _ _ 22 rfl B 56 j0 _ 5 96 Tryz.underlying22 hj hjz0 hjz1 hjz2 rfl (by decide) _ _ _ rfl (At.own_ext OWR.out ((Ext.refl _).alloc _)) ⟨wr.heap.size, 0, none⟩ 1 1 [.int .i64 4, .string nm, .slice r RN rc, .slice a AN ac, .slice b' BN bc] rfl rfl ?c1 ?c2 (by decide) ?c3 ?c4 ?c5 _ rfl ?_)
        case c1 => exact World.news_of_block (cs := #[.int .i64 4, .string nm, .slice r RN rc, .slice a AN ac, .slice b' BN bc]) (t := 56) (fr := (0, 0)) (heap_alloc_new wr _)
        case c2 => intro u hu; simp at hu; rcases hu with rfl | rfl | rfl | rfl | rfl <;> rfl
        case c3 => unfold maxLen; omega
        case c4 => omega
        case c5 => have := hC.out.z; simp; omega
        intro g7 c7 w7 hown1 hgrow _ _
        have HX7 := Lib.hid (ext_grown (HX.out.alloc (.cells #[.int .i64 4, .string nm, .slice r RN rc, .slice a AN ac, .slice b' BN bc] 56)) hgrow (fun k e => by have := (OWR.out.lt k e).1; have := HB.out; omega))
        have HZ7 := Lib.hid (Nat.le_trans ((Ext.refl wr).alloc (.cells #[.int .i64 4, .string nm, .slice r RN rc, .slice a AN ac, .slice b' BN bc] 56)).size hgrow.size)
        have OW7 : Hid (SetRow w0 nn B (O ++ [.mk 4 nm rs al body]) (.slice (some ⟨g7, 0, none⟩) (ON + 1) c7) w7) := Lib.hid ⟨_, by rw [List.length_append, ← HON.out]; exact hown1, StmsC.snoc HSP.out rfl O X ORW.out⟩
        clear hown1 hgrow
        have hon2 : (O ++ [Stm.mk 4 nm rs al body]).length = ON + 1 := by rw [HON.out]; simp
        have hih := HIB.out (O ++ [.mk 4 nm rs al body]) (some ⟨g7, 0, none⟩) c7 w7 HX7.out (Nat.le_trans hC.out.z HZ7.out) (by rw [hon2, HON.out]; omega) (by rw [hon2]; exact OW7.out)
        rw [hon2] at hih
        obtain ⟨O2, hO2⟩ : ∃ O2, O2 = O ++ [.mk 4 nm rs al body] ++ SB := ⟨_, rfl⟩
        have ho2l : O2.length ≤ O.length + 1 + cntL body := by rw [hO2, List.length_append, hon2, HON.out]; have := HSB.out; omega
        have hvs2 := HVS.out
        rw [← hO2] at hih hvs2
        have HIH2 := Lib.hid hih; have HV2 := Lib.hid hvs2; have HO2 := Lib.hid ho2l
        have s74 : w7.cell? ⟨g, o + i * 5 + 4, none⟩ = some (.slice b' BN bc) := HX7.out.cell C40.out
        clear hih hon2 c0 c1 c2 c3 c4 hO2 ho2l hvs2
        go_wp2_with (go_at_call 19; refine Calls.mono (by with_reducible exact HIH2.out) ?_; rintro e w8 ⟨⟨a8, c8, rfl, ow8⟩, x8, z8'⟩; have OW8 := Lib.hid ow8; have X8 := Lib.hid x8; have Z8 := Lib.hid (show w7.heap.size ≤ w8.heap.size from z8'); clear ow8 x8 z8')
        go_roundw
        case rel => exact ⟨i + 1, O2, a8, c8, _, by omega, by go_num, rfl, Lib.hid rfl, Lib.hid ⟨HV2.out, OW8.out, X8.out, Nat.le_trans hC.out.z (Nat.le_trans HZ7.out Z8.out), by have := HO2.out; omega, Nat.le_trans hC.out.s (Nat.le_trans HZ7.out Z8.out)⟩⟩
        case measure => simp [RowKit.intOf]; omega
      · have f4 : (kind == 4) = false := by rw [beq_eq_false_iff_ne]; exact h4
        have f4' : (kind != 4) = true := by rw [bne, f4]; rfl
        have hvs := HVN.out h4
        have hcl := HIB.out O oa oc wr HX.out hC.out.z (by have := HL.out; omega) hC.out.own
        obtain ⟨O2, hO2⟩ : ∃ O2, O2 = O ++ SB := ⟨_, rfl⟩
        have ho2l : O2.length ≤ O.length + cntL body := by rw [hO2, List.length_append]; have := HSB.out; omega
        rw [← hO2] at hvs hcl
        have HVS := Lib.hid hvs; have HCL := Lib.hid hcl; have HO2 := Lib.hid ho2l
        have hon := HON.out
        subst hon
        clear hvs hcl hO2 ho2l HV4 HVN
        go_wp2_with (go_at_call 19; refine Calls.mono (by with_reducible exact HCL.out) ?_; rintro e w5 ⟨⟨a5, c5, rfl, ow5⟩, x5, z5⟩; have OW5 := Lib.hid ow5; have X5 := Lib.hid x5; have Z5 := Lib.hid z5; clear ow5 x5 z5)
        go_roundw
        case rel => exact ⟨i + 1, O2, _, _, O2.length, by omega, by go_num, rfl, Lib.hid rfl, Lib.hid ⟨HVS.out, OW5.out, X5.out, Nat.le_trans hC.out.z Z5.out, by have := HO2.out; have := HL.out; omega, Nat.le_trans hC.out.s Z5.out⟩⟩
        case measure => simp [RowKit.intOf]; omega
    · have hr : Hid (V = O) := Lib.hid (by rw [hC.out.v, List.drop_eq_nil_of_le (by rw [← HN.out]; omega), setsL_nil, List.append_nil])
      have b1 : ¬ (i : Int) < (N : Int) := by omega
      have hon := HON.out
      subst hon
      go_wp2
      go_returns
      rw [hr.out]
      exact ⟨⟨_, _, rfl, hC.out.own⟩, hC.out.x, hC.out.s⟩
theorem sets_all (w0 : World) (B nn : Nat) (hnn : nn ≤ w0.heap.size) (hB : w0.heap.size ≤ B) : ∀ M, SetsC w0 B nn M := fun M => by
  induction M using Nat.strongRecOn with
  | _ M ih => exact sets_step w0 B nn M hnn hB ih
/-- sets: its row lies in new blocks, what it tells of in old ones. -/
theorem sets_any (L : List Stm) (b : Option Addr) (cap nn : Nat) (w : World) (hn : nn ≤ w.heap.size) (h : StmsAt nn w b L) (hs : cntL L ≤ 1099511627776) (hlen : L.length ≤ maxLen) :
    Calls Tryz.prog 19 #[.slice none 0 0, .slice b L.length cap] w fun e w' => (∃ a c, e = .returned (.slice a (setsL L).length c) ∧ StmsAt w'.heap.size w' a (setsL L)) ∧ Ext w w' := by
  refine (sets_all w w.heap.size nn hn (Nat.le_refl _) (cntL L) L b cap [] none 0 w (Nat.le_refl _) h hlen (Ext.refl _) (Nat.le_refl _) (by simpa using hs) ⟨[], World.ownsRow_nil _ _ _ _, rfl⟩).mono ?_
  rintro e w' ⟨⟨a, c, rfl, hr⟩, x, -⟩
  obtain ⟨X, h1, h2⟩ := hr.own
  rw [List.nil_append] at h1 h2 ⊢
  obtain ⟨a2, c2, e2, hp, -, -⟩ := own_stms (ok' := fun _ => True) h1 (StmsC.keep (kept_ext x) (fun g hk _ => hk) _ X h2) (fun g hk => trivial) (fun g hk => trivial)
  injection e2 with e2 e3 e4
  subst e2
  exact ⟨⟨_, c, rfl, StmsP.at (ok := (· < w'.heap.size)) (fun g h => h) _ a (StmsP.keep (ok' := (· < w'.heap.size)) (fun _ _ _ => rfl) (fun g _ hlt => hlt) _ a hp)⟩, x⟩
end Go.Proofs.YtnancphlkbfglaaGreatDoor.Nm

/- What the law's trees hold: plain. -/
namespace Go.Proofs.YtnancphlkbfglaaGreatDoor.Nm
open Go.RowKit Go.Lib Fx Lx Tr At Pa

mutual
theorem mem_bareS : ∀ (x : Stm) (lev : Nat), ∀ q ∈ flatS lev (bareS x), ∃ q' ∈ flatS lev x, q.1.name = q'.1.name ∧ q.1.refs = q'.1.refs ∧ q.1.attrs = q'.1.attrs
  | .mk k n r a b, lev, q, hq => by
    rw [bareS, flatS] at hq
    rw [flatS]
    rcases List.mem_cons.1 hq with rfl | hq
    · exact ⟨_, List.mem_cons_self, rfl, rfl, rfl⟩
    · obtain ⟨q', h1, h2⟩ := mem_bareL b (if k = 5 then lev + 1 else lev) q hq
      exact ⟨q', List.mem_cons_of_mem _ h1, h2⟩
theorem mem_bareL : ∀ (L : List Stm) (lev : Nat), ∀ q ∈ flatL lev (bareL L), ∃ q' ∈ flatL lev L, q.1.name = q'.1.name ∧ q.1.refs = q'.1.refs ∧ q.1.attrs = q'.1.attrs
  | [], lev, q, hq => by rw [bareL_nil, flatL_nil] at hq; cases hq
  | x :: r, lev, q, hq => by
    rw [flatL_cons]
    rw [bareL_cons] at hq
    split at hq
    · obtain ⟨q', h1, h2⟩ := mem_bareL r lev q hq
      exact ⟨q', List.mem_append_right _ h1, h2⟩
    · rw [flatL_cons] at hq
      rcases List.mem_append.1 hq with hq | hq
      · obtain ⟨q', h1, h2⟩ := mem_bareS x lev q hq
        exact ⟨q', List.mem_append_left _ h1, h2⟩
      · obtain ⟨q', h1, h2⟩ := mem_bareL r lev q hq
        exact ⟨q', List.mem_append_right _ h1, h2⟩
end
mutual
theorem mem_setsS : ∀ (x : Stm) (lev : Nat), ∀ y ∈ setsS x, ∃ q ∈ flatS lev x, q.1 = y
  | .mk k n r a b, lev, y, hy => by
    rw [setsS] at hy
    rw [flatS]
    rcases List.mem_append.1 hy with hy | hy
    · split at hy
      · rw [List.mem_singleton.1 hy]
        exact ⟨_, List.mem_cons_self, rfl⟩
      · cases hy
    · obtain ⟨q, h1, h2⟩ := mem_setsL b (if k = 5 then lev + 1 else lev) y hy
      exact ⟨q, List.mem_cons_of_mem _ h1, h2⟩
theorem mem_setsL : ∀ (L : List Stm) (lev : Nat), ∀ y ∈ setsL L, ∃ q ∈ flatL lev L, q.1 = y
  | [], lev, y, hy => by rw [setsL_nil] at hy; cases hy
  | x :: r, lev, y, hy => by
    rw [flatL_cons]
    rw [setsL_cons] at hy
    rcases List.mem_append.1 hy with hy | hy
    · obtain ⟨q, h1, h2⟩ := mem_setsS x lev y hy
      exact ⟨q, List.mem_append_left _ h1, h2⟩
    · obtain ⟨q, h1, h2⟩ := mem_setsL r lev y hy
      exact ⟨q, List.mem_append_right _ h1, h2⟩
end
def fwB (L : List Stm) : Prop := ∀ p ∈ flatL 0 L, p.1.refs.length ≤ 10 ∧ p.1.attrs.length ≤ 20
theorem bare_ok {L : List Stm} (hb : BigL L) (hf : fwB L) : BigL (bareL L) ∧ fwB (bareL L) := by
  constructor
  · intro q hq
    obtain ⟨q', h1, e1, e2, e3⟩ := mem_bareL L 0 q hq
    have h := hb q' h1
    unfold BigS at h ⊢
    rw [e1, e2, e3]
    exact h
  · intro q hq
    obtain ⟨q', h1, e1, e2, e3⟩ := mem_bareL L 0 q hq
    rw [e2, e3]
    exact hf q' h1
theorem bare_cnt (L : List Stm) : cntL (bareL L) ≤ cntL L := by
  rw [← cntL_flat 0, ← cntL_flat 0]
  exact (flatL_bare L 0).1
theorem sets_ok {L : List Stm} (hb : BigL L) (hf : fwB L) (hk : ∀ y ∈ setsL L, y.kind = 4 ∧ y.body = []) : BigL (setsL L) ∧ fwB (setsL L) ∧ cntL (setsL L) ≤ cntL L := by
  have hfl := flat_sets 0 _ hk
  have key : ∀ q ∈ flatL 0 (setsL L), ∃ q' ∈ flatL 0 L, q'.1 = q.1 := fun q hq => by
    rw [hfl] at hq
    obtain ⟨y, hy, rfl⟩ := List.mem_map.1 hq
    exact mem_setsL L 0 y hy
  refine ⟨fun q hq => ?_, fun q hq => ?_, ?_⟩
  · obtain ⟨q', h1, e⟩ := key q hq
    rw [← e]; exact hb q' h1
  · obtain ⟨q', h1, e⟩ := key q hq
    rw [← e]; exact hf q' h1
  · rw [← cntL_flat 0, hfl, List.length_map]
    exact setsL_cnt L
theorem build_valid {nm : ByteArray} {dir : Bool} {L : List Stm} {g : Gr} (h : buildT nm dir L = .ok g) : validE nm L = 0 := by
  unfold buildT at h
  split at h
  · cases h
  · rename_i hv; exact Classical.not_not.1 hv
theorem sets_kinds {nm : ByteArray} {L : List Stm} (hv : validE nm L = 0) : ∀ y ∈ setsL L, y.kind = 4 ∧ y.body = [] := by
  obtain ⟨h1, h2, h3⟩ := valid_parts hv
  exact fun y hy => ⟨((sets_formL L 0 h3).2 y hy).1, ((sets_formL L 0 h3).2 y hy).2.1⟩
end Go.Proofs.YtnancphlkbfglaaGreatDoor.Nm

/- The document's Same of graphs: true of equal ones. -/
namespace Go.Proofs.YtnancphlkbfglaaGreatDoor.Nm
open Go.RowKit Go.Lib Fx Lx At

set_option maxHeartbeats 8000000 in
set_option maxRecDepth 100000 in
theorem same_true (g : Gr) (va vb : Value) (w : World) (ha : GrIn w va g) (hb : GrIn w vb g) (hN : g.N.length ≤ 1000000) (hE : g.E.length ≤ 1000000) (hC : g.C.length ≤ 1000000) (hP : ∀ x ∈ g.N, x.ports.length ≤ 1000000) :
    Calls Tryz.prog 12 #[va, vb] w fun e w' => e = .returned (.bool true) ∧ Ext w w' := by
  obtain ⟨na, nac, ea, eac, ca, cac, rfl, a1, a2, a3⟩ := ha
  obtain ⟨nb, nbc, eb, ebc, cb, cbc, rfl, b1, b2, b3⟩ := hb
  obtain ⟨nm, dir, NN, EE, CC⟩ := g
  dsimp only at *
  obtain ⟨n, hn⟩ : ∃ n, n = NN.length := ⟨_, rfl⟩
  obtain ⟨m, hm⟩ : ∃ n, n = EE.length := ⟨_, rfl⟩
  obtain ⟨q, hq⟩ : ∃ n, n = CC.length := ⟨_, rfl⟩
  rw [← hn] at hN ⊢; rw [← hm] at hE ⊢; rw [← hq] at hC ⊢
  have A1 := Lib.hid a1; have A2 := Lib.hid a2; have A3 := Lib.hid a3; have B1 := Lib.hid b1; have B2 := Lib.hid b2; have B3 := Lib.hid b3
  have HN := Lib.hid hn; have HM := Lib.hid hm; have HQ := Lib.hid hq; have HP := Lib.hid hP
  clear a1 a2 a3 b1 b2 b3 hn hm hq hP
  go_enter Tryz.func12, Tryz.ntmps12
  go_wp2
  obtain ⟨w1, hw1⟩ : ∃ w1, w1 = (w.alloc (.cells #[.string nm, .bool dir, .slice na n nac, .slice ea m eac, .slice ca q cac] 31)).alloc (.cells #[.string nm, .bool dir, .slice nb n nbc, .slice eb m ebc, .slice cb q cbc] 31) := ⟨_, rfl⟩
  have X1 : Hid (Ext ((w.alloc (.cells #[.string nm, .bool dir, .slice na n nac, .slice ea m eac, .slice ca q cac] 31)).alloc (.cells #[.string nm, .bool dir, .slice nb n nbc, .slice eb m ebc, .slice cb q cbc] 31)) w1) := Lib.hid (by rw [hw1]; exact Ext.refl _)
  have XW : Hid (Ext w w1) := Lib.hid ((((Ext.refl _).alloc _).alloc _).trans X1.out)
  rw [← hw1]
  clear hw1
  go_loopw [5] (fun i' wr => ∃ k : Nat, k ≤ n ∧ i' = .int .i64 k ∧ Ext w1 wr) (fun i' _ => n - (RowKit.intOf i').toNat)
  case atStart => exact ⟨0, Nat.zero_le _, rfl, Ext.refl _⟩
  case round =>
    obtain ⟨k, hk, rfl, hx⟩ := hrel
    obtain ⟨bA, bB⟩ := boxes (X1.out.trans hx)
    have e0 := bA 2 _ rfl
    have e1 := bB 2 _ rfl
    have e2 := bA 3 _ rfl
    have e3 := bB 3 _ rfl
    clear bA bB
    by_cases hlt : k < n
    · have hkN : k < NN.length := by rw [← HN.out]; exact hlt
      obtain ⟨g1, o1, p1, c1, rfl, x0, x1, x2, x3, x4, x5, x6⟩ := (A1.out.ext (XW.out.trans hx)) k hkN
      obtain ⟨g2, o2, p2, c2, rfl, y0, y1, y2, y3, y4, y5, y6⟩ := (B1.out.ext (XW.out.trans hx)) k hkN
      have hpl := HP.out _ (List.getElem_mem hkN)
      have SN := fun (w5 : World) (x : Ext wr w5) => sameNode_true NN[k].name NN[k].label NN[k].w NN[k].h NN[k].c NN[k].ports p1 p2 c1 c2 w5 (x6.ext x) (y6.ext x) (by omega)
      obtain ⟨z, hz⟩ : ∃ z, z = NN[k] := ⟨_, rfl⟩
      rw [← hz] at x0 x1 x2 x3 x4 x5 y0 y1 y2 y3 y4 y5 SN
      obtain ⟨z0, z1, z2, z3, z4, z5⟩ := z
      dsimp only at *
      obtain ⟨pl, hpl'⟩ : ∃ n, n = z5.length := ⟨_, rfl⟩
      rw [← hpl'] at x5 y5 SN
      have HSN := Lib.hid SN
      have b0 : (0 : Int) ≤ (k : Int) := by omega
      have b1 : (k : Int) < (n : Int) := by omega
      clear hz x6 y6 hpl SN hpl'
      go_wp2_with fail
      go_cut [65] from 47 to 65 (fun s65 wx => s65 = .bool false ∧ Hid (Ext wr wx))
      case first =>
        go_region_with (go_at_call 34; refine (HSN.out _ (by first | exact (Ext.refl _).drew | exact Ext.refl _)).mono ?_; rintro e w6 ⟨rfl, x6⟩)
        all_goals go_wp2
        all_goals go_meet
        all_goals exact ⟨rfl, Lib.hid (((Ext.refl _).drew).trans x6)⟩
      case rest =>
        obtain ⟨rfl, hxd⟩ := hcut
        have hx2 := hx.trans hxd.out
        go_wp2
        go_roundw
        case rel => exact ⟨k + 1, by omega, by go_num, hx2⟩
        case measure => simp [RowKit.intOf]; omega
    · have hx2 := Lib.hid hx
      clear hx
      obtain ⟨w2, hw2⟩ : ∃ w2 : World, w2 = wr := ⟨_, rfl⟩
      subst hw2
      go_wp2
      go_loopw [6] (fun i' wr => ∃ k : Nat, k ≤ m ∧ i' = .int .i64 k ∧ Ext w1 wr) (fun i' _ => m - (RowKit.intOf i').toNat)
      case atStart => exact ⟨0, Nat.zero_le _, rfl, hx2.out⟩
      case round =>
        clear e0 e1 e2 e3
        obtain ⟨j, hj, rfl, hx⟩ := hrel
        obtain ⟨bA, bB⟩ := boxes (X1.out.trans hx)
        have e2 := bA 3 _ rfl
        have e3 := bB 3 _ rfl
        have e4 := bA 4 _ rfl
        have e5 := bB 4 _ rfl
        clear bA bB
        by_cases hlj : j < m
        · have hjE : j < EE.length := by rw [← HM.out]; exact hlj
          obtain ⟨g1, o1, rfl, x0, x1, x2, x3, x4, x5, x6⟩ := (A2.out.ext (XW.out.trans hx)) j hjE
          obtain ⟨g2, o2, rfl, y0, y1, y2, y3, y4, y5, y6⟩ := (B2.out.ext (XW.out.trans hx)) j hjE
          obtain ⟨z, hz⟩ : ∃ z, z = EE[j] := ⟨_, rfl⟩
          rw [← hz] at x0 x1 x2 x3 x4 x5 x6 y0 y1 y2 y3 y4 y5 y6
          obtain ⟨z0, z1, z2, z3, z4, z5, z6⟩ := z
          dsimp only at *
          have b0 : (0 : Int) ≤ (j : Int) := by omega
          have b1 : (j : Int) < (m : Int) := by omega
          clear hz
          go_wp2_with fail
          go_quiet (fail)
          go_wp2
          go_roundw
          case rel => exact ⟨j + 1, by omega, by go_num, by first | exact hx.drewN _ | exact hx.drew⟩
          case measure => simp [RowKit.intOf]; omega
        · have hx3 := Lib.hid hx
          clear hx
          obtain ⟨w3, hw3⟩ : ∃ w3 : World, w3 = wr := ⟨_, rfl⟩
          subst hw3
          go_wp2
          go_loopw [7] (fun i' wr => ∃ k : Nat, k ≤ q ∧ i' = .int .i64 k ∧ Ext w1 wr) (fun i' _ => q - (RowKit.intOf i').toNat)
          case atStart => exact ⟨0, Nat.zero_le _, rfl, hx3.out⟩
          case round =>
            clear e2 e3 e4 e5
            obtain ⟨l, hl, rfl, hx⟩ := hrel
            obtain ⟨bA, bB⟩ := boxes (X1.out.trans hx)
            have e4 := bA 4 _ rfl
            have e5 := bB 4 _ rfl
            clear bA bB
            by_cases hll : l < q
            · have hlC : l < CC.length := by rw [← HQ.out]; exact hll
              obtain ⟨g1, o1, rfl, x0, x1⟩ := (A3.out.ext (XW.out.trans hx)) l hlC
              obtain ⟨g2, o2, rfl, y0, y1⟩ := (B3.out.ext (XW.out.trans hx)) l hlC
              obtain ⟨s, hs⟩ : ∃ s, s = CC[l].1 := ⟨_, rfl⟩
              obtain ⟨z, hz⟩ : ∃ z, z = CC[l].2 := ⟨_, rfl⟩
              rw [← hs] at x0 y0; rw [← hz] at x1 y1
              have b0 : (0 : Int) ≤ (l : Int) := by omega
              have b1 : (l : Int) < (q : Int) := by omega
              clear hs hz
              go_wp2_with fail
              go_quiet (fail)
              go_wp2
              go_roundw
              case rel => exact ⟨l + 1, by omega, by go_num, by first | exact hx.drewN _ | exact hx.drew⟩
              case measure => simp [RowKit.intOf]; omega
            · go_wp2
              go_ret
              exact ⟨rfl, XW.out.trans hx⟩
end Go.Proofs.YtnancphlkbfglaaGreatDoor.Nm

/- NormalizeIgnores, walked. -/
namespace Go.Proofs.YtnancphlkbfglaaGreatDoor.Nm
open Go.RowKit Go.Sort Go.Lib Go.Shelf Fx Lx Tr At Pa

/-- A graph as Build hands it back. -/
def GrV (g : Gr) (NL NE NC : Nat) (n e c : Option Addr) (nc ec cc : Nat) : Value := .agg #[.string g.name, .bool g.dir, .slice n NL nc, .slice e NE ec, .slice c NC cc]
theorem buildR_ok {g : Gr} {e : Ending} {w : World} (h : BuildR (.ok g) e w) : ∃ n nc ed ec c cc, e = .returned (.tuple #[.agg #[.string g.name, .bool g.dir, .slice n g.N.length nc, .slice ed g.E.length ec, .slice c g.C.length cc], .int .i64 0]) ∧ GrIn w (.agg #[.string g.name, .bool g.dir, .slice n g.N.length nc, .slice ed g.E.length ec, .slice c g.C.length cc]) g ∧ GrSm g := by
  obtain ⟨v, rfl, h1, -, h3⟩ := h
  have h2 := h1
  obtain ⟨n, nc, e, ec, c, cc, rfl, -⟩ := h2
  exact ⟨n, nc, e, ec, c, cc, rfl, h1, h3⟩
theorem same_true' (g : Gr) (va vb : Value) (w : World) (ha : GrIn w va g) (hb : GrIn w vb g) (hs : GrSm g) : Calls Tryz.prog 12 #[va, vb] w fun e w' => e = .returned (.bool true) ∧ Ext w w' :=
  same_true g va vb w ha hb hs.2.1 hs.2.2.1 hs.2.2.2.1 (fun x hx => (hs.2.2.2.2.1 x hx).2.2.1)
theorem noint {w : World} {gb : Nat} (hb : w.heap[gb]? = some (.cells #[.string ⟨#[]⟩, .bool false, .slice none 0 0, .slice none 0 0, .slice none 0 0] 31 (0, 0))) {g j : Nat} {x : Int} (h : w.cell? ⟨g, j, none⟩ = some (.int .i64 x)) : g ≠ gb := by
  rintro rfl
  rw [Lib.cell_of_heap hb] at h
  rcases j with _ | _ | _ | _ | _ | j <;> simp at h
theorem cell_set5 {w : World} {gb g j : Nat} {x : Value} (hg : g ≠ gb) (h : w.cell? ⟨g, j, none⟩ = some x) (v0 v1 v2 v3 v4 : Value) :
    (((((w.setCell ⟨gb, 0, none⟩ v0).setCell ⟨gb, 1, none⟩ v1).setCell ⟨gb, 2, none⟩ v2).setCell ⟨gb, 3, none⟩ v3).setCell ⟨gb, 4, none⟩ v4).cell? ⟨g, j, none⟩ = some x := by
  have key : ∀ (w : World) (i : Nat) (v : Value), w.cell? ⟨g, j, none⟩ = some x → (w.setCell ⟨gb, i, none⟩ v).cell? ⟨g, j, none⟩ = some x := fun w i v h => by
    rw [World.cell?_of_block (w := w) (a := ⟨g, j, none⟩) (Below.heap_setCell _ _ _ _ (fun e => hg (by simpa using e)))]
    exact h
  exact key _ _ _ (key _ _ _ (key _ _ _ (key _ _ _ (key _ _ _ h))))
theorem GrIn.box {w : World} {gb : Nat} {v : Value} {g : Gr} (h : GrIn w v g) (hb : w.heap[gb]? = some (.cells #[.string ⟨#[]⟩, .bool false, .slice none 0 0, .slice none 0 0, .slice none 0 0] 31 (0, 0))) (v0 v1 v2 v3 v4 : Value) :
    GrIn (((((w.setCell ⟨gb, 0, none⟩ v0).setCell ⟨gb, 1, none⟩ v1).setCell ⟨gb, 2, none⟩ v2).setCell ⟨gb, 3, none⟩ v3).setCell ⟨gb, 4, none⟩ v4) v g := by
  obtain ⟨n, nc, e, ec, c, cc, hv, h1, h2, h3⟩ := h
  refine ⟨n, nc, e, ec, c, cc, hv, fun k hk => ?_, fun k hk => ?_, fun k hk => ?_⟩
  · obtain ⟨g', o, p, c', ha, k0, k1, k2, k3, k4, k5, k6⟩ := h1 k hk
    have hn := noint hb k2
    refine ⟨g', o, p, c', ha, cell_set5 hn k0 _ _ _ _ _, cell_set5 hn k1 _ _ _ _ _, cell_set5 hn k2 _ _ _ _ _, cell_set5 hn k3 _ _ _ _ _, cell_set5 hn k4 _ _ _ _ _, cell_set5 hn k5 _ _ _ _ _, fun i hi => ?_⟩
    obtain ⟨g2, o2, e2, q0, q1⟩ := k6 i hi
    have hn2 := noint hb q1
    exact ⟨g2, o2, e2, cell_set5 hn2 q0 _ _ _ _ _, cell_set5 hn2 q1 _ _ _ _ _⟩
  · obtain ⟨g', o, ha, k0, k1, k2, k3, k4, k5, k6⟩ := h2 k hk
    have hn := noint hb k0
    exact ⟨g', o, ha, cell_set5 hn k0 _ _ _ _ _, cell_set5 hn k1 _ _ _ _ _, cell_set5 hn k2 _ _ _ _ _, cell_set5 hn k3 _ _ _ _ _, cell_set5 hn k4 _ _ _ _ _, cell_set5 hn k5 _ _ _ _ _, cell_set5 hn k6 _ _ _ _ _⟩
  · obtain ⟨g', o, ha, k0, k1⟩ := h3 k hk
    have hn := noint hb k1
    exact ⟨g', o, ha, cell_set5 hn k0 _ _ _ _ _, cell_set5 hn k1 _ _ _ _ _⟩
set_option maxHeartbeats 8000000 in
set_option maxRecDepth 100000 in
theorem ign_walk (nm : ByteArray) (dir : Bool) (b : Option Addr) (L : List Stm) (cap : Nat) (w : World) (h : StmsAt w.heap.size w b L) (hlen : L.length ≤ maxLen) (hbig : BigL L) (hnm : nm.size ≤ 9223372036854775807) (he : Env w) :
    Calls Tryz.prog 5 #[.agg #[.string nm, .bool dir, .slice b L.length cap]] w fun e w' => e = .returned (.bool true) ∧ Ext w w' := by
  have hfw := fun (w5 : World) (x : Ext w w5) => few_any (sizeL L) L b cap w.heap.size 0 w5 (Nat.le_refl _) hlen (by omega) x.size (StmsAt.below x L h)
  have hawk := fun (w5 : World) (x : Ext w w5) => awake_any w5 (he.ext x)
  have hbd := fun (hf : fewB 0 L = true) (w5 : World) (x : Ext w w5) => build_any nm dir b L cap w.heap.size w5 x.size (StmsAt.below x L h) hlen (few_bounds hf).1 hbig hnm (few_bounds hf).2 (he.ext x)
  have hop := fun (hf : fewB 0 L = true) (w5 : World) (x : Ext w w5) => optsP_any nm dir b L cap w.heap.size w5 x.size (StmsAt.below x L h) hlen (few_bounds hf).1 hbig hnm (few_bounds hf).2 (he.ext x)
  have hbr := fun (hf : fewB 0 L = true) (w5 : World) (x : Ext w w5) => bare_any L b cap w.heap.size w5 x.size (StmsAt.below x L h) (few_bounds hf).1 hlen
  have hst := fun (hf : fewB 0 L = true) (w5 : World) (x : Ext w w5) => sets_any L b cap w.heap.size w5 x.size (StmsAt.below x L h) (few_bounds hf).1 hlen
  have hb2 := fun (hf : fewB 0 L = true) (g : Gr) (hg : buildT nm dir L = .ok g) (a : Option Addr) (c : Nat) (w5 : World) (x : Ext w w5) (hs : StmsAt w5.heap.size w5 a (bareL L)) =>
    show Calls Tryz.prog 10 #[.agg #[.string nm, .bool dir, .slice a (bareL L).length c]] w5 fun e w' => BuildR (.ok g) e w' ∧ Ext w5 w' by
      have hv := build_valid hg
      have hok := ok_valid hv (few_bounds hf).2
      have h1 := bare_ok hbig (few_bounds hf).2
      have h2 := build_any nm dir a (bareL L) c w5.heap.size w5 (Nat.le_refl _) hs (Nat.le_trans (bareL_len L) hlen) (Nat.le_trans (bare_cnt L) (few_bounds hf).1) h1.1 hnm h1.2 (he.ext x)
      rw [build_bare hok.2.2 hg] at h2
      exact h2
  have ho1 := fun (hf : fewB 0 L = true) (g : Gr) (hg : buildT nm dir L = .ok g) =>
    show ∃ o, optionsT nm L = .ok o ∧ ∀ (a : Option Addr) (c : Nat) (w5 : World), Ext w w5 → StmsAt w5.heap.size w5 a (setsL L) → Calls Tryz.prog 18 #[.agg #[.string ⟨#[104]⟩, .bool false, .slice a (setsL L).length c]] w5 fun e w' => e = .returned (.tuple #[opV o, .int .i64 0]) ∧ Ext w5 w' by
      have hv := build_valid hg
      have hok := ok_valid hv (few_bounds hf).2
      obtain ⟨o, k1, k2⟩ := options_sets (hn := ⟨#[104]⟩) hok.2.2 (by kernel_rfl) hg
      refine ⟨o, k1, fun a c w5 x hs => ?_⟩
      obtain ⟨h1, h2, h3⟩ := sets_ok hbig (few_bounds hf).2 (sets_kinds hv)
      have h4 := optsP_any ⟨#[104]⟩ false a (setsL L) c w5.heap.size w5 (Nat.le_refl _) hs (Nat.le_trans (setsL_cnt L) (by unfold maxLen; omega)) (Nat.le_trans h3 (few_bounds hf).1) h1 (by decide) h2 (he.ext x)
      rw [k2] at h4
      exact h4
  obtain ⟨F, hF⟩ : ∃ F, F = fewB 0 L := ⟨_, rfl⟩
  obtain ⟨R, hR⟩ : ∃ R, R = buildT nm dir L := ⟨_, rfl⟩
  rw [← hF] at hop hbd hbr hst hb2 ho1
  simp only [← hF] at hfw
  simp only [← hR] at hbd hb2 ho1
  obtain ⟨N, hN⟩ : ∃ N, N = L.length := ⟨_, rfl⟩
  simp only [← hN] at hfw hop hbd hbr hst
  rw [← hN]
  obtain ⟨BL, hBL⟩ : ∃ N, N = (bareL L).length := ⟨_, rfl⟩
  obtain ⟨SL, hSL⟩ : ∃ N, N = (setsL L).length := ⟨_, rfl⟩
  simp only [← hBL] at hbr hb2
  simp only [← hSL] at hst ho1
  have HFW := Lib.hid hfw; have HAWK := Lib.hid hawk; have HOP := Lib.hid hop; have HBD := Lib.hid hbd; have HBR := Lib.hid hbr; have HST := Lib.hid hst; have HB2 := Lib.hid hb2; have HO1 := Lib.hid ho1
  have X0 : Hid (Ext w (w.alloc (.cells #[.string nm, .bool dir, .slice b N cap] 24))) := Lib.hid ((Ext.refl _).alloc _)
  clear hfw hawk hop hbd hbr hst hb2 ho1 hF hR hN hBL hSL h hlen hbig hnm he
  cases F with
  | false =>
    go_enter Tryz.func5, Tryz.ntmps5
    go_wp2_with (first
      | (go_at_call 8; refine Calls.mono (by exact HFW.out _ X0.out) ?_; rintro e w1 ⟨rfl, x1⟩; have X1 := Lib.hid (X0.out.trans x1))
      | (go_at_call 9; refine Calls.mono (by with_reducible exact HAWK.out _ X1.out) ?_; rintro e w2 ⟨rfl, x2⟩))
    go_returns
    exact ⟨rfl, X1.out.trans x2⟩
  | true =>
    have HP := Lib.hid (HBD.out rfl)
    cases R with
    | error er =>
      clear HO1 HB2 HST HBR HOP HBD
      go_enter Tryz.func5, Tryz.ntmps5
      go_wp2_with (first
        | (go_at_call 8; refine Calls.mono (by exact HFW.out _ X0.out) ?_; rintro e w1 ⟨rfl, x1⟩; have X1 := Lib.hid (X0.out.trans x1); have HB1 := Lib.hid (At.heap_ext (heap_alloc_new w _) x1); have t0 : w1.cell? ⟨w.heap.size, 0, none⟩ = some (.string nm) := (by rw [Lib.cell_of_heap HB1.out]; rfl); have t1 : w1.cell? ⟨w.heap.size, 1, none⟩ = some (.bool dir) := (by rw [Lib.cell_of_heap HB1.out]; rfl); have t2 : w1.cell? ⟨w.heap.size, 2, none⟩ = some (.slice b N cap) := (by rw [Lib.cell_of_heap HB1.out]; rfl))
        | (go_at_call 10; refine Calls.mono (by with_reducible exact HP.out _ X1.out) ?_; rintro e w2 ⟨⟨rfl, her⟩, x2⟩; obtain ⟨g1, g2⟩ := nfacts her; have X2 := Lib.hid (X1.out.trans x2); unfold gr0V)
        | (go_at_call 9; refine Calls.mono (by with_reducible exact HAWK.out _ (X2.out.alloc _)) ?_; rintro e w4 ⟨rfl, x4⟩))
      go_returns
      exact ⟨rfl, (X2.out.alloc _).trans x4⟩
    | ok g =>
      obtain ⟨o, hro, ho2⟩ := HO1.out rfl g rfl
      have hopo := HOP.out rfl
      rw [hro] at hopo
      have HPO := Lib.hid (show ∀ (w5 : World), Ext w w5 → Calls Tryz.prog 18 #[.agg #[.string nm, .bool dir, .slice b N cap]] w5 fun e w' => e = .returned (.tuple #[opV o, .int .i64 0]) ∧ Ext w5 w' from hopo)
      have hp2 := HB2.out rfl g rfl
      have HP2 := Lib.hid (fun (a : Option Addr) (c : Nat) (w5 : World) (x : Ext w w5) (hs : StmsAt w5.heap.size w5 a (bareL L)) => (hp2 a c w5 x hs).mono (fun e w' h => And.intro (buildR_ok h.1) h.2))
      have HP1 := Lib.hid (fun (w5 : World) (x : Ext w w5) => (HP.out w5 x).mono (fun e w' h => And.intro (buildR_ok h.1) h.2))
      obtain ⟨m, oa, ob, oc, od⟩ := o
      unfold opV at HPO ho2
      dsimp only at HPO ho2
      have HO2 := Lib.hid ho2
      have HBR2 := Lib.hid (HBR.out rfl)
      have HST2 := Lib.hid (HST.out rfl)
      have hsm := fun va vb w ha hb hs => same_true' g va vb w ha hb hs
      obtain ⟨NL, hNL⟩ : ∃ n, n = g.N.length := ⟨_, rfl⟩
      obtain ⟨NE, hNE⟩ : ∃ n, n = g.E.length := ⟨_, rfl⟩
      obtain ⟨NC, hNC⟩ : ∃ n, n = g.C.length := ⟨_, rfl⟩
      simp only [← hNL, ← hNE, ← hNC] at HP1 HP2
      have HSM := Lib.hid hsm
      clear hsm hNL hNE hNC HBR HST HB2 HO1 HOP HBD hopo hp2 ho2 hro HP
      go_enter Tryz.func5, Tryz.ntmps5
      go_wp2_with (first
        | (go_at_call 8; refine Calls.mono (by exact HFW.out _ X0.out) ?_; rintro e w1 ⟨rfl, x1⟩; have X1 := Lib.hid (X0.out.trans x1); have HB1 := Lib.hid (At.heap_ext (heap_alloc_new w _) x1); have t0 : w1.cell? ⟨w.heap.size, 0, none⟩ = some (.string nm) := (by rw [Lib.cell_of_heap HB1.out]; rfl); have t1 : w1.cell? ⟨w.heap.size, 1, none⟩ = some (.bool dir) := (by rw [Lib.cell_of_heap HB1.out]; rfl); have t2 : w1.cell? ⟨w.heap.size, 2, none⟩ = some (.slice b N cap) := (by rw [Lib.cell_of_heap HB1.out]; rfl))
        | (go_at_call 10; refine Calls.mono (by with_reducible exact HP1.out _ X1.out) ?_; rintro e w2 ⟨⟨n1, nc1, e1, ec1, c1, cc1, rfl, hgi, hgs⟩, x2⟩; have X2 := Lib.hid (X1.out.trans x2); have HGI := Lib.hid hgi; have HGS := Lib.hid hgs; have u0 := fun ob => (x2.alloc ob).cell t0; have u1 := fun ob => (x2.alloc ob).cell t1; have u2 := fun ob => (x2.alloc ob).cell t2; clear hgi hgs x2))
      obtain ⟨w3, hw3⟩ : ∃ w3, w3 = w2.alloc (.cells #[.string g.name, .bool g.dir, .slice n1 NL nc1, .slice e1 NE ec1, .slice c1 NC cc1] 31) := ⟨_, rfl⟩
      have X3 : Hid (Ext w w3) := Lib.hid (by rw [hw3]; exact X2.out.alloc _)
      have G3 : Hid (w3.heap[w2.heap.size]? = some (.cells #[.string g.name, .bool g.dir, .slice n1 NL nc1, .slice e1 NE ec1, .slice c1 NC cc1] 31 (0, 0))) := Lib.hid (by rw [hw3]; exact heap_alloc_new _ _)
      have GI3 : Hid (GrIn w3 (.agg #[.string g.name, .bool g.dir, .slice n1 NL nc1, .slice e1 NE ec1, .slice c1 NC cc1]) g) := Lib.hid (by rw [hw3]; exact HGI.out.ext ((Ext.refl _).alloc _))
      have y0 : w3.cell? ⟨w.heap.size, 0, none⟩ = some (.string nm) := by rw [hw3]; exact u0 _
      have y1 : w3.cell? ⟨w.heap.size, 1, none⟩ = some (.bool dir) := by rw [hw3]; exact u1 _
      have y2 : w3.cell? ⟨w.heap.size, 2, none⟩ = some (.slice b N cap) := by rw [hw3]; exact u2 _
      rw [← hw3]
      obtain ⟨gb1, hgb1⟩ : ∃ gb, gb = w2.heap.size := ⟨_, rfl⟩
      rw [← hgb1] at G3 ⊢
      clear hw3 hgb1 u0 u1 u2 t0 t1 t2 HGI
      go_cut [5, 6] from 24 to 36 (fun p q wx => ∃ gb n e c nc ec cc, p = .pointer (some ⟨gb, 0, none⟩) ∧ q = .int .i64 0 ∧ Hid (wx.heap[gb]? = some (.cells #[.string g.name, .bool g.dir, .slice n NL nc, .slice e NE ec, .slice c NC cc] 31 (0, 0))) ∧ Hid (GrIn wx (.agg #[.string g.name, .bool g.dir, .slice n NL nc, .slice e NE ec, .slice c NC cc]) g) ∧ Hid (Ext w3 wx))
      case first =>
        go_region_held3 (fun w' => w'.cell? ⟨w.heap.size, 0, none⟩ = some (.string nm) ∧ w'.cell? ⟨w.heap.size, 1, none⟩ = some (.bool dir) ∧ w'.cell? ⟨w.heap.size, 2, none⟩ = some (.slice b N cap))
          (refine ⟨Ext.cell (w := w3) ?_ y0, Ext.cell (w := w3) ?_ y1, Ext.cell (w := w3) ?_ y2⟩ <;> (repeat (first | (with_reducible refine Ext.drew ?_) | (with_reducible refine Ext.alloc ?_ _) | ((with_reducible refine Ext.setCell ?_ ?_ _); rotate_left; (first | exact Nat.le_refl _ | exact X6.out.size | exact X7.out.size)) | (with_reducible exact X7.out) | (with_reducible exact X6.out) | (with_reducible exact Ext.refl _))))
          (first
          | (go_at_call 17; refine (HBR2.out _ (by first | exact X3.out.drew | exact (X3.out.alloc _).drew | exact X3.out.drew.alloc _)).mono ?_; rintro e w6 ⟨⟨a, c, rfl, hs6⟩, x6⟩; have X6 := Lib.hid (show Ext w3 w6 by first | exact (Ext.refl w3).drew.trans x6 | exact ((Ext.refl w3).alloc _).drew.trans x6 | exact ((Ext.refl w3).drew.alloc _).trans x6); have v0 := X6.out.cell y0; have v1 := X6.out.cell y1; have v0' := fun ob => ((Ext.refl w6).alloc ob).cell v0; have v1' := fun ob => ((Ext.refl w6).alloc ob).cell v1; have hs6a := fun ob => StmsAt.mono ((Ext.refl w6).alloc ob).size _ (StmsAt.below ((Ext.refl w6).alloc ob) _ hs6); (first | (have B6 := (show w6.heap[w3.heap.size]? = some (.cells #[.string ⟨#[]⟩, .bool false, .slice none 0 0, .slice none 0 0, .slice none 0 0] 31 (0, 0)) from At.heap_ext (by exact heap_alloc_new w3 _) x6)) | skip))
          | (go_at_call 10; refine (HP2.out a c _ (by first | exact X3.out.trans X6.out | exact (X3.out.trans X6.out).alloc _) (by first | exact hs6 | exact hs6a _)).mono ?_; rintro e w7 ⟨⟨n2, nc2, e2, ec2, c2, cc2, rfl, hgi2, -⟩, x7⟩; have X7 := Lib.hid (show Ext w3 w7 by first | exact X6.out.trans x7 | exact (X6.out.alloc _).trans x7); (first | (have B7 := (show w7.heap[w3.heap.size]? = some (.cells #[.string ⟨#[]⟩, .bool false, .slice none 0 0, .slice none 0 0, .slice none 0 0] 31 (0, 0)) from At.heap_ext B6 x7); obtain ⟨q0, q1, q2, q3, q4⟩ := cells5g B7; have qf : ∀ j, w7.frozen? ⟨w3.heap.size, j, none⟩ = false := fun j => Lib.frozen_of_heap B7 j) | (have B7 := (show w7.heap[w6.heap.size]? = some (.cells #[.string ⟨#[]⟩, .bool false, .slice none 0 0, .slice none 0 0, .slice none 0 0] 31 (0, 0)) from At.heap_ext (heap_alloc_new w6 _) x7); obtain ⟨q0, q1, q2, q3, q4⟩ := cells5g B7; have qf : ∀ j, w7.frozen? ⟨w6.heap.size, j, none⟩ = false := fun j => Lib.frozen_of_heap B7 j) | skip)))
        all_goals go_wp2
        all_goals go_meet
        · exact ⟨_, n2, e2, c2, nc2, ec2, cc2, rfl, rfl, Lib.hid (heap_alloc_new _ _), Lib.hid (hgi2.ext ((Ext.refl _).alloc _)), Lib.hid (X7.out.alloc _)⟩
        · exact ⟨_, n2, e2, c2, nc2, ec2, cc2, rfl, rfl, Lib.hid (set5g B7 _ _ _ _ _), Lib.hid (hgi2.box B7 _ _ _ _ _), Lib.hid (ext5g X7.out X6.out.size _ _ _ _ _)⟩
        · exact ⟨_, n2, e2, c2, nc2, ec2, cc2, rfl, rfl, Lib.hid (set5g B7 _ _ _ _ _), Lib.hid (hgi2.box B7 _ _ _ _ _), Lib.hid (ext5g X7.out (Nat.le_refl _) _ _ _ _ _)⟩
      case rest =>
        obtain ⟨gb2, n2, e2, c2, nc2, ec2, cc2, rfl, rfl, G4, GI4, X4⟩ := hcut
        have XC := Lib.hid (X3.out.trans X4.out)
        have G34 := Lib.hid (At.heap_ext G3.out X4.out)
        have GI34 := Lib.hid (GI3.out.ext X4.out)
        have p0 := X4.out.cell y0; have p1 := X4.out.cell y1; have p2 := X4.out.cell y2
        clear y0 y1 y2 X3 GI3 G3 X4
        go_wp2_with (first
          | (go_at_call 18; refine Calls.mono (by with_reducible exact HPO.out _ XC.out) ?_; rintro e w5 ⟨rfl, x5⟩; have X5 := Lib.hid (XC.out.trans x5); have q2 := fun ob => (x5.alloc ob).cell p2; have HO5 := Lib.hid (heap_alloc_new w5 (.cells #[.int .i64 m, .int .i64 oa, .int .i64 ob, .int .i64 oc, .int .i64 od] 48)); have XO5 := Lib.hid (x5.alloc (.cells #[.int .i64 m, .int .i64 oa, .int .i64 ob, .int .i64 oc, .int .i64 od] 48)))
          | (go_at_call 19; refine Calls.mono (by with_reducible exact HST2.out _ (X5.out.alloc _)) ?_; rintro e w6 ⟨⟨a6, c6, rfl, hs6⟩, x6⟩; have X6 := Lib.hid ((X5.out.alloc _).trans x6); have XC6 := Lib.hid (XO5.out.trans x6); have HO6 := Lib.hid (At.heap_ext HO5.out x6))
          | (go_at_call 18; refine Calls.mono (by with_reducible exact HO2.out a6 c6 _ X6.out hs6) ?_; rintro e w7 ⟨rfl, x7⟩; have X7 := Lib.hid (X6.out.trans x7); have XC7 := Lib.hid (XC6.out.trans x7); have HO7 := Lib.hid (At.heap_ext HO6.out x7); have r0 := fun ob => (cells5a (At.heap_ext G34.out XC7.out) ob).1; have r1 := fun ob => (cells5a (At.heap_ext G34.out XC7.out) ob).2.1; have r2 := fun ob => (cells5a (At.heap_ext G34.out XC7.out) ob).2.2.1; have r3 := fun ob => (cells5a (At.heap_ext G34.out XC7.out) ob).2.2.2.1; have r4 := fun ob => (cells5a (At.heap_ext G34.out XC7.out) ob).2.2.2.2; have s0 := fun ob => (cells5a (At.heap_ext G4.out XC7.out) ob).1; have s1 := fun ob => (cells5a (At.heap_ext G4.out XC7.out) ob).2.1; have s2 := fun ob => (cells5a (At.heap_ext G4.out XC7.out) ob).2.2.1; have s3 := fun ob => (cells5a (At.heap_ext G4.out XC7.out) ob).2.2.2.1; have s4 := fun ob => (cells5a (At.heap_ext G4.out XC7.out) ob).2.2.2.2)
          | (go_at_call 12; refine Calls.mono (by with_reducible exact HSM.out _ _ _ (GI34.out.ext (XC7.out.alloc _)) (GI4.out.ext (XC7.out.alloc _)) HGS.out) ?_; rintro e w8 ⟨rfl, x8⟩; have X8 := Lib.hid ((X7.out.alloc _).trans x8); obtain ⟨d0, d1, d2, d3, d4⟩ := cells5g (At.heap_ext HO7.out (((Ext.refl w7).alloc _).trans x8)); obtain ⟨f0, f1, f2, f3, f4⟩ := cells5g (At.heap_ext (heap_alloc_new w7 (.cells #[.int .i64 m, .int .i64 oa, .int .i64 ob, .int .i64 oc, .int .i64 od] 48)) x8))
          | (go_at_call 9; refine Calls.mono (by with_reducible exact HAWK.out _ X8.out) ?_; rintro e w9 ⟨rfl, x9⟩))
        all_goals trace_state
        go_returns
        exact ⟨rfl, X8.out.trans x9⟩
theorem ign_card (v : Value) (w : World) (hv : TreeArg w v) (he : Env w) : Calls Tryz.prog 5 #[v] w fun e w' => e = .returned (.bool true) ∧ Ext w w' := by
  obtain ⟨nm, dir, b, L, cap, rfl, h1, h2, h3, h4⟩ := hv
  exact ign_walk nm dir b L cap w h1 h2 h3 (by unfold reachN at h4; omega) he
end Go.Proofs.YtnancphlkbfglaaGreatDoor.Nm
