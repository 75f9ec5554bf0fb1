/- Packed texts: NorBar, NorOpt, NorSetP, NorOptP -/
import Derived.Test.YtnancphlkbfglaaGreatDoorPb32
import Derived.Test.YtnancphlkbfglaaGreatDoorPb42
import Derived.Test.YtnancphlkbfglaaGreatDoorPb26
import Derived.Test.YtnancphlkbfglaaGreatDoorPb20
import Derived.Test.YtnancphlkbfglaaGreatDoorPb40
import Derived.Test.YtnancphlkbfglaaGreatDoorPb22
set_option linter.unusedVariables false
set_option linter.unusedSimpArgs false
namespace Go.Proofs.YtnancphlkbfglaaGreatDoor.Nm
open Go.Lib Fx Lx Tr At
theorem firstE_iffB : ∀ (l : List (Stm × Nat)), firstE l = 0 ↔ ∀ p ∈ l, stmE p = 0
  | [] => by simp [firstE]
  | q :: r => by
    rw [firstE]
    by_cases h : stmE q = 0
    · rw [if_neg (fun e => e h), firstE_iffB r]; simp [h]
    · rw [if_pos h]; simp [h]
theorem valid_parts {nm : ByteArray} {L : List Stm} (h : validE nm L = 0) : nameB nm.data.toList = true ∧ (flatL 0 L).length ≤ 512 ∧ ∀ p ∈ flatL 0 L, stmE p = 0 := by
  unfold validE at h
  cases hn : nameB nm.data.toList
  · rw [hn] at h; simp at h
  · rw [hn, if_neg (by decide)] at h
    by_cases h5 : 512 < (flatL 0 L).length
    · rw [if_pos h5] at h; simp at h
    · rw [if_neg h5] at h
      exact ⟨rfl, by omega, (firstE_iffB _).1 h⟩
theorem setsL_nil : setsL [] = [] := by rw [setsL]
theorem setsL_cons (x : Stm) (r : List Stm) : setsL (x :: r) = setsS x ++ setsL r := by rw [setsL]
theorem setsS_eq (x : Stm) : setsS x = (if x.kind = 4 then [x] else []) ++ setsL x.body := by cases x; rw [setsS]; rfl
theorem optE_app : ∀ L M : List Stm, optE (L ++ M) = if optE L ≠ 0 then optE L else optE M
  | [], M => by rw [List.nil_append, optE]; simp
  | x :: r, M => by
    rw [List.cons_append, optE, optE, optE_app r M]
    by_cases h : chkS x = 0
    · simp [h]
    · simp [h]
mutual
theorem sets_formS : ∀ (x : Stm) (lev : Nat), (∀ q ∈ flatS lev x, stmE q = 0) → (setsS x).length ≤ (flatS lev x).length ∧ ∀ y ∈ setsS x, y.kind = 4 ∧ y.body = [] ∧ stmE (y, 0) = 0
  | .mk k n r a b, lev, h => by
    rw [flatS] at h ⊢
    obtain ⟨h1, h2⟩ := sets_formL b (if k = 5 then lev + 1 else lev) fun q hq => h q (List.mem_cons_of_mem _ hq)
    have hx := h _ List.mem_cons_self
    rw [setsS]
    by_cases h4 : k = 4
    · subst h4
      rw [if_pos rfl]
      have hf : formB (.mk 4 n r a b) = true := by
        cases hb : formB (.mk 4 n r a b)
        · unfold stmE at hx; rw [hb] at hx; simp at hx
        · rfl
      refine ⟨by rw [List.length_append, List.length_cons, List.length_cons, List.length_nil]; omega, fun y hy => ?_⟩
      rcases List.mem_append.1 hy with hy | hy
      · rw [List.mem_singleton.1 hy]
        refine ⟨rfl, (form_parts _ hf).2 (by simp [Stm.kind]), ?_⟩
        unfold stmE at hx ⊢
        simp only [Stm.kind] at hx ⊢
        simpa using hx
      · exact h2 y hy
    · rw [if_neg h4, List.nil_append]
      exact ⟨by simp; omega, h2⟩
theorem sets_formL : ∀ (L : List Stm) (lev : Nat), (∀ q ∈ flatL lev L, stmE q = 0) → (setsL L).length ≤ (flatL lev L).length ∧ ∀ y ∈ setsL L, y.kind = 4 ∧ y.body = [] ∧ stmE (y, 0) = 0
  | [], lev, _ => by rw [setsL_nil]; exact ⟨by simp, fun y hy => by cases hy⟩
  | x :: r, lev, h => by
    rw [flatL_cons] at h ⊢
    obtain ⟨h1, h2⟩ := sets_formS x lev fun q hq => h q (List.mem_append_left _ hq)
    obtain ⟨k1, k2⟩ := sets_formL r lev fun q hq => h q (List.mem_append_right _ hq)
    rw [setsL_cons]
    refine ⟨by rw [List.length_append, List.length_append]; omega, fun y hy => ?_⟩
    rcases List.mem_append.1 hy with hy | hy
    · exact h2 y hy
    · exact k2 y hy
end
end Go.Proofs.YtnancphlkbfglaaGreatDoor.Nm

namespace Go.Proofs.YtnancphlkbfglaaGreatDoor.Nm
open Go.Lib Fx Lx Tr At
theorem sets_form {nm : ByteArray} {L : List Stm} (h : validE nm L = 0) : ∀ y ∈ setsL L, y.kind = 4 ∧ formB y = true := fun y hy => by
  obtain ⟨h1, h2, h3⟩ := valid_parts h
  obtain ⟨k1, k2⟩ := sets_formL L 0 h3
  obtain ⟨a, -, c⟩ := k2 y hy
  refine ⟨a, ?_⟩
  cases hb : formB y
  · unfold stmE at c; rw [hb] at c; simp at c
  · rfl
end Go.Proofs.YtnancphlkbfglaaGreatDoor.Nm

namespace Go.Proofs.YtnancphlkbfglaaGreatDoor.Nm
open Go.RowKit Go.Sort Go.Lib Go.Shelf Fx Lx Tr At
def setF (O : List Two) (L : List Stm) : Except Int (List Two) := if optE (setsL L) ≠ 0 then .error (optE (setsL L)) else .ok (O ++ (setsL L).map keyed)
theorem setF_nil (O : List Two) : setF O [] = .ok O := by unfold setF; rw [setsL_nil]; simp [optE]
theorem setF_cons (O : List Two) (x : Stm) (r : List Stm) (h4 : x.kind ≠ 4) : setF O (x :: r) = match setF O x.body with
    | .error e => .error e
    | .ok O' => setF O' r := by
  unfold setF
  rw [setsL_cons, setsS_eq, if_neg h4, List.nil_append, optE_app]
  by_cases h : optE (setsL x.body) = 0
  · rw [h]; simp [List.map_append, List.append_assoc]
  · simp [h]
theorem setF_bad (O : List Two) (x : Stm) (r : List Stm) (h4 : x.kind = 4) (hb : x.body = []) (hc : chkS x ≠ 0) : setF O (x :: r) = .error (chkS x) := by
  unfold setF
  rw [setsL_cons, setsS_eq, if_pos h4, hb, setsL_nil, List.append_nil, List.singleton_append, optE, if_pos hc, if_pos hc]
theorem setF_set (O : List Two) (x : Stm) (r : List Stm) (h4 : x.kind = 4) (hb : x.body = []) (hc : chkS x = 0) : setF O (x :: r) = setF (O ++ [keyed x]) r := by
  unfold setF
  rw [setsL_cons, setsS_eq, if_pos h4, hb, setsL_nil, List.append_nil, List.singleton_append, optE, hc, List.map_cons]
  simp
theorem setF_len {O O' : List Two} {L : List Stm} (h : setF O L = .ok O') : O'.length ≤ O.length + cntL L := by
  unfold setF at h
  split at h
  · cases h
  · injection h with h
    subst h
    have key : ∀ K : List Stm, (setsL K).length ≤ cntL K := fun K => by
      have hc := cntL_flat 0 K
      have : ∀ (lev : Nat), (setsL K).length ≤ (flatL lev K).length := by
        have hS : ∀ (n : Nat) (M : List Stm) (lev : Nat), sizeL M ≤ n → (setsL M).length ≤ (flatL lev M).length := by
          intro n
          induction n using Nat.strongRecOn with
          | _ n ih =>
            intro M
            induction M with
            | nil => intro lev _; rw [setsL_nil]; simp
            | cons x r ihr =>
              intro lev hn
              rw [sizeL_cons] at hn
              have h1 := sizeS_body x
              have h2 := ihr lev (by omega)
              have h3 := ih (sizeL x.body) (by omega) x.body (if x.kind = 5 then lev + 1 else lev) (Nat.le_refl _)
              rw [setsL_cons, setsS_eq, flatL_cons, flatS_eq]
              simp only [List.length_append, List.length_cons]
              split <;> simp <;> omega
        exact fun lev => hS _ K lev (Nat.le_refl _)
      have := this 0
      omega
    have := key L
    simp; omega
theorem info_at : (Tryz.prog.info? 109).map (fun i => (i.zero, i.size, i.bytes)) = some (some (.agg #[.string ⟨#[]⟩, .string ⟨#[]⟩]), 2, 32) := by kernel_rfl
def SetR (B : Nat) (r : Except Int (List Two)) (e : Ending) (w' : World) : Prop :=
  match r with
  | .error er => e = .returned (.tuple #[.slice none 0 0, .int .i64 er]) ∧ er ≠ 0
  | .ok K => ∃ a c, e = .returned (.tuple #[.slice a K.length c, .int .i64 0]) ∧ w'.ownsRow B 109 2 (.slice a K.length c) K.length (atrsC K)
def SetC (w0 : World) (B nn M : Nat) : Prop :=
  ∀ (L : List Stm) (b : Option Addr) (cap : Nat) (O : List Two) (oa : Option Addr) (oc : Nat) (w : World), cntL L ≤ M → StmsAt nn w0 b L → L.length ≤ maxLen → okWL L → Ext w0 w → B ≤ w.heap.size → O.length + cntL L ≤ 1000 → w.ownsRow B 109 2 (.slice oa O.length oc) O.length (atrsC O) →
    Calls Tryz.prog 41 #[.slice oa O.length oc, .slice b L.length cap] w fun e w' => SetR B (setF O L) e w' ∧ Ext w0 w' ∧ w.heap.size ≤ w'.heap.size
structure SetAt (w0 : World) (s0 B : Nat) (V : Except Int (List Two)) (L : List Stm) (i : Nat) (O : List Two) (oa : Option Addr) (oc : Nat) (wr : World) : Prop where
  v : V = setF O (L.drop i)
  own : wr.ownsRow B 109 2 (.slice oa O.length oc) O.length (atrsC O)
  x : Ext w0 wr
  z : B ≤ wr.heap.size
  l : O.length + cntL (L.drop i) ≤ 1000
  s : s0 ≤ wr.heap.size
set_option maxHeartbeats 8000000 in
set_option maxRecDepth 100000 in
theorem setP_step (w0 : World) (B nn M : Nat) (hnn : nn ≤ w0.heap.size) (hB : w0.heap.size ≤ B) (he : Env w0) (IH : ∀ M', M' < M → SetC w0 B nn M') : SetC w0 B nn M := by
  intro L b cap O oa oc w hcM hst hlen hok hx hz hl hown
  obtain ⟨j0, hj, hjz0, hjz1, hjz2⟩ := info_parts info_at
  obtain ⟨V, hV⟩ : ∃ V, V = setF O L := ⟨_, rfl⟩
  obtain ⟨N, hN⟩ : ∃ N, N = L.length := ⟨_, rfl⟩
  obtain ⟨ON, hON⟩ : ∃ N, N = O.length := ⟨_, rfl⟩
  rw [← hV]
  have hlen2 : N ≤ 1000 := by have := cntL_len L; omega
  have hC : Hid (SetAt w0 w.heap.size B V L 0 O oa oc w) := Lib.hid ⟨by rw [List.drop_zero]; exact hV, hown, hx, hz, by rw [List.drop_zero]; exact hl, Nat.le_refl _⟩
  rw [← hN, ← hON]
  have HST := Lib.hid hst; have HOK := Lib.hid hok; have HIH := Lib.hid IH; have HN := Lib.hid hN; have HCM := Lib.hid hcM; have HNN := Lib.hid hnn; have HE := Lib.hid he; have HB := Lib.hid hB; have HON := Lib.hid hON
  clear hst hok IH hV hN hcM hnn he hB hx hz hl hown hlen hON
  obtain ⟨N', hNN'⟩ : ∃ n, n = N := ⟨_, rfl⟩
  clear hNN' N'
  go_enter Tryz.func41, Tryz.ntmps41
  go_wp2_with fail
  go_loopw [0, 12] (fun ov i' wr => ∃ (i : Nat) (O : List Two) (oa : Option Addr) (oc ON : Nat), i ≤ N ∧ i' = .int .i64 i ∧ ov = .slice oa ON oc ∧ Hid (ON = O.length) ∧ Hid (SetAt w0 w.heap.size B V L i O oa oc wr)) (fun _ i' _ => N - (RowKit.intOf i').toNat)
  case atStart => exact ⟨0, O, oa, oc, ON, Nat.zero_le _, rfl, rfl, HON, hC⟩
  case round =>
    clear hC HON
    obtain ⟨i, O, oa, oc, ON, hi, rfl, rfl, HON, hC⟩ := hrel
    by_cases hlt : i < N
    · have hkl : i < L.length := by rw [← HN.out]; exact hlt
      have hx := hC.out.x
      obtain ⟨g, o, rfl, hg, hst⟩ := StmsAt.at L HST.out i hkl
      have hoki := okWL_at L i hkl HOK.out
      have hct := cntL_take L i hkl
      have hcle := cntL_le L (i + 1)
      have hv := hC.out.v
      have hl := hC.out.l
      rw [List.drop_eq_getElem_cons hkl] at hv hl
      obtain ⟨x, hxe⟩ : ∃ x, x = L[i] := ⟨_, rfl⟩
      rw [← hxe] at hst hoki hct hv hl
      rw [cntL_cons] at hl
      obtain ⟨kind, nm, rs, al, body⟩ := x
      rw [StmAt] at hst
      obtain ⟨r, rc, a, ac, b', bc, c0', c1', c2', c3', c4', hr, ha, hbs, hl1, hl2, hl3, hl4, hl5⟩ := hst
      have c0 := hx.cell c0'; have c1 := hx.cell c1'; have c2 := hx.cell c2'; have c3 := hx.cell c3'; have c4 := hx.cell c4'
      rw [okWS_eq] at hoki
      obtain ⟨⟨ok1, ok2, ok3, ok4, ok5, ok6⟩, okb⟩ := hoki
      simp only [Stm.refs, Stm.attrs, Stm.name, Stm.body] at ok1 ok2 ok3 ok4 ok5 okb
      have hcb := cntS_body (.mk kind nm rs al body)
      simp only [Stm.body] at hcb
      rw [hcb] at hl
      have hbM : cntL body < M := by have := HCM.out; rw [hcb] at hct; omega
      have hat : AtrIn wr a al := two_atr (TwoAt.below ha (hx.mono HNN.out))
      have hchk := fun w5 (x : Ext wr w5) => chk_any kind nm rs al body r a b' rc ac bc w5 ok6 (hat.ext x) ok4 ok5 (by omega) (HE.out.ext (hx.trans x))
      have hk4 := (form_kinds _ ok6).2.2
      have hfp := (form_parts _ ok6).2
      simp only [Stm.kind, Stm.attrs, Stm.body] at hk4 hfp
      have hih := fun (O' : List Two) (oa : Option Addr) (oc : Nat) (w5 : World) (x : Ext w0 w5) (z : B ≤ w5.heap.size) (hl' : O'.length + cntL body ≤ 1000) (ow : w5.ownsRow B 109 2 (.slice oa O'.length oc) O'.length (atrsC O')) => HIH.out (M - 1) (by omega) body b' bc O' oa oc w5 (by omega) hbs hl5 okb x z hl' ow
      have hsc := setF_cons O (.mk kind nm rs al body) (L.drop (i + 1))
      have hsb := setF_bad O (.mk kind nm rs al body) (L.drop (i + 1))
      have hss := setF_set O (.mk kind nm rs al body) (L.drop (i + 1))
      simp only [Stm.kind, Stm.body] at hsc hsb hss
      obtain ⟨c, hce⟩ : ∃ c, c = chkS (.mk kind nm rs al body) := ⟨_, rfl⟩
      rw [← hce] at hchk hsb hss
      obtain ⟨RN, hRN⟩ : ∃ n, n = rs.length := ⟨_, rfl⟩
      obtain ⟨AN, hAN⟩ : ∃ n, n = al.length := ⟨_, rfl⟩
      obtain ⟨BN, hBN⟩ : ∃ n, n = body.length := ⟨_, rfl⟩
      rw [← hRN] at c2; rw [← hAN] at c3; rw [← hBN] at c4
      simp only [← hRN, ← hAN, ← hBN] at hchk
      simp only [← hBN] at hih
      have HCK := Lib.hid hchk; have HV := Lib.hid hv; have HL := Lib.hid hl; have HIB := Lib.hid hih; have HSC := Lib.hid hsc; have HSB := Lib.hid hsb; have HSS := Lib.hid hss; have HAT := Lib.hid hat; have HX := Lib.hid hx; have HFP := Lib.hid hfp; have HK4 := Lib.hid hk4; have HAN := Lib.hid hAN
      have b0 : (0 : Int) ≤ (i : Int) := by omega
      have b1 : (i : Int) < (N : Int) := by omega
      clear c0' c1' c2' c3' c4' hr ha hbs hl1 hl2 hl3 hl4 hl5 ok1 ok4 okb ok6 hchk hv hl hih hsc hsb hss hat hx hfp hk4 hce hct hcle hcb hbM hxe hg hRN hAN hBN
      by_cases h4 : kind = 4
      · subst h4
        have hb0 : body = [] := HFP.out (by decide)
        obtain ⟨q, hq, -⟩ := HK4.out rfl
        by_cases hc0 : c = 0
        · have hvs := HV.out
          rw [HSS.out rfl hb0 hc0] at hvs
          have hky : keyed (.mk 4 nm rs al body) = (nm, q.2) := by rw [hq]; rfl
          rw [hky] at hvs
          have hA1 : AN = 1 := by rw [HAN.out, hq]; rfl
          subst hA1
          have hat1 := HAT.out
          rw [hq] at hat1
          obtain ⟨ga, go', rfl, -, v1⟩ := hat1 0 (by simp)
          simp only [List.getElem_cons_zero, Nat.zero_mul, Nat.add_zero] at v1
          have HVS := Lib.hid hvs
          obtain ⟨f1, f2⟩ := efacts 0
          subst hc0
          subst hb0
          clear hvs hky hat1 hq HAN HV HFP HK4 HSC HSB HSS
          have hln := HL.out
          have honl : ON ≤ 1000 := by rw [HON.out]; omega
          have OWR := Lib.hid (show wr.ownsRow B 109 2 (.slice oa ON oc) ON (atrsC O) by rw [HON.out]; exact hC.out.own)
          go_wp2_with (go_at_call 55; refine Calls.mono (by with_reducible exact HCK.out _ ((Ext.refl _).alloc _)) ?_; rintro e w5 ⟨rfl, x5⟩; have HX5 := Lib.hid (((Ext.refl wr).alloc _).trans x5); have HT5 := Lib.hid (At.heap_ext (heap_alloc_new wr _) x5); clear x5)
          have s51 : w5.cell? ⟨wr.heap.size, 1, none⟩ = some (.string nm) := by rw [Lib.cell_of_heap HT5.out]; rfl
          have s53 : w5.cell? ⟨wr.heap.size, 3, none⟩ = some (.slice (some ⟨ga, go', none⟩) 1 ac) := by rw [Lib.cell_of_heap HT5.out]; rfl
          have v51 := HX5.out.cell v1
          have s51a := fun ob => ((Ext.refl w5).alloc ob).cell s51
          have s53a := fun ob => ((Ext.refl w5).alloc ob).cell s53
          have v51a := fun ob => ((Ext.refl w5).alloc ob).cell v51
          have OW5 := Lib.hid (At.own_ext OWR.out HX5.out)
          have HZ5 := Lib.hid (Nat.le_trans hC.out.z HX5.out.size)
          clear c0 c1 c2 c3 c4 v1 OWR
          go_region_law (first
            | (refine step_append_lies _ (by rfl) _ _ 54 (by rfl) B 109 j0 _ 2 32 Tryz.underlying54 hj hjz0 hjz1 hjz2 rfl (by decide) _ _ _ (by rfl) (At.own_ext OW5.out (((Ext.refl w5).alloc _).drew)) ⟨w5.heap.size, 0, none⟩ 1 1 [.string nm, .string q.2] (by rfl) (by rfl) (World.news_of_block (cs := #[.string nm, .string q.2]) (t := 109) (fr := (0, 0)) (heap_alloc_new w5 _)) (by intro u hu; simp at hu; rcases hu with rfl | rfl <;> rfl) (by omega) (by unfold maxLen; omega) (by omega) (by have := HZ5.out; simp; omega) _ rfl ?_
               intro g7 c7 w7 hown1 hgrow hat2 hlt2
               have hrt := row_ty (At.own_ext OW5.out (((Ext.refl w5).alloc (.cells #[.string nm, .string q.2] 109)).drew))
               have HT7 := Lib.hid (cel_keep (At.heap_ext HT5.out (((Ext.refl w5).alloc (.cells #[.string nm, .string q.2] 109)).drew)) hgrow hrt (nope (by decide)))
               have HX7 := Lib.hid (ext_grown ((HX.out.trans HX5.out).trans (((Ext.refl w5).alloc (.cells #[.string nm, .string q.2] 109)).drew)) hgrow (fun k e => by have := (OW5.out.lt k e).1; have := HB.out; omega))
               have HZ7 := Lib.hid (Nat.le_trans (Nat.le_trans HZ5.out (((Ext.refl w5).alloc (.cells #[.string nm, .string q.2] 109)).drew).size) hgrow.size)
               have OW7 := Lib.hid (show w7.ownsRow B 109 2 (.slice (some ⟨g7, 0, none⟩) (O ++ [(nm, q.2)]).length c7) (O ++ [(nm, q.2)]).length (atrsC (O ++ [(nm, q.2)])) by rw [atrsC_snoc, List.length_append, ← HON.out]; exact hown1)
               have HS7 := Lib.hid (Nat.le_trans HX5.out.size (Nat.le_trans (((Ext.refl w5).alloc (.cells #[.string nm, .string q.2] 109)).drew).size hgrow.size))
               clear hown1 hgrow hat2 hlt2 hrt))
          all_goals (
            have hih := fun (w8 : World) (x8 : Ext w7 w8) => HIB.out (O ++ [(nm, q.2)]) (some ⟨g7, 0, none⟩) c7 w8 (HX7.out.trans x8) (Nat.le_trans HZ7.out x8.size) (by simp; omega) (At.own_ext OW7.out x8)
            simp only [setF_nil] at hih
            have hon2 : (O ++ [(nm, q.2)]).length = ON + 1 := by rw [HON.out]; simp
            rw [hon2] at hih
            have HIH2 := Lib.hid hih
            clear hih
            have s74 : w7.cell? ⟨wr.heap.size, 4, none⟩ = some (.slice b' BN bc) := by rw [Lib.cell_of_heap HT7.out]; rfl
            have s74d : w7.drew.cell? ⟨wr.heap.size, 4, none⟩ = some (.slice b' BN bc) := (Ext.refl w7).drew.cell s74
            clear s51 s53 v51 s51a s53a v51a hon2
            go_wp2_with (go_at_call 41; refine Calls.mono (by with_reducible exact HIH2.out _ (by first | exact (Ext.refl _).drew | exact Ext.refl _)) ?_; rintro e w8 ⟨⟨a8, c8, rfl, ow8⟩, x8, z8'⟩; have OW8 := Lib.hid ow8; have X8 := Lib.hid x8; have Z8 := Lib.hid (show w7.heap.size ≤ w8.heap.size from z8'); clear ow8 x8 z8')
            go_roundw
            case rel => exact ⟨i + 1, O ++ [(nm, q.2)], a8, c8, _, by omega, by go_num, rfl, Lib.hid (by simp), Lib.hid ⟨HVS.out, OW8.out, X8.out, Nat.le_trans HZ7.out Z8.out, by simp; omega, Nat.le_trans hC.out.s (Nat.le_trans HS7.out Z8.out)⟩⟩
            case measure => simp [RowKit.intOf]; omega)
        · have hr : Hid (V = .error c) := Lib.hid (by rw [HV.out, HSB.out rfl hb0 hc0])
          obtain ⟨f1, f2⟩ := nfacts hc0
          clear hb0 hq
          go_wp2_with (go_at_call 55; refine Calls.mono (by with_reducible exact HCK.out _ ((Ext.refl _).alloc _)) ?_; rintro e w5 ⟨rfl, x5⟩)
          go_returns
          rw [hr.out]
          exact ⟨⟨rfl, hc0⟩, HX.out.trans (((Ext.refl _).alloc _).trans x5), Nat.le_trans hC.out.s (((Ext.refl _).alloc _).trans x5).size⟩
      · have f4 : (kind == 4) = false := by rw [beq_eq_false_iff_ne]; exact h4
        have f4' : (kind != 4) = true := by rw [bne, f4]; rfl
        have hvs := HV.out
        rw [HSC.out h4] at hvs
        have hcl := HIB.out O oa oc
        obtain ⟨W, hW⟩ : ∃ W, W = setF O body := ⟨_, rfl⟩
        have hwl : ∀ O', W = .ok O' → O'.length ≤ O.length + cntL body := fun O' h => setF_len (by rw [← hW]; exact h)
        rw [← hW] at hvs hcl
        have HVS := Lib.hid hvs; have HCL := Lib.hid hcl; have HWL := Lib.hid hwl
        have hon := HON.out
        subst hon
        have hcl2 := fun (ob : Obj) => hcl (wr.alloc ob) (HX.out.alloc _) (Nat.le_trans hC.out.z ((Ext.refl wr).alloc ob).size) (by have := HL.out; omega) (hC.out.own.alloc _)
        have HCL2 := Lib.hid hcl2
        clear hvs hcl hcl2 hwl hW HV HFP HK4 HSC HSB HSS HAN HCL
        cases W with
        | error er =>
          have hr : Hid (V = .error er) := Lib.hid HVS.out
          go_wp2_with (go_at_call 41; refine Calls.mono (by with_reducible exact HCL2.out _) ?_; rintro e w5 ⟨⟨rfl, her⟩, x5, z5⟩; obtain ⟨g1, g2⟩ := nfacts her)
          go_returns
          rw [hr.out]
          exact ⟨⟨rfl, her⟩, x5, Nat.le_trans hC.out.s (Nat.le_trans ((Ext.refl _).alloc _).size z5)⟩
        | ok O2 =>
          have hr : Hid (V = setF O2 (L.drop (i + 1))) := Lib.hid HVS.out
          go_wp2_with (go_at_call 41; refine Calls.mono (by with_reducible exact HCL2.out _) ?_; rintro e w5 ⟨⟨a5, c5, rfl, ow5⟩, x5, z5⟩; have OW5 := Lib.hid ow5; have X5 := Lib.hid x5; have Z5 := Lib.hid (Nat.le_trans ((Ext.refl wr).alloc _).size z5); clear ow5 x5 z5)
          go_roundw
          case rel => exact ⟨i + 1, O2, _, _, O2.length, by omega, by go_num, rfl, Lib.hid rfl, Lib.hid ⟨hr.out, OW5.out, X5.out, Nat.le_trans hC.out.z Z5.out, by have := HWL.out O2 rfl; have := HL.out; omega, Nat.le_trans hC.out.s Z5.out⟩⟩
          case measure => simp [RowKit.intOf]; omega
    · have hr : Hid (V = .ok O) := Lib.hid (by rw [hC.out.v, List.drop_eq_nil_of_le (by rw [← HN.out]; omega), setF_nil])
      have b1 : ¬ (i : Int) < (N : Int) := by omega
      have hon := HON.out
      subst hon
      go_wp2
      go_returns
      rw [hr.out]
      exact ⟨⟨_, _, rfl, hC.out.own⟩, hC.out.x, hC.out.s⟩
theorem setP_any (w0 : World) (B nn : Nat) (hnn : nn ≤ w0.heap.size) (hB : w0.heap.size ≤ B) (he : Env w0) : ∀ M, SetC w0 B nn M := fun M => by
  induction M using Nat.strongRecOn with
  | _ M ih => exact setP_step w0 B nn M hnn hB he ih
end Go.Proofs.YtnancphlkbfglaaGreatDoor.Nm

namespace Go.Proofs.YtnancphlkbfglaaGreatDoor.Nm
open Go.RowKit Go.Sort Go.Lib Go.Shelf Fx Lx Tr At
mutual
theorem sets_okS : ∀ x : Stm, okWS x → ∀ y ∈ setsS x, okW y
  | .mk k n r a b, h => by
    rw [okWS] at h
    rw [setsS]
    intro y hy
    rcases List.mem_append.1 hy with hy | hy
    · split at hy
      · rw [List.mem_singleton.1 hy]; exact h.1
      · cases hy
    · exact sets_okL b h.2 y hy
theorem sets_okL : ∀ L : List Stm, okWL L → ∀ y ∈ setsL L, okW y
  | [], _ => by rw [setsL_nil]; intro y hy; cases hy
  | x :: r, h => by
    rw [okWL] at h
    rw [setsL_cons]
    intro y hy
    rcases List.mem_append.1 hy with hy | hy
    · exact sets_okS x h.1 y hy
    · exact sets_okL r h.2 y hy
end
theorem keyed_sz {L : List Stm} (h : okWL L) : ∀ q ∈ (setsL L).map keyed, q.1.size ≤ 64 ∧ q.2.size ≤ 64 := fun q hq => by
  obtain ⟨y, hy, rfl⟩ := List.mem_map.1 hq
  obtain ⟨-, -, -, h4, h5, -⟩ := sets_okL L h y hy
  obtain ⟨k, n, r, a, b⟩ := y
  simp only [Stm.name, Stm.attrs] at h4 h5
  refine ⟨h5, ?_⟩
  unfold keyed
  simp only [Stm.attrs]
  cases a with
  | nil => decide
  | cons p s => exact (h4 p (by simp)).2
theorem size_op : (Tryz.prog.info? 48).map (·.size) = some 5 := by kernel_rfl
theorem results_op {fn : Func} {p u : Tmp} (h : fn.results = #[.cell p 48, .tmp u]) (tmps : Array Value) (w : World) (g : Nat) (cs : Array Value) (e : Value) (hsz : cs.size = 5) (hp : tmps.getD p undef = .pointer (some ⟨g, 0, none⟩)) (he : tmps.getD u undef = e) (hg : w.heap[g]? = some (.cells cs 48 (0, 0))) :
    (results fn tmps).run Tryz.prog w = .ok (.tuple #[.agg cs, e]) w := by
  rw [results_cell_tmp h, hp, he]
  have hl := run_loadVar_row (P := Tryz.prog) w g 48 48 cs (0, 0) _ hg Tryz.underlying48 rfl (by rw [size_op, hsz])
  simp [asAddr, Result.andThen, hl]
theorem box_newO {w w3 : World} {o : Obj} {cs : Array Value} {T : TypeId} (x : Ext ((w.alloc (.cells cs T)).alloc o) w3) : w3.heap[w.heap.size]? = some (.cells cs T (0, 0)) :=
  At.heap_ext (At.heap_ext (heap_alloc_new w (.cells cs T)) ((Ext.refl _).alloc o)) x
theorem two_newO {w w3 : World} {o : Obj} {cs : Array Value} {T : TypeId} (x : Ext ((w.alloc o).alloc (.cells cs T)) w3) : w3.heap[w.heap.size + 1]? = some (.cells cs T (0, 0)) := by
  have h := heap_alloc_new (w.alloc o) (.cells cs T)
  rw [World.size_alloc] at h
  exact At.heap_ext h x
def opV (o : Op5) : Value := .agg #[.int .i64 o.mode, .int .i64 o.ns, .int .i64 o.rs, .int .i64 o.mg, .int .i64 o.rd]
def OptR (r : Except Int Op5) (e : Ending) : Prop :=
  match r with
  | .error er => e = .returned (.tuple #[opV ⟨0, 0, 0, 0, 0⟩, .int .i64 er]) ∧ er ≠ 0
  | .ok o => e = .returned (.tuple #[opV o, .int .i64 0])
set_option maxHeartbeats 2000000 in
theorem numO_any (k : ByteArray) (a : Option Addr) (l : List Two) (cap g : Nat) (w : World) (hc : w.cell? ⟨g, 0, none⟩ = some (.slice a l.length cap)) (h : AtrIn w a l) (hL : l.length ≤ 1000000) (hs : ∀ q ∈ l, q.2.size ≤ 64) (hk : k.size ≤ 64) (he : Env w) :
    Calls Tryz.prog 42 #[.string k, .pointer (some ⟨g, 0, none⟩)] w fun e w' => e = .returned (.int .i64 (numK 4 l k)) ∧ Ext w w' := by
  have hn := num_any 4 a l cap k w h (by omega) (fun q hq => by have := hs q hq; omega) (by unfold maxLen; omega) he
  obtain ⟨V, hV⟩ : ∃ v, v = numK 4 l k := ⟨_, rfl⟩
  rw [← hV]
  unfold numK at hV
  rw [← hV] at hn
  generalize l.length = LN at hc hn
  have HN := Lib.hid hn
  clear hn hV h hs he
  go_enter Tryz.func42, Tryz.ntmps42
  go_wp2_with (go_at_call 26; refine HN.out.mono ?_; rintro e w2 ⟨rfl, x2⟩)
  go_returns
  exact ⟨rfl, x2⟩
set_option maxHeartbeats 8000000 in
set_option maxRecDepth 100000 in
theorem optsP_any (nm : ByteArray) (dir : Bool) (b : Option Addr) (L : List Stm) (cap n : Nat) (w : World) (hn : n ≤ w.heap.size) (h : StmsAt n w b L) (hlen : L.length ≤ maxLen) (hs : cntL L ≤ 1099511627776) (hbig : BigL L) (hnm : nm.size ≤ 9223372036854775807) (hfw : ∀ p ∈ flatL 0 L, p.1.refs.length ≤ 10 ∧ p.1.attrs.length ≤ 20) (he : Env w) :
    Calls Tryz.prog 18 #[.agg #[.string nm, .bool dir, .slice b L.length cap]] w fun e w' => OptR (optionsT nm L) e ∧ Ext w w' := by
  obtain ⟨R, hR⟩ : ∃ R, R = optionsT nm L := ⟨_, rfl⟩
  rw [← hR]
  unfold optionsT at hR
  have hok := fun hv => ok_valid (nm := nm) (L := L) hv hfw
  have hvc := fun (w5 : World) (x : Ext w w5) => valid_cnt nm dir b L cap n w5 (Nat.le_trans hn x.size) (StmsAt.below (x.mono hn) L h) hs hbig hnm
  have hvf := @sets_form nm L
  obtain ⟨V, hV⟩ : ∃ V, V = validE nm L := ⟨_, rfl⟩
  rw [← hV] at hR hok hvc hvf
  obtain ⟨N, hN⟩ : ∃ N, N = L.length := ⟨_, rfl⟩
  rw [← hN] at hvc hlen ⊢
  have HOK := Lib.hid hok; have HVC := Lib.hid hvc; have HR := Lib.hid hR; have HST := Lib.hid h; have HE := Lib.hid he; have HN := Lib.hid hN; have HNN := Lib.hid hn; have HVF := Lib.hid hvf
  clear hok hvc hR h he hN hn hs hbig hnm hfw hV hvf
  go_enter Tryz.func18, Tryz.ntmps18
  by_cases hv0 : V = 0
  case neg =>
    obtain ⟨f1, f2⟩ := nfacts hv0
    have hr : Hid (R = .error V) := Lib.hid (by rw [HR.out, if_pos hv0])
    go_wp2_with (go_at_call 23; refine (HVC.out _ (((Ext.refl _).alloc _).alloc _)).mono ?_; rintro e w3 ⟨rfl, x3⟩; have HG3 := Lib.hid (two_newO x3); obtain ⟨z0, z1, z2, z3, z4⟩ := cells5g HG3.out; have zf : ∀ j, w3.frozen? ⟨w.heap.size + 1, j, none⟩ = false := (fun j => Lib.frozen_of_heap HG3.out j))
    (try simp only [Exit.inBlock, Exit.then]); refine bodyPost_ret (results_op rfl _ _ (w.heap.size + 1) _ (.int .i64 V) rfl rfl rfl (set5g HG3.out _ _ _ _ _)) rfl ?_
    rw [hr.out]
    exact ⟨⟨rfl, hv0⟩, ext5g ((((Ext.refl _).alloc _).alloc _).trans x3) (Nat.le_succ _) _ _ _ _ _⟩
  subst hv0
  obtain ⟨f1, f2⟩ := efacts 0
  obtain ⟨ok1, ok2, ok3⟩ := HOK.out (by trivial)
  have hR := HR.out
  rw [if_neg (by decide)] at hR
  have hSP := fun (w3 : World) (x : Ext w w3) => setP_any w3 w3.heap.size n (Nat.le_trans HNN.out x.size) (Nat.le_refl _) (HE.out.ext x) (cntL L) L b cap [] none 0 w3 (Nat.le_refl _) (StmsAt.below (x.mono HNN.out) L HST.out) (by rw [← HN.out]; exact hlen) ok3 (Ext.refl _) (Nat.le_refl _) (by simp; omega) (World.ownsRow_nil _ _ _ _)
  simp only [List.length_nil] at hSP
  obtain ⟨W, hW⟩ : ∃ W, W = setF [] L := ⟨_, rfl⟩
  rw [← hW] at hSP
  rw [← HN.out] at hSP
  unfold setF at hW
  have HSP := Lib.hid hSP; have HW := Lib.hid hW; have HR2 := Lib.hid hR; have OK3 := Lib.hid ok3; have OK2 := Lib.hid ok2
  clear hSP hW hR ok1 ok2 ok3 HR HOK
  cases W with
  | error er =>
    have hr : Hid (R = .error er) := Lib.hid (by
      have h1 := HW.out; have h2 := HR2.out
      by_cases h0 : optE (setsL L) = 0
      · rw [if_neg (fun e => e h0)] at h1; cases h1
      · rw [if_pos h0] at h1 h2; rw [h2]; injection h1 with h1; rw [h1])
    go_wp2_with (first
      | (go_at_call 23; refine (HVC.out _ (((Ext.refl _).alloc _).alloc _)).mono ?_; rintro e w3 ⟨rfl, x3⟩; have HG3 := Lib.hid (two_newO x3); have HT3 := Lib.hid (box_newO x3); have t2 : w3.cell? ⟨w.heap.size, 2, none⟩ = some (.slice b N cap) := (by rw [Lib.cell_of_heap HT3.out]; rfl); have X3 := Lib.hid ((((Ext.refl _).alloc _).alloc _).trans x3 : Ext w w3))
      | (go_at_call 41; refine Calls.mono (by with_reducible exact HSP.out _ X3.out) ?_; rintro e w5 ⟨⟨rfl, her⟩, x5, -⟩; obtain ⟨g1, g2⟩ := nfacts her; have HG5 := Lib.hid (At.heap_ext HG3.out (x5.alloc (.cells #[.slice none 0 0] 54))); obtain ⟨z0, z1, z2, z3, z4⟩ := cells5g HG5.out; have zf : ∀ j, (w5.alloc (.cells #[.slice none 0 0] 54)).frozen? ⟨w.heap.size + 1, j, none⟩ = false := (fun j => Lib.frozen_of_heap HG5.out j)))
    (try simp only [Exit.inBlock, Exit.then]); refine bodyPost_ret (results_op rfl _ _ (w.heap.size + 1) _ (.int .i64 er) rfl rfl rfl (set5g HG5.out _ _ _ _ _)) rfl ?_
    rw [hr.out]
    exact ⟨⟨rfl, her⟩, ext5g ((X3.out.trans x5).alloc _) (Nat.le_succ _) _ _ _ _ _⟩
  | ok K =>
    have h0 : optE (setsL L) = 0 := by
      have h1 := HW.out
      by_cases h0 : optE (setsL L) = 0
      · exact h0
      · rw [if_pos h0] at h1; cases h1
    have hK : K = (setsL L).map keyed := by
      have h1 := HW.out
      rw [if_neg (fun e => e h0), List.nil_append] at h1
      injection h1
    have hr1 : R = .ok (optsT K) := by rw [HR2.out, if_neg (fun e => e h0), hK]
    have hsz : ∀ q ∈ K, q.1.size ≤ 64 ∧ q.2.size ≤ 64 := by rw [hK]; exact keyed_sz OK3.out
    have hKl : K.length ≤ 1000 := by
      have := @setF_len [] K L (by unfold setF; rw [if_neg (fun e => e h0), List.nil_append, hK])
      have := OK2.out; simp at *; omega
    have hr := Lib.hid hr1; have HSZ := Lib.hid hsz
    clear h0 hK hr1 hsz HW HR2 OK3 OK2
    go_wp2_with (first
      | (go_at_call 23; refine (HVC.out _ (((Ext.refl _).alloc _).alloc _)).mono ?_; rintro e w3 ⟨rfl, x3⟩; have HG3 := Lib.hid (two_newO x3); have HT3 := Lib.hid (box_newO x3); have t2 : w3.cell? ⟨w.heap.size, 2, none⟩ = some (.slice b N cap) := (by rw [Lib.cell_of_heap HT3.out]; rfl); have X3 := Lib.hid ((((Ext.refl _).alloc _).alloc _).trans x3 : Ext w w3))
      | (go_at_call 41; refine Calls.mono (by with_reducible exact HSP.out _ X3.out) ?_; rintro e w5 ⟨⟨a5, c5, rfl, ow5⟩, x5, -⟩; have OW5 := Lib.hid ow5; have X5 := Lib.hid x5; clear ow5 x5))
    obtain ⟨aa, cc, e1, hat, -⟩ := own_atrs OW5.out
    injection e1 with e1 _ e2
    subst e1; subst e2
    obtain ⟨gl, hgl⟩ : ∃ g, g = w5.heap.size := ⟨_, rfl⟩
    obtain ⟨w6, hw6⟩ : ∃ w6, w6 = w5.alloc (.cells #[.slice a5 K.length c5] 54) := ⟨_, rfl⟩
    have x56 : Ext w5 w6 := by rw [hw6]; exact (Ext.refl _).alloc _
    have hc6 : w6.cell? ⟨gl, 0, none⟩ = some (.slice a5 K.length c5) := by rw [hw6, hgl, Lib.cell_of_heap (heap_alloc_new w5 _)]; rfl
    rw [← hw6, ← hgl]
    have HG6 := Lib.hid (At.heap_ext HG3.out (X5.out.trans x56))
    have X6 := Lib.hid ((X3.out.trans X5.out).trans x56)
    have hno := fun (k : ByteArray) (hk : k.size ≤ 64) (w7 : World) (x : Ext w6 w7) => numO_any k a5 K c5 gl w7 (x.cell hc6) ((hat.ext x56).ext x) (by omega) (fun q hq => (HSZ.out q hq).2) hk (HE.out.ext (X6.out.trans x))
    have hge := fun (w7 : World) (x : Ext w6 w7) => get_any a5 K c5 kMode w7 ((hat.ext x56).ext x) (by omega)
    obtain ⟨NS, hNS⟩ : ∃ v, v = numK 4 K kNs := ⟨_, rfl⟩
    obtain ⟨RS, hRS⟩ : ∃ v, v = numK 4 K kRs := ⟨_, rfl⟩
    obtain ⟨MG, hMG⟩ : ∃ v, v = numK 4 K kMg := ⟨_, rfl⟩
    obtain ⟨RD, hRD⟩ : ∃ v, v = numK 4 K kRd := ⟨_, rfl⟩
    have h1 := hno kNs (by decide); have h2 := hno kRs (by decide); have h3 := hno kMg (by decide); have h4 := hno kRd (by decide)
    have hrv := hr.out
    unfold optsT at hrv
    rw [← hNS, ← hRS, ← hMG, ← hRD] at hrv
    simp only [← hNS] at h1; simp only [← hRS] at h2; simp only [← hMG] at h3; simp only [← hRD] at h4
    obtain ⟨⟨ms, mb⟩, hG⟩ : ∃ G, G = getT K kMode := ⟨_, rfl⟩
    simp only [← hG] at hge hrv
    unfold kNs at h1; unfold kRs at h2; unfold kMg at h3; unfold kRd at h4; unfold kMode at hge
    have H1 := Lib.hid h1; have H2 := Lib.hid h2; have H3 := Lib.hid h3; have H4 := Lib.hid h4; have HGE := Lib.hid hge; have HRV := Lib.hid hrv
    obtain ⟨KN, hKN⟩ : ∃ n, n = K.length := ⟨_, rfl⟩
    rw [← hKN] at hc6 HGE ⊢
    clear hno hge h1 h2 h3 h4 hrv hNS hRS hMG hRD hG hw6 hgl x56 hat OW5 hr HSP HVC hKN
    refine (H1.out w6 (Ext.refl _)).mono ?_
    rintro e w7 ⟨rfl, x7⟩
    go_wp2_with fail
    refine (H2.out w7 x7).mono ?_
    rintro e w8 ⟨rfl, x8⟩
    go_wp2_with fail
    refine (H3.out w8 (x7.trans x8)).mono ?_
    rintro e w9 ⟨rfl, x9⟩
    go_wp2_with fail
    refine (H4.out w9 ((x7.trans x8).trans x9)).mono ?_
    rintro e wA ⟨rfl, xA⟩
    have XA := Lib.hid (((x7.trans x8).trans x9).trans xA)
    have hcA := XA.out.cell hc6
    have hcA1 := fun ob => ((Ext.refl wA).alloc ob).cell hcA
    clear x7 x8 x9 xA H1 H2 H3 H4
    go_wp2_with fail
    refine (HGE.out _ (XA.out.alloc _)).mono ?_
    rintro e wB ⟨rfl, xB⟩
    have OB := Lib.hid (At.heap_ext (heap_alloc_new wA (.cells #[.int .i64 0, .int .i64 NS, .int .i64 RS, .int .i64 MG, .int .i64 RD] 48)) xB)
    have XB := Lib.hid ((XA.out.alloc (.cells #[.int .i64 0, .int .i64 NS, .int .i64 RS, .int .i64 MG, .int .i64 RD] 48)).trans xB)
    have HGB := Lib.hid (At.heap_ext HG6.out XB.out)
    have hgt : w.heap.size + 1 < wA.heap.size := by have := (Array.getElem?_eq_some_iff.1 HG6.out).1; have := XA.out.size; omega
    clear xB hcA hcA1 hc6
    obtain ⟨gq, hgq⟩ : ∃ g, g = wA.heap.size := ⟨_, rfl⟩
    rw [← hgq] at OB hgt ⊢
    clear hgq
    cases mb with
    | false =>
      have hr : Hid (R = .ok ⟨0, NS, RS, MG, RD⟩) := Lib.hid HRV.out
      obtain ⟨o0, o1, o2, o3, o4⟩ := cells5g OB.out
      obtain ⟨z0, z1, z2, z3, z4⟩ := cells5g HGB.out
      have zf : ∀ j, wB.frozen? ⟨w.heap.size + 1, j, none⟩ = false := (fun j => Lib.frozen_of_heap HGB.out j)
      go_wp2
      (try simp only [Exit.inBlock, Exit.then]); refine bodyPost_ret (results_op rfl _ _ (w.heap.size + 1) _ (.int .i64 0) rfl rfl rfl (set5g HGB.out _ _ _ _ _)) rfl ?_
      rw [hr.out]
      exact ⟨rfl, ext5g (X6.out.trans XB.out) (Nat.le_succ _) _ _ _ _ _⟩
    | true =>
      have hr : Hid (R = .ok ⟨modeN ms, NS, RS, MG, RD⟩) := Lib.hid HRV.out
      have hix := Tryz.slices_Index_string wB.heap.size 0 5 5 modesL ms (wB.alloc (.cells modesC 9)) (by decide) (by decide) (modes_cell wB)
      rw [show Lib.idxOfS (modesL.take 5) ms = modeN ms from rfl] at hix
      obtain ⟨MN, hMN⟩ : ∃ v, v = modeN ms := ⟨_, rfl⟩
      rw [← hMN] at hix hr
      unfold modesC at hix
      have HIX := Lib.hid hix
      clear hix hMN
      have OC := Lib.hid (At.heap_ext OB.out ((Ext.refl wB).alloc (.cells modesC 9)))
      have GC := Lib.hid (At.heap_ext HGB.out ((Ext.refl wB).alloc (.cells modesC 9)))
      unfold modesC at OC GC
      go_wp2_with fail
      refine HIX.out.mono ?_
      rintro e wD ⟨rfl, rfl⟩
      have XC := Lib.hid ((X6.out.trans XB.out).alloc (.cells #[.string ⟨#[108, 97, 121, 101, 114, 101, 100]⟩, .string ⟨#[111, 114, 116, 104, 111, 103, 111, 110, 97, 108]⟩, .string ⟨#[115, 116, 114, 97, 105, 103, 104, 116]⟩, .string ⟨#[116, 105, 100, 121]⟩, .string ⟨#[114, 97, 100, 105, 97, 108]⟩] 9))
      obtain ⟨wC, hwC⟩ : ∃ wC, wC = wB.alloc (.cells #[.string ⟨#[108, 97, 121, 101, 114, 101, 100]⟩, .string ⟨#[111, 114, 116, 104, 111, 103, 111, 110, 97, 108]⟩, .string ⟨#[115, 116, 114, 97, 105, 103, 104, 116]⟩, .string ⟨#[116, 105, 100, 121]⟩, .string ⟨#[114, 97, 100, 105, 97, 108]⟩] 9) := ⟨_, rfl⟩
      rw [← hwC] at OC GC XC ⊢
      clear hwC HIX OB HGB
      obtain ⟨o0, o1, o2, o3, o4⟩ := cells5g OC.out
      have of : ∀ j, wC.frozen? ⟨gq, j, none⟩ = false := fun j => Lib.frozen_of_heap OC.out j
      have OD := Lib.hid (show (wC.setCell ⟨gq, 0, none⟩ (.int .i64 MN)).heap[gq]? = some (.cells #[.int .i64 MN, .int .i64 NS, .int .i64 RS, .int .i64 MG, .int .i64 RD] 48 (0, 0)) from blk_set OC.out 0 _)
      have GD := Lib.hid (show (wC.setCell ⟨gq, 0, none⟩ (.int .i64 MN)).heap[w.heap.size + 1]? = some (.cells #[.int .i64 0, .int .i64 0, .int .i64 0, .int .i64 0, .int .i64 0] 48 (0, 0)) from (Below.heap_setCell _ _ _ _ (show w.heap.size + 1 ≠ gq by omega)).trans GC.out)
      obtain ⟨p0, p1, p2, p3, p4⟩ := cells5g OD.out
      obtain ⟨z0, z1, z2, z3, z4⟩ := cells5g GD.out
      have zf : ∀ j, (wC.setCell ⟨gq, 0, none⟩ (.int .i64 MN)).frozen? ⟨w.heap.size + 1, j, none⟩ = false := (fun j => Lib.frozen_of_heap GD.out j)
      go_wp2
      (try simp only [Exit.inBlock, Exit.then]); refine bodyPost_ret (results_op rfl _ _ (w.heap.size + 1) _ (.int .i64 0) rfl rfl rfl (set5g GD.out _ _ _ _ _)) rfl ?_
      rw [hr.out]
      exact ⟨rfl, ext5g (XC.out.setCell (show w.heap.size ≤ gq by omega) _) (Nat.le_succ _) _ _ _ _ _⟩
end Go.Proofs.YtnancphlkbfglaaGreatDoor.Nm
