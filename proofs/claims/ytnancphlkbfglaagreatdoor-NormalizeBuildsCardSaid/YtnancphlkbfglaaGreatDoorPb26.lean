/- Packed texts: NorBlk -/
import Derived.Test.YtnancphlkbfglaaGreatDoorPb24
import Derived.Test.YtnancphlkbfglaaGreatDoorPb25
import Derived.Deep.CutRange
set_option linter.unusedVariables false
set_option linter.unusedSimpArgs false
namespace Go.Proofs.YtnancphlkbfglaaGreatDoor.Nm
open Go.RowKit Go.Sort Go.Lib Go.Shelf Fx Lx Tr At
theorem blkL_cons (p : Pl) (S : St) (x : Stm) (r : List Stm) : blkL p S (x :: r) = match blkS p S x with
    | .error e => .error e
    | .ok (p, S) => blkL p S r := by rw [blkL]; rcases blkS p S x with e | ⟨p', S'⟩ <;> rfl
theorem blkS_bad {p : Pl} {S : St} {k : Int} {n : ByteArray} {rs al : List Two} {b : List Stm} (h : chkS (.mk k n rs al b) ≠ 0) : blkS p S (.mk k n rs al b) = .error (chkS (.mk k n rs al b)) := by rw [blkS, if_pos h]
theorem blkS_1 {p : Pl} {S : St} {n : ByteArray} {rs al : List Two} {b : List Stm} (h : chkS (.mk 1 n rs al b) = 0) : blkS p S (.mk 1 n rs al b) = match ment n p S with
      | .error e => .error e
      | .ok (v, S) => .ok (p, { S with A := S.A.set v (mrgT (S.A.getD v [] ++ al)) }) := by rw [blkS, if_neg (by omega), if_pos rfl]; rcases ment n p S with e | ⟨v, S'⟩ <;> rfl
theorem blkS_2 {p : Pl} {S : St} {n : ByteArray} {rs al : List Two} {b : List Stm} (h : chkS (.mk 2 n rs al b) = 0) : blkS p S (.mk 2 n rs al b) = match chainT (mrgT (p.e ++ al)) p rs none S with
      | .error e => .error e
      | .ok S => .ok (p, S) := by rw [blkS, if_neg (by omega), if_neg (by decide), if_pos rfl]; cases chainT (mrgT (p.e ++ al)) p rs none S <;> rfl
theorem blkS_3 {p : Pl} {S : St} {n : ByteArray} {rs al : List Two} {b : List Stm} (h : chkS (.mk 3 n rs al b) = 0) : blkS p S (.mk 3 n rs al b) = if n.data.toList = nodeW then .ok ({ p with n := mrgT (p.n ++ al) }, S) else .ok ({ p with e := mrgT (p.e ++ al) }, S) := by rw [blkS, if_neg (by omega), if_neg (by decide), if_neg (by decide), if_pos rfl]
theorem blkS_4 {p : Pl} {S : St} {n : ByteArray} {rs al : List Two} {b : List Stm} (h : chkS (.mk 4 n rs al b) = 0) : blkS p S (.mk 4 n rs al b) = .ok (p, S) := by rw [blkS, if_neg (by omega), if_neg (by decide), if_neg (by decide), if_neg (by decide), if_neg (by decide)]
theorem blkS_5 {p : Pl} {S : St} {n : ByteArray} {rs al : List Two} {b : List Stm} (h : chkS (.mk 5 n rs al b) = 0) : blkS p S (.mk 5 n rs al b) = match clusT p S n b with
      | .error e => .error e
      | .ok S => .ok (p, S) := by
  rw [blkS, if_neg (by omega), if_neg (by decide), if_neg (by decide), if_neg (by decide), if_pos rfl]
  unfold clusT
  split
  · rfl
  · cases blkL { p with c := S.C.length } { S with C := S.C ++ [(n, p.c)] } b <;> rfl
theorem cntL_take (L : List Stm) (i : Nat) (h : i < L.length) : cntL (L.take (i + 1)) = cntL (L.take i) + cntS L[i] := by
  rw [List.take_succ_eq_append_getElem h]
  have key : ∀ (M : List Stm) (x : Stm), cntL (M ++ [x]) = cntL M + cntS x := by
    intro M x
    induction M with
    | nil => rw [List.nil_append, cntL_cons, cntL_nil]; omega
    | cons y M ih => rw [List.cons_append, cntL_cons, cntL_cons, ih]; omega
  exact key _ _
theorem cntL_le (L : List Stm) (i : Nat) : cntL (L.take i) ≤ cntL L := by
  have key : ∀ M N : List Stm, cntL (M ++ N) = cntL M + cntL N := by
    intro M N
    induction M with
    | nil => rw [List.nil_append, cntL_nil]; omega
    | cons y M ih => rw [List.cons_append, cntL_cons, cntL_cons, ih]; omega
  have := key (L.take i) (L.drop i)
  rw [List.take_append_drop] at this
  omega
theorem cntL_len : ∀ L : List Stm, L.length ≤ cntL L
  | [] => by simp
  | x :: r => by have := cntL_len r; rw [cntL_cons, List.length_cons, cntS_body]; omega
theorem row_some {w : World} {B : Nat} {T : TypeId} {sz : Nat} {v : Value} {n : Nat} {xs : List Value} (h : w.ownsRow B T sz v n xs) (h0 : 0 < n) : ∃ g c, v = .slice (some ⟨g, 0, none⟩) n c ∧ n ≤ c ∧ c ≤ maxLen ∧ ∃ cs, w.heap[g]? = some (.cells cs T (0, 0)) := by
  rcases h.2 with ⟨_, rfl⟩ | ⟨g, cap, cur, rfl, _, hg, h1, h2, _⟩
  · exact absurd h0 (by omega)
  · exact ⟨g, cap, rfl, h1, h2, cur, hg⟩
theorem okWL_at : ∀ (L : List Stm) (i : Nat) (h : i < L.length), okWL L → okWS L[i]
  | [], i, h, _ => absurd h (by simp)
  | x :: r, 0, _, ho => by rw [okWL_cons] at ho; exact ho.1
  | x :: r, i + 1, h, ho => by rw [okWL_cons] at ho; exact okWL_at r i (by simpa using h) ho.2
structure BlkAt (w0 : World) (bb m1 m2 B : Nat) (R : Except Int St) (L : List Stm) (k : Nat) (w : World) (gp : Nat) (i : Nat) (p : Pl) (pn pe : Value) (S : St) (wr : World) : Prop where
  r : R = blkL p S (L.drop i)
  s : Sml (10 * (k + cntL (L.take i))) (k + cntL (L.take i)) S
  sp : SmP (k + cntL (L.take i)) p
  b : BldE w0 bb m1 m2 B wr S
  pl : wr.heap[gp]? = some (.cells #[.int .i64 p.c, pn, pe] 71 (0, 0))
  pn : AtL wr pn p.n
  pe : AtL wr pe p.e
  kb : KeepB w wr
theorem BldE.ext {w0 w w2 : World} {bb m1 m2 B : Nat} {S : St} (h : BldE w0 bb m1 m2 B w S) (x : Ext w w2) : BldE w0 bb m1 m2 B w2 S := by
  obtain ⟨_, _, _, _, _, _, h⟩ := h
  exact ⟨_, _, _, _, _, _, h.ext x⟩
theorem BldE.X {w0 w : World} {bb m1 m2 B : Nat} {S : St} (h : BldE w0 bb m1 m2 B w S) : Ext w0 w := by
  obtain ⟨_, _, _, _, _, _, h⟩ := h
  exact h.X
set_option maxHeartbeats 8000000 in
set_option maxRecDepth 100000 in
theorem blk_step (w0 : World) (bb m1 m2 B nn M : Nat) (hnn : nn ≤ w0.heap.size) (he : Env w0) (IH : ∀ M', M' < M → BlkC w0 bb m1 m2 B nn M') : BlkC w0 bb m1 m2 B nn M := by
  intro L b cap p pn pe S k w hcM hst hlen hok hs hp hk hb hpn hpe
  obtain ⟨R, hR⟩ : ∃ R, R = blkL p S L := ⟨_, rfl⟩
  obtain ⟨N, hN⟩ : ∃ N, N = L.length := ⟨_, rfl⟩
  rw [← hR]
  have hlen2 : N ≤ 512 := by have := cntL_len L; omega
  rw [← hN] at hlen ⊢
  clear hlen
  have hC : Hid (BlkAt w0 bb m1 m2 B R L k w w.heap.size 0 p pn pe S (w.alloc (.cells #[.int .i64 p.c, pn, pe] 71))) := Lib.hid (by
    refine ⟨by rw [List.drop_zero]; exact hR, ?_, ?_, hb.ext ((Ext.refl _).alloc _), heap_alloc_new _ _, hpn.ext ((Ext.refl _).alloc _), hpe.ext ((Ext.refl _).alloc _), KeepB.of ((Ext.refl _).alloc _)⟩
    · rw [List.take_zero, cntL_nil]; exact hs
    · rw [List.take_zero, cntL_nil]; exact hp)
  have HST := Lib.hid hst; have HOK := Lib.hid hok; have HE := Lib.hid he; have HIH := Lib.hid IH; have HN := Lib.hid hN; have HCM := Lib.hid hcM; have HK := Lib.hid hk; have HNN := Lib.hid hnn
  have hx0 := hb.X
  have HX0 := Lib.hid hx0
  clear hst hok he IH hR hN hs hp hb hpn hpe hcM hk hnn hx0
  go_enter Tryz.func24, Tryz.ntmps24
  go_wp2_with fail
  obtain ⟨gp, hgp⟩ : ∃ g, g = w.heap.size := ⟨_, rfl⟩
  have HGP := Lib.hid hgp
  rw [← hgp] at hC ⊢
  clear hgp
  go_loopw [14] (fun i' wr => ∃ (i : Nat) (p : Pl) (pn pe : Value) (S : St), i ≤ N ∧ i' = .int .i64 i ∧ Hid (BlkAt w0 bb m1 m2 B R L k w gp i p pn pe S wr)) (fun i' _ => N - (RowKit.intOf i').toNat)
  case atStart => exact ⟨0, p, pn, pe, S, Nat.zero_le _, rfl, hC⟩
  case round =>
    clear hC
    obtain ⟨i, p, pn, pe, S, hi, rfl, hC⟩ := hrel
    obtain ⟨pna, pnc, rfl, hni, -⟩ := hC.out.pn
    obtain ⟨pea, pec, rfl, hei, -⟩ := hC.out.pe
    have HNI := Lib.hid hni; have HEI := Lib.hid hei
    clear hni hei
    by_cases hlt : i < N
    · have hkl : i < L.length := by rw [← HN.out]; exact hlt
      have hx := hC.out.b.X
      obtain ⟨g, o, rfl, hg, hst⟩ := StmsAt.at L HST.out i hkl
      have hoki := okWL_at L i hkl HOK.out
      have hct := cntL_take L i hkl
      have hcle := cntL_le L (i + 1)
      have hrr := hC.out.r
      rw [List.drop_eq_getElem_cons hkl, blkL_cons] at hrr
      have hstm := fun p' S' => Sml.stm L[i] (k + cntL (L.take i)) p p' S S' hoki hC.out.s hC.out.sp
      obtain ⟨x, hxe⟩ : ∃ x, x = L[i] := ⟨_, rfl⟩
      rw [← hxe] at hst hoki hct hrr hstm
      obtain ⟨kind, nm, rs, al, body⟩ := x
      rw [StmAt] at hst
      obtain ⟨r, rc, a, ac, b', bc, c0', c1', c2', c3', c4', hr, ha, hbs, hl1, hl2, hl3, hl4, hl5⟩ := hst
      have c0 := hx.cell c0'; have c1 := hx.cell c1'; have c2 := hx.cell c2'; have c3 := hx.cell c3'; have c4 := hx.cell c4'
      rw [okWS_eq] at hoki
      obtain ⟨⟨ok1, ok2, ok3, ok4, ok5, ok6⟩, okb⟩ := hoki
      simp only [Stm.refs, Stm.attrs, Stm.name, Stm.body] at ok1 ok2 ok3 ok4 ok5 okb
      have hks : k + cntL (L.take (i + 1)) = k + cntL (L.take i) + cntS (.mk kind nm rs al body) := by rw [hct, Nat.add_assoc]
      have hcb := cntS_body (.mk kind nm rs al body)
      simp only [Stm.body] at hcb
      have hkt : k + cntL (L.take i) + (cntL body + 1) ≤ 512 := by have := HK.out; rw [hcb] at hct; omega
      have hbM : cntL body < M := by have := HCM.out; rw [hcb] at hct; omega
      have hnw : nn ≤ wr.heap.size := Nat.le_trans HNN.out hx.size
      have hat : AtrIn wr a al := two_atr (TwoAt.below ha (hx.mono HNN.out))
      have hchk := fun w5 (x : Ext wr w5) => chk_any kind nm rs al body r a b' rc ac bc w5 ok6 (hat.ext x) ok4 ok5 (by omega) (HE.out.ext (hx.trans x))
      have hbd := (form_kinds _ ok6).1
      simp only [Stm.kind] at hbd
      obtain ⟨c, hce⟩ : ∃ c, c = chkS (.mk kind nm rs al body) := ⟨_, rfl⟩
      rw [← hce] at hchk
      have HCK := Lib.hid hchk; have HRR := Lib.hid hrr; have HSTM := Lib.hid hstm; have HKS := Lib.hid hks; have HX := Lib.hid hx; have HCE := Lib.hid hce
      have HR := Lib.hid hr; have HA := Lib.hid ha; have HBS := Lib.hid hbs; have OK1 := Lib.hid ok1; have OK4 := Lib.hid ok4; have OKB := Lib.hid okb; have HAT := Lib.hid hat; have HL5 := Lib.hid hl5; have HKT := Lib.hid hkt; have HBM := Lib.hid hbM
      have b0 : (0 : Int) ≤ (i : Int) := by omega
      have b1 : (i : Int) < (N : Int) := by omega
      clear c0' c1' c2' c3' c4' hr ha hbs hl1 hl2 hl3 hl4 hl5 ok1 ok4 okb ok6 hchk hrr hstm hks hx hce hct hcle hcb hkt hbM hnw hat hxe hg
      by_cases hc0 : c = 0
      case neg =>
        obtain ⟨f1, f2⟩ := nfacts hc0
        have hr : Hid (R = .error c) := Lib.hid (by rw [HRR.out, blkS_bad (by rw [← HCE.out]; exact hc0), ← HCE.out])
        go_wp2_with (go_at_call 55; refine (HCK.out _ ((Ext.refl _).alloc _)).mono ?_; rintro e w5 ⟨rfl, x5⟩)
        go_ret
        rw [hr.out]
        exact ⟨⟨rfl, hc0⟩, hC.out.kb.ext (((Ext.refl _).alloc _).trans x5), HX.out.trans (((Ext.refl _).alloc _).trans x5)⟩
      subst hc0
      obtain ⟨f1, f2⟩ := efacts 0
      rcases hbd with rfl | rfl | rfl | rfl | rfl
      · obtain ⟨A, hA⟩ : ∃ A, A = al.length := ⟨_, rfl⟩
        have hme := @ment_err nm p S
        have hb2 := @blkS_1 p S nm rs al body HCE.out.symm
        have hsm := hC.out.s
        have hmc := fun w5 (x : Ext wr w5) => ment_any w0 bb m1 m2 B nm p (.slice pna p.n.length pnc) (.slice pea p.e.length pec) S w5 (hC.out.b.ext x) (hC.out.pn.ext x) ok5 (by have := hsm.n; have := HKT.out; omega) (by have := hsm.n; have := hsm.a; have := HKT.out; omega)
        have hmo := fun v S2 => @Sml.ment _ _ S hsm nm p hC.out.sp ok5 v S2
        obtain ⟨MT, hMT⟩ : ∃ M, M = ment nm p S := ⟨_, rfl⟩
        rw [← hMT] at hme hb2 hmc hmo
        have HMC := Lib.hid hmc; have HB2 := Lib.hid hb2; have HMO := Lib.hid hmo
        clear hmc hb2 hmo hMT hsm
        cases MT with
        | error er =>
          have he6 := hme rfl
          subst he6
          have hr : Hid (R = .error 6) := Lib.hid (by rw [HRR.out, HB2.out])
          clear hme HMO
          go_wp2_with (first
            | (go_at_call 55; refine (HCK.out _ ((Ext.refl _).alloc _)).mono ?_; rintro e w5 ⟨rfl, x5⟩; have S0 := stm_cells wr 1 nm r a b' rs.length al.length body.length rc ac bc _ x5; have xw5 := ((Ext.refl wr).alloc _).trans x5; have HX5 := Lib.hid xw5; have HP5 := Lib.hid (At.heap_ext hC.out.pl xw5); have p0 : w5.cell? ⟨gp, 0, none⟩ = some (.int .i64 p.c) := (by rw [Lib.cell_of_heap HP5.out]; rfl); have p1 : w5.cell? ⟨gp, 1, none⟩ = some (.slice pna p.n.length pnc) := (by rw [Lib.cell_of_heap HP5.out]; rfl); have p2 : w5.cell? ⟨gp, 2, none⟩ = some (.slice pea p.e.length pec) := (by rw [Lib.cell_of_heap HP5.out]; rfl); have pf : ∀ j, w5.frozen? ⟨gp, j, none⟩ = false := (fun j => Lib.frozen_of_heap HP5.out j); have HB5 := Lib.hid (hC.out.b.ext xw5); have HN5 := Lib.hid (hC.out.pn.ext xw5); have HE5 := Lib.hid (hC.out.pe.ext xw5); have HK5 := Lib.hid (hC.out.kb.ext xw5); have HT5 := Lib.hid (At.heap_ext (heap_alloc_new wr _) x5); clear x5 xw5)
            | (go_at_call 56; refine (HMC.out _ HX5.out).mono ?_; rintro e w6 ⟨⟨rfl, -⟩, kb6, x6⟩))
          go_ret
          rw [hr.out]
          exact ⟨⟨rfl, by decide⟩, HK5.out.trans kb6, x6⟩
        | ok vs =>
          obtain ⟨v, S2⟩ := vs
          obtain ⟨g1, g2, -, -, -⟩ := HMO.out v S2 rfl
          obtain ⟨S3, hS3⟩ : ∃ S3 : St, S3 = { S2 with A := S2.A.set v (mrgT (S2.A.getD v [] ++ al)) } := ⟨_, rfl⟩
          have hb3 : blkS p S (.mk 1 nm rs al body) = .ok (p, S3) := by rw [HB2.out, hS3]
          have hr : Hid (R = blkL p S3 (L.drop (i + 1))) := Lib.hid (by rw [HRR.out, hb3])
          have hs2 : Hid (Sml (10 * (k + cntL (L.take (i + 1)))) (k + cntL (L.take (i + 1))) S3 ∧ SmP (k + cntL (L.take (i + 1))) p) := Lib.hid (by rw [HKS.out]; exact HSTM.out _ _ hb3)
          have hv : v < S2.A.length := by rw [g1.a]; exact g2
          have hav := g1.at' _ (List.getElem_mem hv)
          have hgd : S2.A.getD v [] = S2.A[v] := by rw [List.getD_eq_getElem?_getD, List.getElem?_eq_getElem hv]; rfl
          rw [hgd] at hS3
          have hal5 := g1.a; have hnl5 := g1.n
          have HS3 := Lib.hid hS3; have HAV := Lib.hid hav; have HV := Lib.hid hv
          have hv9 : S2.A.length ≤ 100000 := by have := HKT.out; omega
          clear hme HMO HB2 g1 g2 hS3 hb3 hav hgd hal5 hnl5
          go_wp2_with (first
            | (go_at_call 55; refine (HCK.out _ ((Ext.refl _).alloc _)).mono ?_; rintro e w5 ⟨rfl, x5⟩; have S0 := stm_cells wr 1 nm r a b' rs.length al.length body.length rc ac bc _ x5; have xw5 := ((Ext.refl wr).alloc _).trans x5; have HX5 := Lib.hid xw5; have HP5 := Lib.hid (At.heap_ext hC.out.pl xw5); have p0 : w5.cell? ⟨gp, 0, none⟩ = some (.int .i64 p.c) := (by rw [Lib.cell_of_heap HP5.out]; rfl); have p1 : w5.cell? ⟨gp, 1, none⟩ = some (.slice pna p.n.length pnc) := (by rw [Lib.cell_of_heap HP5.out]; rfl); have p2 : w5.cell? ⟨gp, 2, none⟩ = some (.slice pea p.e.length pec) := (by rw [Lib.cell_of_heap HP5.out]; rfl); have pf : ∀ j, w5.frozen? ⟨gp, j, none⟩ = false := (fun j => Lib.frozen_of_heap HP5.out j); have HB5 := Lib.hid (hC.out.b.ext xw5); have HN5 := Lib.hid (hC.out.pn.ext xw5); have HE5 := Lib.hid (hC.out.pe.ext xw5); have HK5 := Lib.hid (hC.out.kb.ext xw5); have HT5 := Lib.hid (At.heap_ext (heap_alloc_new wr _) x5); clear x5 xw5)
            | (go_at_call 56; refine (HMC.out _ HX5.out).mono ?_; rintro e w6 ⟨⟨rfl, hb6⟩, kb6, x6⟩; have HB6 := Lib.hid hb6; have KB6 := Lib.hid kb6; have HT6 := Lib.hid (kb6.blk _ _ _ _ HT5.out (by decide) (by decide) (by decide) (by decide) (by decide)); have X56 := Lib.hid x6; clear hb6 kb6 x6))
          obtain ⟨nv, av, cv, lv, aw, ks, hb6⟩ := HB6.out
          obtain ⟨ga, gc, rfl, hg1, hg2, cs6, hg6⟩ := row_some hb6.A (by omega)
          obtain ⟨q1, qc, hq, hqi, -⟩ := hb6.At.at hv
          have hav := HAV.out
          have hclo := hb6.A.cells (g := ga) rfl v _ hq
          rw [add0] at hclo
          have hmgo := fun (w7 : World) (x : Ext w6 w7) => mrg0_any q1 a S2.A[v] al qc ac w7 (hqi.ext x) (two_atr (TwoAt.below HA.out ((X56.out.trans x).mono HNN.out))) (by have := hav.1; have := HKT.out; omega) (by omega) (fun q hq => by
            rcases List.mem_append.1 hq with h | h
            · have := hav.2 q h; unfold maxLen; omega
            · have := OK4.out q h; unfold maxLen; omega)
          obtain ⟨own, ho⟩ : ∃ o, o = mrgT (S2.A[v] ++ al) := ⟨_, rfl⟩
          obtain ⟨vl, hvl⟩ : ∃ l, l = S2.A[v].length := ⟨_, rfl⟩
          have hS3 : S3 = { S2 with A := S2.A.set v own } := by rw [HS3.out]; subst ho; rfl
          rw [← ho] at hmgo
          have hmg := fun (w7 : World) (x : Ext w6 w7) => (show Calls Tryz.prog 57 #[.slice q1 vl qc, .slice a al.length ac] w7 fun e w' => AtrRes own e w' ∧ Ext w7 w' by rw [hvl]; exact hmgo w7 x)
          have hcl : w6.cell? ⟨ga, v, none⟩ = some (.slice q1 vl qc) := by rw [hvl]; exact hclo
          have HS4 := Lib.hid hS3
          have HMG := Lib.hid hmg; have HB7 := Lib.hid hb6
          obtain ⟨-, a1, -, -, -, -⟩ := hb6.cells
          have t3 : w6.cell? ⟨wr.heap.size, 3, none⟩ = some (.slice a al.length ac) := by rw [Lib.cell_of_heap HT6.out]; rfl
          have hcl0 : w6.cell? ⟨ga, 0 + v, none⟩ = some (.slice q1 vl qc) := by rw [Nat.zero_add]; exact hcl
          have HG6 := Lib.hid hg6
          have v0 : (0 : Int) ≤ (v : Int) := by omega
          have v1 : (v : Int) < (S2.A.length : Int) := by omega
          clear hb6 hmg hmgo hclo hS3 ho hvl hqi hq hav HS3 HAV HB6 hg6
          have HP6 := Lib.hid (KB6.out.blk _ _ _ _ HP5.out (by decide) (by decide) (by decide) (by decide) (by decide))
          have HN6 := Lib.hid (KB6.out.atL HN5.out); have HE6 := Lib.hid (KB6.out.atL HE5.out); have HK6 := Lib.hid (HK5.out.trans KB6.out)
          go_region_law (go_simp; go_at_call 57; refine (HMG.out _ (by first | exact (Ext.refl _).drew | exact Ext.refl _)).mono ?_; rintro e w7 ⟨⟨oa, oc, rfl, hoi, hoz⟩, x7⟩; have x67 : Ext w6 w7 := Ext.trans (by first | exact (Ext.refl _).drew | exact Ext.refl _) x7; have HG7 := Lib.hid (At.heap_ext HG6.out x67); have z1 : ∀ j, w7.frozen? ⟨ga, j, none⟩ = false := (fun j => Lib.frozen_of_heap HG7.out j); have k1 := x67.cell a1; have k2 := x67.cell hcl; have k3 := x67.cell hcl0; have k4 := x67.cell t3; have FIN := Lib.hid ((HB7.out.ext x67).setA v HV.out (L := own) ⟨oa, oc, rfl, hoi, hoz⟩); have KF := Lib.hid ((KeepB.of x67).trans FIN.out.2); clear hoi hoz x7 x67)
          all_goals (
            go_wp2
            go_roundw
            case rel => first
              | exact ⟨i + 1, p, _, _, S3, by omega, by go_num, Lib.hid ⟨hr.out, hs2.out.1, hs2.out.2, by rw [HS4.out]; exact ⟨_, _, _, _, _, _, FIN.out.1⟩, KF.out.blk _ _ _ _ HP6.out (by decide) (by decide) (by decide) (by decide) (by decide), KF.out.atL HN6.out, KF.out.atL HE6.out, HK6.out.trans KF.out⟩⟩
              | exact ⟨i + 1, p, _, _, S3, by omega, by go_num, Lib.hid ⟨hr.out, hs2.out.1, hs2.out.2, by rw [HS4.out]; exact ⟨_, _, _, _, _, _, FIN.out.1.ext ((Ext.refl _).drew)⟩, (KF.out.ext ((Ext.refl _).drew)).blk _ _ _ _ HP6.out (by decide) (by decide) (by decide) (by decide) (by decide), (KF.out.ext ((Ext.refl _).drew)).atL HN6.out, (KF.out.ext ((Ext.refl _).drew)).atL HE6.out, HK6.out.trans (KF.out.ext ((Ext.refl _).drew))⟩⟩
            case measure => simp [RowKit.intOf]; omega)
      · obtain ⟨CT, hCT⟩ : ∃ t, t = chainT (mrgT (p.e ++ al)) p rs none S := ⟨_, rfl⟩
        have hch := fun w5 (x : Ext wr w5) => chain_any w0 bb m1 m2 B nn (k + cntL (L.take i)) nm rs al p (.slice pna p.n.length pnc) (.slice pea p.e.length pec) S r a b' rs.length body.length rc ac bc w5 (hC.out.b.ext x) (hC.out.pn.ext x) (hC.out.pe.ext x) rfl HR.out HA.out HNN.out hC.out.s hC.out.sp (by have := HKT.out; omega) OK1.out ok2 OK4.out ok3
        have hb2 := @blkS_2 p S nm rs al body HCE.out.symm
        rw [← hCT] at hch hb2
        have HCH := Lib.hid hch
        have HB2 := Lib.hid hb2
        clear hch hCT hb2
        cases CT with
        | error er =>
          have hr : Hid (R = .error er) := Lib.hid (by rw [HRR.out, HB2.out])
          go_wp2_with (first
            | (go_at_call 55; refine (HCK.out _ ((Ext.refl _).alloc _)).mono ?_; rintro e w5 ⟨rfl, x5⟩; have S0 := stm_cells wr 2 nm r a b' rs.length al.length body.length rc ac bc _ x5; have xw5 := ((Ext.refl wr).alloc _).trans x5; have HX5 := Lib.hid xw5; have HP5 := Lib.hid (At.heap_ext hC.out.pl xw5); have p0 : w5.cell? ⟨gp, 0, none⟩ = some (.int .i64 p.c) := (by rw [Lib.cell_of_heap HP5.out]; rfl); have p1 : w5.cell? ⟨gp, 1, none⟩ = some (.slice pna p.n.length pnc) := (by rw [Lib.cell_of_heap HP5.out]; rfl); have p2 : w5.cell? ⟨gp, 2, none⟩ = some (.slice pea p.e.length pec) := (by rw [Lib.cell_of_heap HP5.out]; rfl); have pf : ∀ j, w5.frozen? ⟨gp, j, none⟩ = false := (fun j => Lib.frozen_of_heap HP5.out j); have HB5 := Lib.hid (hC.out.b.ext xw5); have HN5 := Lib.hid (hC.out.pn.ext xw5); have HE5 := Lib.hid (hC.out.pe.ext xw5); have HK5 := Lib.hid (hC.out.kb.ext xw5); have HT5 := Lib.hid (At.heap_ext (heap_alloc_new wr _) x5); clear x5 xw5)
            | (go_at_call 58; refine (HCH.out _ HX5.out).mono ?_; rintro e w6 ⟨⟨rfl, her⟩, kb6, x6⟩; obtain ⟨g1, g2⟩ := nfacts her))
          go_ret
          rw [hr.out]
          exact ⟨⟨rfl, her⟩, HK5.out.trans kb6, x6⟩
        | ok S2 =>
          have hr : Hid (R = blkL p S2 (L.drop (i + 1))) := Lib.hid (by rw [HRR.out, HB2.out])
          have hs2 : Hid (Sml (10 * (k + cntL (L.take (i + 1)))) (k + cntL (L.take (i + 1))) S2 ∧ SmP (k + cntL (L.take (i + 1))) p) := Lib.hid (by rw [HKS.out]; exact HSTM.out _ _ HB2.out)
          go_wp2_with (first
            | (go_at_call 55; refine (HCK.out _ ((Ext.refl _).alloc _)).mono ?_; rintro e w5 ⟨rfl, x5⟩; have S0 := stm_cells wr 2 nm r a b' rs.length al.length body.length rc ac bc _ x5; have xw5 := ((Ext.refl wr).alloc _).trans x5; have HX5 := Lib.hid xw5; have HP5 := Lib.hid (At.heap_ext hC.out.pl xw5); have p0 : w5.cell? ⟨gp, 0, none⟩ = some (.int .i64 p.c) := (by rw [Lib.cell_of_heap HP5.out]; rfl); have p1 : w5.cell? ⟨gp, 1, none⟩ = some (.slice pna p.n.length pnc) := (by rw [Lib.cell_of_heap HP5.out]; rfl); have p2 : w5.cell? ⟨gp, 2, none⟩ = some (.slice pea p.e.length pec) := (by rw [Lib.cell_of_heap HP5.out]; rfl); have pf : ∀ j, w5.frozen? ⟨gp, j, none⟩ = false := (fun j => Lib.frozen_of_heap HP5.out j); have HB5 := Lib.hid (hC.out.b.ext xw5); have HN5 := Lib.hid (hC.out.pn.ext xw5); have HE5 := Lib.hid (hC.out.pe.ext xw5); have HK5 := Lib.hid (hC.out.kb.ext xw5); have HT5 := Lib.hid (At.heap_ext (heap_alloc_new wr _) x5); clear x5 xw5)
            | (go_at_call 58; refine (HCH.out _ HX5.out).mono ?_; rintro e w6 ⟨⟨rfl, hb6⟩, kb6, x6⟩; have HB6 := Lib.hid hb6; have KB6 := Lib.hid kb6; clear hb6 kb6))
          go_roundw
          case rel => exact ⟨i + 1, p, _, _, S2, by omega, by go_num, Lib.hid ⟨hr.out, hs2.out.1, hs2.out.2, HB6.out, KB6.out.blk _ _ _ _ HP5.out (by decide) (by decide) (by decide) (by decide) (by decide), KB6.out.atL HN5.out, KB6.out.atL HE5.out, HK5.out.trans KB6.out⟩⟩
          case measure => simp [RowKit.intOf]; omega
      · have hb3 := @blkS_3 p S nm rs al body HCE.out.symm
        have n1 := litEq nm [110, 111, 100, 101]
        by_cases hw : nm.data.toList = nodeW
        · rw [decide_eq_true (show nm.data.toList = [110, 111, 100, 101] from hw)] at n1
          rw [if_pos hw] at hb3
          obtain ⟨own, ho⟩ : ∃ o, o = mrgT (p.n ++ al) := ⟨_, rfl⟩
          have hmg := fun (w7 : World) (x : Ext wr w7) => mrg0_any pna a p.n al pnc ac w7 (HNI.out.ext x) (HAT.out.ext x) (by have := hC.out.sp.2.2.1.1; have := HKT.out; omega) (by omega) (fun q hq => by
            rcases List.mem_append.1 hq with h | h
            · have := hC.out.sp.2.2.1.2 q h; unfold maxLen; omega
            · have := OK4.out q h; unfold maxLen; omega)
          rw [← ho] at hmg
          have hb4 : blkS p S (.mk 3 nm rs al body) = .ok ({ p with n := own }, S) := by rw [hb3, ho]
          have hr : Hid (R = blkL { p with n := own } S (L.drop (i + 1))) := Lib.hid (by rw [HRR.out, hb4])
          have hs2 : Hid (Sml (10 * (k + cntL (L.take (i + 1)))) (k + cntL (L.take (i + 1))) S ∧ SmP (k + cntL (L.take (i + 1))) { p with n := own }) := Lib.hid (by rw [HKS.out]; exact HSTM.out _ _ hb4)
          have HMG := Lib.hid hmg
          clear hmg hb3 hb4 hw ho
          go_wp2_with (first
            | (go_at_call 55; refine (HCK.out _ ((Ext.refl _).alloc _)).mono ?_; rintro e w5 ⟨rfl, x5⟩; have S0 := stm_cells wr 3 nm r a b' rs.length al.length body.length rc ac bc _ x5; have xw5 := ((Ext.refl wr).alloc _).trans x5; have HX5 := Lib.hid xw5; have HP5 := Lib.hid (At.heap_ext hC.out.pl xw5); have p0 : w5.cell? ⟨gp, 0, none⟩ = some (.int .i64 p.c) := (by rw [Lib.cell_of_heap HP5.out]; rfl); have p1 : w5.cell? ⟨gp, 1, none⟩ = some (.slice pna p.n.length pnc) := (by rw [Lib.cell_of_heap HP5.out]; rfl); have p2 : w5.cell? ⟨gp, 2, none⟩ = some (.slice pea p.e.length pec) := (by rw [Lib.cell_of_heap HP5.out]; rfl); have pf : ∀ j, w5.frozen? ⟨gp, j, none⟩ = false := (fun j => Lib.frozen_of_heap HP5.out j); have HB5 := Lib.hid (hC.out.b.ext xw5); have HN5 := Lib.hid (hC.out.pn.ext xw5); have HE5 := Lib.hid (hC.out.pe.ext xw5); have HK5 := Lib.hid (hC.out.kb.ext xw5); have HT5 := Lib.hid (At.heap_ext (heap_alloc_new wr _) x5); clear x5 xw5)
            | (go_at_call 57; refine (HMG.out _ HX5.out).mono ?_; rintro e w6 ⟨⟨oa, oc, rfl, hoi, hoz⟩, x6⟩; have HP6 := Lib.hid (At.heap_ext HP5.out x6); have HO6 := Lib.hid (show AtL w6 (.slice oa own.length oc) own from ⟨oa, oc, rfl, hoi, hoz⟩); have X6 := Lib.hid x6; have pf6 : ∀ j, w6.frozen? ⟨gp, j, none⟩ = false := (fun j => Lib.frozen_of_heap HP6.out j); have q1 : w6.cell? ⟨gp, 1, none⟩ = some (.slice pna p.n.length pnc) := (by rw [Lib.cell_of_heap HP6.out]; rfl); clear hoi hoz x6))
          have hgp := HGP.out
          have hg0 := HX0.out.size
          go_roundw
          case rel => exact ⟨i + 1, { p with n := own }, _, _, S, by omega, by go_num, Lib.hid ⟨hr.out, hs2.out.1, hs2.out.2, by
              obtain ⟨_, _, _, _, _, _, h⟩ := HB5.out.ext X6.out
              exact ⟨_, _, _, _, _, _, h.other HP6.out (by omega) (by decide) (by decide) (by decide) (by decide) (by decide) (by decide)⟩, by rw [blk_set HP6.out]; rfl, HO6.out.other HP6.out (by decide), (HE5.out.ext X6.out).other HP6.out (by decide), (HK5.out.ext X6.out).set (by omega)⟩⟩
          case measure => simp [RowKit.intOf]; omega
        · rw [decide_eq_false (show ¬ nm.data.toList = [110, 111, 100, 101] from hw)] at n1
          rw [if_neg hw] at hb3
          obtain ⟨own, ho⟩ : ∃ o, o = mrgT (p.e ++ al) := ⟨_, rfl⟩
          have hmg := fun (w7 : World) (x : Ext wr w7) => mrg0_any pea a p.e al pec ac w7 (HEI.out.ext x) (HAT.out.ext x) (by have := hC.out.sp.2.2.2.1; have := HKT.out; omega) (by omega) (fun q hq => by
            rcases List.mem_append.1 hq with h | h
            · have := hC.out.sp.2.2.2.2 q h; unfold maxLen; omega
            · have := OK4.out q h; unfold maxLen; omega)
          rw [← ho] at hmg
          have hb4 : blkS p S (.mk 3 nm rs al body) = .ok ({ p with e := own }, S) := by rw [hb3, ho]
          have hr : Hid (R = blkL { p with e := own } S (L.drop (i + 1))) := Lib.hid (by rw [HRR.out, hb4])
          have hs2 : Hid (Sml (10 * (k + cntL (L.take (i + 1)))) (k + cntL (L.take (i + 1))) S ∧ SmP (k + cntL (L.take (i + 1))) { p with e := own }) := Lib.hid (by rw [HKS.out]; exact HSTM.out _ _ hb4)
          have HMG := Lib.hid hmg
          clear hmg hb3 hb4 hw ho
          go_wp2_with (first
            | (go_at_call 55; refine (HCK.out _ ((Ext.refl _).alloc _)).mono ?_; rintro e w5 ⟨rfl, x5⟩; have S0 := stm_cells wr 3 nm r a b' rs.length al.length body.length rc ac bc _ x5; have xw5 := ((Ext.refl wr).alloc _).trans x5; have HX5 := Lib.hid xw5; have HP5 := Lib.hid (At.heap_ext hC.out.pl xw5); have p0 : w5.cell? ⟨gp, 0, none⟩ = some (.int .i64 p.c) := (by rw [Lib.cell_of_heap HP5.out]; rfl); have p1 : w5.cell? ⟨gp, 1, none⟩ = some (.slice pna p.n.length pnc) := (by rw [Lib.cell_of_heap HP5.out]; rfl); have p2 : w5.cell? ⟨gp, 2, none⟩ = some (.slice pea p.e.length pec) := (by rw [Lib.cell_of_heap HP5.out]; rfl); have pf : ∀ j, w5.frozen? ⟨gp, j, none⟩ = false := (fun j => Lib.frozen_of_heap HP5.out j); have HB5 := Lib.hid (hC.out.b.ext xw5); have HN5 := Lib.hid (hC.out.pn.ext xw5); have HE5 := Lib.hid (hC.out.pe.ext xw5); have HK5 := Lib.hid (hC.out.kb.ext xw5); have HT5 := Lib.hid (At.heap_ext (heap_alloc_new wr _) x5); clear x5 xw5)
            | (go_at_call 57; refine (HMG.out _ HX5.out).mono ?_; rintro e w6 ⟨⟨oa, oc, rfl, hoi, hoz⟩, x6⟩; have HP6 := Lib.hid (At.heap_ext HP5.out x6); have HO6 := Lib.hid (show AtL w6 (.slice oa own.length oc) own from ⟨oa, oc, rfl, hoi, hoz⟩); have X6 := Lib.hid x6; have pf6 : ∀ j, w6.frozen? ⟨gp, j, none⟩ = false := (fun j => Lib.frozen_of_heap HP6.out j); have q1 : w6.cell? ⟨gp, 2, none⟩ = some (.slice pea p.e.length pec) := (by rw [Lib.cell_of_heap HP6.out]; rfl); clear hoi hoz x6))
          have hgp := HGP.out
          have hg0 := HX0.out.size
          go_roundw
          case rel => exact ⟨i + 1, { p with e := own }, _, _, S, by omega, by go_num, Lib.hid ⟨hr.out, hs2.out.1, hs2.out.2, by
              obtain ⟨_, _, _, _, _, _, h⟩ := HB5.out.ext X6.out
              exact ⟨_, _, _, _, _, _, h.other HP6.out (by omega) (by decide) (by decide) (by decide) (by decide) (by decide) (by decide)⟩, by rw [blk_set HP6.out]; rfl, (HN5.out.ext X6.out).other HP6.out (by decide), HO6.out.other HP6.out (by decide), (HK5.out.ext X6.out).set (by omega)⟩⟩
          case measure => simp [RowKit.intOf]; omega
      · have hb4 := @blkS_4 p S nm rs al body HCE.out.symm
        have hr : Hid (R = blkL p S (L.drop (i + 1))) := Lib.hid (by rw [HRR.out, hb4])
        have hs2 : Hid (Sml (10 * (k + cntL (L.take (i + 1)))) (k + cntL (L.take (i + 1))) S ∧ SmP (k + cntL (L.take (i + 1))) p) := Lib.hid (by rw [HKS.out]; exact HSTM.out _ _ hb4)
        clear hb4
        go_wp2_with (go_at_call 55; refine (HCK.out _ ((Ext.refl _).alloc _)).mono ?_; rintro e w5 ⟨rfl, x5⟩; have S0 := stm_cells wr 4 nm r a b' rs.length al.length body.length rc ac bc _ x5; have xw5 := ((Ext.refl wr).alloc _).trans x5; have HX5 := Lib.hid xw5; have HP5 := Lib.hid (At.heap_ext hC.out.pl xw5); have p0 : w5.cell? ⟨gp, 0, none⟩ = some (.int .i64 p.c) := (by rw [Lib.cell_of_heap HP5.out]; rfl); have p1 : w5.cell? ⟨gp, 1, none⟩ = some (.slice pna p.n.length pnc) := (by rw [Lib.cell_of_heap HP5.out]; rfl); have p2 : w5.cell? ⟨gp, 2, none⟩ = some (.slice pea p.e.length pec) := (by rw [Lib.cell_of_heap HP5.out]; rfl); have pf : ∀ j, w5.frozen? ⟨gp, j, none⟩ = false := (fun j => Lib.frozen_of_heap HP5.out j); have HB5 := Lib.hid (hC.out.b.ext xw5); have HN5 := Lib.hid (hC.out.pn.ext xw5); have HE5 := Lib.hid (hC.out.pe.ext xw5); have HK5 := Lib.hid (hC.out.kb.ext xw5); have HT5 := Lib.hid (At.heap_ext (heap_alloc_new wr _) x5); clear x5 xw5)
        go_roundw
        case rel => exact ⟨i + 1, p, _, _, S, by omega, by go_num, Lib.hid ⟨hr.out, hs2.out.1, hs2.out.2, HB5.out, HP5.out, HN5.out, HE5.out, HK5.out⟩⟩
        case measure => simp [RowKit.intOf]; omega
      · obtain ⟨CT, hCT⟩ : ∃ t, t = clusT p S nm body := ⟨_, rfl⟩
        have hch := fun w5 (x : Ext wr w5) => clus_of w0 bb m1 m2 B nn (M - 1) (k + cntL (L.take i)) (HIH.out (M - 1) (by have := HBM.out; omega)) nm body p (.slice pna p.n.length pnc) (.slice pea p.e.length pec) S r a b' rs.length al.length rc ac bc w5 (hC.out.b.ext x) (hC.out.pn.ext x) (hC.out.pe.ext x) HBS.out HL5.out (by have := HBM.out; omega) OKB.out hC.out.s hC.out.sp (by have := HKT.out; omega) ok5
        have hb2 := @blkS_5 p S nm rs al body HCE.out.symm
        rw [← hCT] at hch hb2
        have HCH := Lib.hid hch
        have HB2 := Lib.hid hb2
        clear hch hCT hb2
        cases CT with
        | error er =>
          have hr : Hid (R = .error er) := Lib.hid (by rw [HRR.out, HB2.out])
          go_wp2_with (first
            | (go_at_call 55; refine (HCK.out _ ((Ext.refl _).alloc _)).mono ?_; rintro e w5 ⟨rfl, x5⟩; have S0 := stm_cells wr 5 nm r a b' rs.length al.length body.length rc ac bc _ x5; have xw5 := ((Ext.refl wr).alloc _).trans x5; have HX5 := Lib.hid xw5; have HP5 := Lib.hid (At.heap_ext hC.out.pl xw5); have p0 : w5.cell? ⟨gp, 0, none⟩ = some (.int .i64 p.c) := (by rw [Lib.cell_of_heap HP5.out]; rfl); have p1 : w5.cell? ⟨gp, 1, none⟩ = some (.slice pna p.n.length pnc) := (by rw [Lib.cell_of_heap HP5.out]; rfl); have p2 : w5.cell? ⟨gp, 2, none⟩ = some (.slice pea p.e.length pec) := (by rw [Lib.cell_of_heap HP5.out]; rfl); have pf : ∀ j, w5.frozen? ⟨gp, j, none⟩ = false := (fun j => Lib.frozen_of_heap HP5.out j); have HB5 := Lib.hid (hC.out.b.ext xw5); have HN5 := Lib.hid (hC.out.pn.ext xw5); have HE5 := Lib.hid (hC.out.pe.ext xw5); have HK5 := Lib.hid (hC.out.kb.ext xw5); have HT5 := Lib.hid (At.heap_ext (heap_alloc_new wr _) x5); clear x5 xw5)
            | (go_at_call 59; refine (HCH.out _ HX5.out).mono ?_; rintro e w6 ⟨⟨rfl, her⟩, kb6, x6⟩; obtain ⟨g1, g2⟩ := nfacts her))
          go_ret
          rw [hr.out]
          exact ⟨⟨rfl, her⟩, HK5.out.trans kb6, x6⟩
        | ok S2 =>
          have hr : Hid (R = blkL p S2 (L.drop (i + 1))) := Lib.hid (by rw [HRR.out, HB2.out])
          have hs2 : Hid (Sml (10 * (k + cntL (L.take (i + 1)))) (k + cntL (L.take (i + 1))) S2 ∧ SmP (k + cntL (L.take (i + 1))) p) := Lib.hid (by rw [HKS.out]; exact HSTM.out _ _ HB2.out)
          go_wp2_with (first
            | (go_at_call 55; refine (HCK.out _ ((Ext.refl _).alloc _)).mono ?_; rintro e w5 ⟨rfl, x5⟩; have S0 := stm_cells wr 5 nm r a b' rs.length al.length body.length rc ac bc _ x5; have xw5 := ((Ext.refl wr).alloc _).trans x5; have HX5 := Lib.hid xw5; have HP5 := Lib.hid (At.heap_ext hC.out.pl xw5); have p0 : w5.cell? ⟨gp, 0, none⟩ = some (.int .i64 p.c) := (by rw [Lib.cell_of_heap HP5.out]; rfl); have p1 : w5.cell? ⟨gp, 1, none⟩ = some (.slice pna p.n.length pnc) := (by rw [Lib.cell_of_heap HP5.out]; rfl); have p2 : w5.cell? ⟨gp, 2, none⟩ = some (.slice pea p.e.length pec) := (by rw [Lib.cell_of_heap HP5.out]; rfl); have pf : ∀ j, w5.frozen? ⟨gp, j, none⟩ = false := (fun j => Lib.frozen_of_heap HP5.out j); have HB5 := Lib.hid (hC.out.b.ext xw5); have HN5 := Lib.hid (hC.out.pn.ext xw5); have HE5 := Lib.hid (hC.out.pe.ext xw5); have HK5 := Lib.hid (hC.out.kb.ext xw5); have HT5 := Lib.hid (At.heap_ext (heap_alloc_new wr _) x5); clear x5 xw5)
            | (go_at_call 59; refine (HCH.out _ HX5.out).mono ?_; rintro e w6 ⟨⟨rfl, hb6⟩, kb6, x6⟩; have HB6 := Lib.hid hb6; have KB6 := Lib.hid kb6; clear hb6 kb6))
          go_roundw
          case rel => exact ⟨i + 1, p, _, _, S2, by omega, by go_num, Lib.hid ⟨hr.out, hs2.out.1, hs2.out.2, HB6.out, KB6.out.blk _ _ _ _ HP5.out (by decide) (by decide) (by decide) (by decide) (by decide), KB6.out.atL HN5.out, KB6.out.atL HE5.out, HK5.out.trans KB6.out⟩⟩
          case measure => simp [RowKit.intOf]; omega
    · have hr : Hid (R = .ok S) := Lib.hid (by rw [hC.out.r, List.drop_eq_nil_of_le (by rw [← HN.out]; omega)]; rw [blkL])
      go_wp2
      go_ret
      rw [hr.out]
      exact ⟨⟨rfl, hC.out.b⟩, hC.out.kb, hC.out.b.X⟩
theorem blk_any (w0 : World) (bb m1 m2 B nn : Nat) (hnn : nn ≤ w0.heap.size) (he : Env w0) : ∀ M, BlkC w0 bb m1 m2 B nn M := fun M => by
  induction M using Nat.strongRecOn with
  | _ M ih => exact blk_step w0 bb m1 m2 B nn M hnn he ih
end Go.Proofs.YtnancphlkbfglaaGreatDoor.Nm
