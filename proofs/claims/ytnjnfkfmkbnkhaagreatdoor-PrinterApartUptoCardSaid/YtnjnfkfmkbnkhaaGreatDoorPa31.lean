/- Packed texts: TreSml, TreLawB, TreCnt -/
import Derived.Test.YtnjnfkfmkbnkhaaGreatDoorPa27
import Derived.Test.YtnjnfkfmkbnkhaaGreatDoorPa30
import Derived.Lib.SmallJoins
set_option linter.unusedVariables false
set_option linter.unusedSimpArgs false
/- What small returns. -/
namespace Go.Proofs.YtnjnfkfmkbnkhaaGreatDoor.Tr
open Go.RowKit Go.Sort Go.Lib Go.Shelf Fx Lx

def small2 (q : Two) : Bool := decide (q.1.size ≤ 100) && decide (q.2.size ≤ 100)
def smallS (p : Stm × Nat) : Bool := decide (p.1.refs.length ≤ 20) && decide (p.1.attrs.length ≤ 20) && decide (p.1.name.size ≤ 100) && p.1.attrs.all small2 && p.1.refs.all small2
def smallB (nm : ByteArray) (L : List Stm) : Bool := decide ((flatL 0 L).length ≤ 60) && decide (nm.size ≤ 100) && (flatL 0 L).all smallS
set_option maxHeartbeats 8000000 in
set_option maxRecDepth 100000 in
theorem small_any (nm : ByteArray) (dir : Bool) (b : Option Addr) (L : List Stm) (cap n : Nat) (w : World) (hn : n ≤ w.heap.size) (h : StmsAt n w b L) (hs : sizeL L ≤ 1048576) :
    Calls Tryz.prog 7 #[.agg #[.string nm, .bool dir, .slice b L.length cap]] w fun e w' => e = .returned (.bool (smallB nm L)) ∧ Ext w w' := by
  have hx0 : Ext w (w.alloc (.cells #[.string nm, .bool dir, .slice b L.length cap] 24)) := (Ext.refl _).alloc _
  have hcl := tree_cells w nm dir b L.length cap
  have hpre := fun w1 (x : Ext w w1) => preR_any 1048576 L b cap 0 n w1 hs (Nat.le_refl _) (by decide) (StmsAt.below (Below.mono x hn) L h) (by have h := x.size; omega)
  obtain ⟨V, hV⟩ : ∃ V, V = smallB nm L := ⟨_, rfl⟩
  rw [← hV]
  unfold smallB at hV
  obtain ⟨k0, k1, k2⟩ := hcl _ (Ext.refl _)
  have HSM : Hid (∀ p ∈ flatL 0 L, sizeS p.1 ≤ 1048576) := Lib.hid (fun p hp => Nat.le_trans (mem_flat_size 0 L p hp) hs)
  generalize flatL 0 L = F at *
  generalize L.length = N at *
  have HCL := Lib.hid hcl; have HPRE := Lib.hid hpre; have HN := Lib.hid hn
  clear hcl hpre h hs hn
  by_cases h6 : F.length ≤ 60
  · rw [decide_eq_true h6, Bool.true_and] at hV
    have g5 : decide ((60 : Int) < F.length) = false := decide_eq_false (by omega)
    by_cases h1 : nm.size ≤ 100
    · rw [decide_eq_true h1, Bool.true_and] at hV
      have g6 : decide ((100 : Int) < nm.size) = false := decide_eq_false (by omega)
      have HF : Hid (V = (F.drop 0).all smallS) := Lib.hid (by rw [hV, List.drop_zero])
      clear hV h1
      go_enter Tryz.func7, Tryz.ntmps7
      go_wp2_with (go_at_call 20; refine (HPRE.out _ hx0).mono ?_; rintro e w4 ⟨⟨g, c, C, rfl, ho, hsx⟩, x4⟩; obtain ⟨k0, k1, k2⟩ := HCL.out _ x4)
      have HO := Lib.hid ho; have HSX := Lib.hid hsx
      have hx4 := hx0.trans x4
      clear ho hsx k0 k1 k2 x4
      go_loopw [4] (fun i' wr => ∃ k : Nat, k ≤ F.length ∧ i' = .int .i64 k ∧ Ext w4 wr ∧ Hid (V = (F.drop k).all smallS)) (fun i' _ => F.length - (RowKit.intOf i').toNat)
      case atStart => exact ⟨0, by omega, rfl, Ext.refl _, HF⟩
      case round =>
        obtain ⟨k, hk, rfl, hx, hb⟩ := hrel
        clear HF
        by_cases hlt : k < F.length
        · obtain ⟨r, a, b', rc, ac, bc, hfl, c0, c1, c2, c3, c4, c5⟩ := six_cells (own_ext' HO.out hx) (HSX.out.below (Below.mono hx (by have h := hx4.size; have := HN.out; omega))) k hlt
          have hst := hb.out
          rw [List.drop_eq_getElem_cons hlt, List.all_cons] at hst
          have hsz := HSM.out F[k] (List.getElem_mem hlt)
          obtain ⟨p, hp⟩ : ∃ p, p = F[k] := ⟨_, rfl⟩
          rw [← hp] at hst hfl c0 c1 c2 c3 c4 c5 hsz
          clear hp hb
          obtain ⟨⟨kind, sn, rs, al, body⟩, lev⟩ := p
          replace hsz : sizeS (.mk kind sn rs al body) ≤ 1048576 := hsz
          have hbd := sizeS_body (.mk kind sn rs al body)
          simp only [Stm.body, Stm.name, Stm.refs, Stm.attrs, Stm.kind] at hbd c0 c1 c2 c3 c4 c5
          rw [show smallS (.mk kind sn rs al body, lev) = (decide (rs.length ≤ 20) && decide (al.length ≤ 20) && decide (sn.size ≤ 100) && al.all small2 && rs.all small2) from rfl] at hst
          have hhr := hfl.hr.in; have hha := hfl.ha.in
          simp only [Stm.refs, Stm.attrs] at hhr hha
          have hbx : Ext wr (wr.alloc (.cells #[.int .i64 kind, .string sn, .slice r rs.length rc, .slice a al.length ac, .slice b' body.length bc] 47)) := (Ext.refl _).alloc _
          have hsc := stm_cells wr kind sn r a b' rs.length al.length body.length rc ac bc
          obtain ⟨R, hR⟩ : ∃ R, R = rs.length := ⟨_, rfl⟩
          obtain ⟨A, hA⟩ : ∃ A, A = al.length := ⟨_, rfl⟩
          rw [← hR, ← hA] at hst hbx hsc
          rw [← hR] at c2
          rw [← hA] at c3
          obtain ⟨q0, q1, q2, q3, q4⟩ := hsc _ (Ext.refl _)
          have HR := Lib.hid (hhr.ext hbx); have HA := Lib.hid (hha.ext hbx)
          have HX := Lib.hid ((hx4.trans hx).trans hbx)
          have HX4 := Lib.hid (hx.trans hbx)
          have HRL := Lib.hid hR; have HAL := Lib.hid hA
          generalize body.length = B at *
          clear hsz hbd hfl hhr hha hbx hsc hR hA
          by_cases e1 : R ≤ 20
          · have f1 : decide ((20 : Int) < R) = false := decide_eq_false (by omega)
            by_cases e2 : A ≤ 20
            · have f2 : decide ((20 : Int) < A) = false := decide_eq_false (by omega)
              by_cases e3 : sn.size ≤ 100
              · have f3 : decide ((100 : Int) < sn.size) = false := decide_eq_false (by omega)
                rw [decide_eq_true e1, decide_eq_true e2, decide_eq_true e3, Bool.true_and, Bool.true_and, Bool.true_and] at hst
                obtain ⟨X, hX⟩ : ∃ X, X = al.all small2 := ⟨_, rfl⟩
                obtain ⟨Y, hY⟩ : ∃ Y, Y = rs.all small2 := ⟨_, rfl⟩
                rw [← hX, ← hY] at hst
                have HXX : Hid (X = (al.drop 0).all small2) := Lib.hid hX
                have HYY : Hid (Y = (rs.drop 0).all small2) := Lib.hid hY
                have HST := Lib.hid hst
                clear hX hY hst e3
                go_wp2_with fail
                go_loop [6] (fun j' => ∃ j : Nat, j ≤ A ∧ j' = .int .i64 j ∧ Hid (X = (al.drop j).all small2)) (fun j' => A - (RowKit.intOf j').toNat)
                case atStart => exact ⟨0, by omega, rfl, HXX⟩
                case round =>
                  obtain ⟨j, hj, rfl, hb2⟩ := hrel
                  clear HXX
                  by_cases hja : j < A
                  · have hjl : j < al.length := by rw [← HAL.out]; exact hja
                    obtain ⟨ga, oa, rfl, d0, d1⟩ := HA.out j hjl
                    have hs2 := hb2.out
                    rw [List.drop_eq_getElem_cons hjl, List.all_cons] at hs2
                    obtain ⟨x, y, hq⟩ : ∃ x y, al[j] = (x, y) := ⟨_, _, rfl⟩
                    rw [hq] at d0 d1 hs2
                    rw [show small2 (x, y) = (decide (x.size ≤ 100) && decide (y.size ≤ 100)) from rfl] at hs2
                    clear hq hb2
                    by_cases t1 : x.size ≤ 100
                    · have t1' : decide ((100 : Int) < x.size) = false := decide_eq_false (by omega)
                      by_cases t2 : y.size ≤ 100
                      · have t2' : decide ((100 : Int) < y.size) = false := decide_eq_false (by omega)
                        rw [decide_eq_true t1, decide_eq_true t2, Bool.true_and, Bool.true_and] at hs2
                        have hf := Lib.hid hs2
                        clear hs2 t1 t2
                        go_wp2_with fail
                        go_round
                        case rel => exact ⟨j + 1, by omega, by go_num, hf⟩
                        case measure => simp [RowKit.intOf]; omega
                      · have t2' : decide ((100 : Int) < y.size) = true := decide_eq_true (by omega)
                        rw [decide_eq_false t2] at hs2
                        have hf : Hid (V = false) := Lib.hid (by rw [HST.out, hs2]; simp)
                        clear hs2 t1 t2
                        go_wp2_with fail
                        go_returns
                        exact ⟨by rw [hf.out]; rfl, HX.out⟩
                    · have t1' : decide ((100 : Int) < x.size) = true := decide_eq_true (by omega)
                      rw [decide_eq_false t1] at hs2
                      have hf : Hid (V = false) := Lib.hid (by rw [HST.out, hs2]; simp)
                      clear hs2 t1
                      go_wp2_with fail
                      go_returns
                      exact ⟨by rw [hf.out]; rfl, HX.out⟩
                  · have hs2 : X = true := by rw [hb2.out, List.drop_eq_nil_of_le (by rw [← HAL.out]; omega)]; rfl
                    have hs3 := HST.out
                    rw [hs2, Bool.true_and] at hs3
                    have HST2 := Lib.hid hs3
                    clear hs2 hs3 hb2 HST
                    go_wp2_with fail
                    go_loop [7] (fun j' => ∃ j : Nat, j ≤ R ∧ j' = .int .i64 j ∧ Hid (Y = (rs.drop j).all small2)) (fun j' => R - (RowKit.intOf j').toNat)
                    case atStart => exact ⟨0, by omega, rfl, HYY⟩
                    case round =>
                      obtain ⟨m, hm, rfl, hb3⟩ := hrel
                      clear HYY
                      by_cases hmr : m < R
                      · have hml : m < rs.length := by rw [← HRL.out]; exact hmr
                        obtain ⟨gr, or, rfl, d0, d1⟩ := HR.out m hml
                        have hs2 := hb3.out
                        rw [List.drop_eq_getElem_cons hml, List.all_cons] at hs2
                        obtain ⟨x, y, hq⟩ : ∃ x y, rs[m] = (x, y) := ⟨_, _, rfl⟩
                        rw [hq] at d0 d1 hs2
                        rw [show small2 (x, y) = (decide (x.size ≤ 100) && decide (y.size ≤ 100)) from rfl] at hs2
                        clear hq hb3
                        by_cases t1 : x.size ≤ 100
                        · have t1' : decide ((100 : Int) < x.size) = false := decide_eq_false (by omega)
                          by_cases t2 : y.size ≤ 100
                          · have t2' : decide ((100 : Int) < y.size) = false := decide_eq_false (by omega)
                            rw [decide_eq_true t1, decide_eq_true t2, Bool.true_and, Bool.true_and] at hs2
                            have hf := Lib.hid hs2
                            clear hs2 t1 t2
                            go_wp2_with fail
                            go_round
                            case rel => exact ⟨m + 1, by omega, by go_num, hf⟩
                            case measure => simp [RowKit.intOf]; omega
                          · have t2' : decide ((100 : Int) < y.size) = true := decide_eq_true (by omega)
                            rw [decide_eq_false t2] at hs2
                            have hf : Hid (V = false) := Lib.hid (by rw [HST2.out, hs2]; simp)
                            clear hs2 t1 t2
                            go_wp2_with fail
                            go_returns
                            exact ⟨by rw [hf.out]; rfl, HX.out⟩
                        · have t1' : decide ((100 : Int) < x.size) = true := decide_eq_true (by omega)
                          rw [decide_eq_false t1] at hs2
                          have hf : Hid (V = false) := Lib.hid (by rw [HST2.out, hs2]; simp)
                          clear hs2 t1
                          go_wp2_with fail
                          go_returns
                          exact ⟨by rw [hf.out]; rfl, HX.out⟩
                      · have hs2 : Y = true := by rw [hb3.out, List.drop_eq_nil_of_le (by rw [← HRL.out]; omega)]; rfl
                        have hf : Hid (V = (F.drop (k + 1)).all smallS) := Lib.hid (by rw [HST2.out, hs2, Bool.true_and])
                        clear hs2 hb3
                        go_wp2_with fail
                        go_roundw
                        case rel => exact ⟨k + 1, by omega, by go_num, HX4.out, hf⟩
                        case measure => simp [RowKit.intOf]; omega
              · have f3 : decide ((100 : Int) < sn.size) = true := decide_eq_true (by omega)
                have hf : Hid (V = false) := Lib.hid (by rw [hst, decide_eq_false e3]; simp)
                clear hst e3
                go_wp2_with fail
                go_returns
                exact ⟨by rw [hf.out]; rfl, HX.out⟩
            · have f2 : decide ((20 : Int) < A) = true := decide_eq_true (by omega)
              have hf : Hid (V = false) := Lib.hid (by rw [hst, decide_eq_false e2]; simp)
              clear hst e2
              go_wp2_with fail
              go_returns
              exact ⟨by rw [hf.out]; rfl, HX.out⟩
          · have f1 : decide ((20 : Int) < R) = true := decide_eq_true (by omega)
            have hf : Hid (V = false) := Lib.hid (by rw [hst, decide_eq_false e1]; simp)
            clear hst e1
            go_wp2_with fail
            go_returns
            exact ⟨by rw [hf.out]; rfl, HX.out⟩
        · have hf : Hid (V = true) := Lib.hid (by rw [hb.out, List.drop_eq_nil_of_le (by omega)]; rfl)
          clear hb
          go_wp2_with fail
          go_returns
          exact ⟨by rw [hf.out]; rfl, hx4.trans hx⟩
    · rw [decide_eq_false h1, Bool.false_and] at hV
      have HF := Lib.hid hV
      have g6 : decide ((100 : Int) < nm.size) = true := decide_eq_true (by omega)
      clear hV h1
      go_enter Tryz.func7, Tryz.ntmps7
      go_wp2_with (go_at_call 20; refine (HPRE.out _ hx0).mono ?_; rintro e w4 ⟨⟨g, c, C, rfl, ho, hsx⟩, x4⟩; obtain ⟨k0, k1, k2⟩ := HCL.out _ x4)
      go_returns
      exact ⟨by rw [HF.out]; rfl, hx0.trans x4⟩
  · rw [decide_eq_false h6, Bool.false_and, Bool.false_and] at hV
    have HF := Lib.hid hV
    have g5 : decide ((60 : Int) < F.length) = true := decide_eq_true (by omega)
    clear hV h6
    go_enter Tryz.func7, Tryz.ntmps7
    go_wp2_with (go_at_call 20; refine (HPRE.out _ hx0).mono ?_; rintro e w4 ⟨⟨g, c, C, rfl, ho, hsx⟩, x4⟩; obtain ⟨k0, k1, k2⟩ := HCL.out _ x4)
    go_returns
    exact ⟨by rw [HF.out]; rfl, hx0.trans x4⟩
end Go.Proofs.YtnjnfkfmkbnkhaaGreatDoor.Tr

/- The law of Print, walked; an argument that is a tree. -/
namespace Go.Proofs.YtnjnfkfmkbnkhaaGreatDoor.Tr
open Go.RowKit Go.Sort Go.Lib Go.Shelf Fx Lx Go.ChangeShapes Go.WideShapes Go.Deep

def TreeArg (w : World) (v : Value) : Prop := ∃ nm dir b L cap, v = .agg #[.string nm, .bool dir, .slice b (List.length L) cap] ∧ StmsAt w.heap.size w b L ∧ sizeL L ≤ 1048576 ∧ nm.size ≤ 1048576
theorem cTree : Tryz.prog.cellsOf 24 = 3 := by kernel_rfl
set_option maxRecDepth 100000 in
theorem tree_arg {H : Type} {enc : TypeId × Value → H} {W : World} {r : Reach} {b base : Nat} {sp : Nat → Bool} {held : Bool} {v : Value} {d : DataW H} {p : List MemPlace}
    (hv : Value.okWide Tryz.prog W r b 24 v) (h : DataW.Trod enc Tryz.prog W base sp held 24 v d p) (hb : Rows.uptoBulk d ≤ 1048576) : TreeArg W v := by
  obtain ⟨v0, v1, v2, y0, y1, y2, n, rfl, rfl, rfl, h0, h1, h2⟩ := Go.Joins.open_agg3 Tryz.underlying24 (by kernel_rfl) cTree hv h
  have h0 : DataW.trod enc Tryz.prog W base sp held n 9 [v0] = some y0 := h0
  have h1 : DataW.trod enc Tryz.prog W base sp held n 4 [v1] = some y1 := h1
  have h2 : DataW.trod enc Tryz.prog W base sp held n 22 [v2] = some y2 := h2
  obtain ⟨nm, e0, r0, _⟩ := DataW.trod_string Tryz.underlying9 h0
  obtain ⟨dir, e1, r1⟩ := DataW.trod_bool Tryz.underlying4 h1
  simp only [Rows.uptoBulk, Rows.uptoBulkAll] at hb
  obtain ⟨a, L, c, e2, i2, m2, s2⟩ := open_stms 1048576 (by omega) h2
  simp only [List.cons.injEq, and_true] at e0 e1 e2
  subst e0; subst e1; subst e2
  subst r0
  refine ⟨nm, dir, a, L, c, rfl, i2, by omega, ?_⟩
  simp only [Rows.uptoBulk] at hb
  rw [← size_len] at hb
  omega
set_option maxHeartbeats 4000000 in
set_option maxRecDepth 100000 in
theorem prints_walk (nm : ByteArray) (dir : Bool) (b : Option Addr) (L : List Stm) (cap : Nat) (w : World) (h : StmsAt w.heap.size w b L) (hs : sizeL L ≤ 1048576) (hnm : nm.size ≤ 1048576) (he : Env w) :
    Calls Tryz.prog 3 #[.agg #[.string nm, .bool dir, .slice b L.length cap]] w fun e w' => e = .returned (.bool true) ∧ Ext w w' := by
  have hx0 : Ext w (w.alloc (.cells #[.string nm, .bool dir, .slice b L.length cap] 24)) := (Ext.refl _).alloc _
  have hawk := fun w' (x : Ext w w') => awake_any w' (he.ext x)
  have hsm := fun w' (x : Ext w w') => small_any nm dir b L cap w.heap.size w' x.size (StmsAt.below x L h) hs
  have hlen : validE nm L = 0 → (printT dir nm L).length + 1000 ≤ 140737488355328 := fun _ => printT_len dir nm L hnm hs
  have hpr := fun w' (x : Ext w w') => print_any nm dir b L cap w' (he.ext x) (StmsAt.mono x.size L (StmsAt.below x L h)) hs hnm hlen
  have hpd := fun w' (x : Ext w w') => printR_any nm dir b L cap w.heap.size w' x.size (StmsAt.below x L h) hs hnm hlen
  have hcl := tree_cells w nm dir b L.length cap
  generalize (⟨(if validE nm L = 0 then printT dir nm L else []).toArray⟩ : ByteArray) = P at *
  generalize smallB nm L = sm at *
  generalize L.length = N at *
  have HAWK := Lib.hid hawk; have HSM := Lib.hid hsm; have HPR := Lib.hid hpr; have HPD := Lib.hid hpd; have HCL := Lib.hid hcl
  clear hawk hsm hlen hpr hpd h hs hnm he
  obtain ⟨m0, m1, m2⟩ := hcl _ (Ext.refl _)
  clear hcl
  have g4 : (P.toList == P.toList) = true := by simp
  cases sm
  · go_enter Tryz.func3, Tryz.ntmps3
    go_wp2_with (first | (go_at_call 7; refine (HSM.out _ hx0).mono ?_; rintro e w1 ⟨rfl, x1⟩) | (go_at_call 8; refine (HAWK.out _ (hx0.trans x1)).mono ?_; rintro e w2 ⟨rfl, x2⟩))
    go_returns
    exact ⟨rfl, (hx0.trans x1).trans x2⟩
  · go_enter Tryz.func3, Tryz.ntmps3
    go_wp2_with (go_at_call 7; refine (HSM.out _ hx0).mono ?_; rintro e w1 ⟨rfl, x1⟩)
    have k0 := fun d os => (HCL.out _ (x1.trans (below_regrown w1 d os))).1
    have k1 := fun d os => (HCL.out _ (x1.trans (below_regrown w1 d os))).2.1
    have k2 := fun d os => (HCL.out _ (x1.trans (below_regrown w1 d os))).2.2
    have C0 := Lib.hid (fun dd os => regrown_ext (hx0.trans x1) HPR.out dd os)
    have C1 := Lib.hid (fun dd os => regrown_ext (hx0.trans x1) HPD.out dd os)
    have C2 := Lib.hid (fun dd os => regrown_ext (hx0.trans x1) HAWK.out dd os)
    refine wp_region_quiet_below (by kernel_rfl) (by kernel_rfl) ?_
    repeat (go_big_quiet_step ((first | (go_at_call 9; exact C0.out _ _) | (go_at_call 10; exact C1.out _ _) | (go_at_call 8; exact C2.out _ _))))
    refine wpQuiet_nil ?_
    intro _ hw'
    obtain ⟨⟨dq, osq⟩, hw''⟩ := hw'
    subst hw''
    go_wp2_with fail
    go_returns
    exact ⟨rfl, (hx0.trans x1).trans (below_regrown w1 _ _)⟩
theorem prints_card (v : Value) (w : World) (hv : TreeArg w v) (he : Env w) : Calls Tryz.prog 3 #[v] w fun e w' => e = .returned (.bool true) ∧ Ext w w' := by
  obtain ⟨nm, dir, b, L, cap, rfl, h1, h2, h3⟩ := hv
  exact prints_walk nm dir b L cap w h1 h2 h3 he
end Go.Proofs.YtnjnfkfmkbnkhaaGreatDoor.Tr

/- What the document's Count and Clusters return. -/
namespace Go.Proofs.YtnjnfkfmkbnkhaaGreatDoor.Tr
open Go.RowKit Go.Sort Go.Lib Go.Shelf Fx Lx

set_option maxHeartbeats 4000000 in
theorem countR_any (nm : ByteArray) (dir : Bool) (b : Option Addr) (L : List Stm) (cap n : Nat) (w : World) (hn : n ≤ w.heap.size) (h : StmsAt n w b L) (hs : sizeL L ≤ 1048576) :
    Calls Tryz.prog 15 #[.agg #[.string nm, .bool dir, .slice b L.length cap]] w fun e w' => e = .returned (.int .i64 (flatL 0 L).length) ∧ Ext w w' := by
  have hx0 : Ext w (w.alloc (.cells #[.string nm, .bool dir, .slice b L.length cap] 24)) := (Ext.refl _).alloc _
  obtain ⟨k0, k1, k2⟩ := tree_cells w nm dir b L.length cap _ (Ext.refl _)
  have hpre := fun w1 (x : Ext w w1) => preR_any 1048576 L b cap 0 n w1 hs (Nat.le_refl _) (by decide) (StmsAt.below (Below.mono x hn) L h) (by have h := x.size; omega)
  generalize flatL 0 L = F at *
  generalize L.length = N at *
  have HPRE := Lib.hid hpre
  clear hpre h hs hn
  go_enter Tryz.func15, Tryz.ntmps15
  go_wp2_with (go_at_call 20; refine (HPRE.out _ hx0).mono ?_; rintro e w4 ⟨⟨g, c, C, rfl, ho, hsx⟩, x4⟩)
  go_returns
  exact ⟨rfl, hx0.trans x4⟩
/-- How many of the statements are clusters. -/
def clusN (F : List (Stm × Nat)) : Nat := (F.filter (fun p => decide (p.1.kind = 5))).length
def clusOf (p : Stm × Nat) : Nat := if p.1.kind = 5 then 1 else 0
theorem clusN_cons (p : Stm × Nat) (F : List (Stm × Nat)) : clusN (p :: F) = clusOf p + clusN F := by
  unfold clusN clusOf
  rw [List.filter_cons]
  by_cases h : p.1.kind = 5
  · rw [if_pos (by simpa using h), if_pos h, List.length_cons]; omega
  · rw [if_neg (by simpa using h), if_neg h]; omega
theorem clusN_le (F : List (Stm × Nat)) : clusN F ≤ F.length := by unfold clusN; exact List.length_filter_le _ _
def SlcRes (n : Nat) (e : Ending) : Prop := ∃ a c, e = .returned (.slice a n c)
set_option maxHeartbeats 4000000 in
set_option maxRecDepth 100000 in
theorem clustR_any (nm : ByteArray) (dir : Bool) (b : Option Addr) (L : List Stm) (cap n : Nat) (w : World) (hn : n ≤ w.heap.size) (h : StmsAt n w b L) (hs : sizeL L ≤ 1048576) (hnm : nm.size ≤ 1048576) (hv : validE nm L = 0) :
    Calls Tryz.prog 16 #[.agg #[.string nm, .bool dir, .slice b L.length cap]] w fun e w' => SlcRes (clusN (flatL 0 L)) e ∧ Ext w w' := by
  have hx0 : Ext w (w.alloc (.cells #[.string nm, .bool dir, .slice b L.length cap] 24)) := (Ext.refl _).alloc _
  have hx1 : Ext w ((w.alloc (.cells #[.string nm, .bool dir, .slice b L.length cap] 24)).alloc (.cells #[] 9)) := hx0.alloc _
  have hcl := tree_cells w nm dir b L.length cap
  have hpre := fun w1 (x : Ext w w1) => preR_any 1048576 L b cap 0 n w1 hs (Nat.le_refl _) (by decide) (StmsAt.below (Below.mono x hn) L h) (by have h := x.size; omega)
  have hval := fun w1 (x : Ext w w1) => validR_any nm dir b L cap n w1 (by have h := x.size; omega) (StmsAt.below (Below.mono x hn) L h) hs (by omega)
  rw [hv] at hval
  have hlF : (flatL 0 L).length ≤ 1048576 := Nat.le_trans (flatL_len 0 L) hs
  have ho0 : ((w.alloc (.cells #[.string nm, .bool dir, .slice b L.length cap] 24)).alloc (.cells #[] 9)).ownsRow w.heap.size 9 1 (.slice (some ⟨w.heap.size + 1, 0, none⟩) 0 0) 0 [] := by
    have := World.ownsRow_made (base := w.heap.size) (size := 1) (e := 9) (w.alloc (.cells #[.string nm, .bool dir, .slice b L.length cap] 24)) #[] 0 (by rw [World.size_alloc]; omega) (by unfold maxLen; omega) rfl
    rw [World.size_alloc] at this
    exact this
  generalize flatL 0 L = F at *
  generalize L.length = N at *
  obtain ⟨V, hV⟩ : ∃ V, V = clusN F := ⟨_, rfl⟩
  rw [← hV]
  have HF : Hid (V = 0 + clusN (F.drop 0)) := Lib.hid (by rw [hV, List.drop_zero, Nat.zero_add])
  obtain ⟨i0, hi, hz0, hz1, hz2⟩ := info_parts info_str
  have HPRE := Lib.hid hpre; have HVAL := Lib.hid hval; have HCL := Lib.hid hcl; have HO := Lib.hid ho0; have HN := Lib.hid hn
  obtain ⟨k0, k1, k2⟩ := hcl _ ((Ext.refl _).alloc (.cells #[] 9))
  clear hpre hval hcl ho0 h hs hn hnm hv hV
  go_enter Tryz.func16, Tryz.ntmps16
  go_wp2_with (first | (go_at_call 13; refine (HVAL.out _ hx1).mono ?_; rintro e w3 ⟨rfl, x3⟩; obtain ⟨k0, k1, k2⟩ := HCL.out _ (((Ext.refl _).alloc (.cells #[] 9)).trans x3)) | (go_at_call 20; refine (HPRE.out _ (hx1.trans x3)).mono ?_; rintro e w4 ⟨⟨g, c, C, rfl, ho, hsx⟩, x4⟩))
  have HOF := Lib.hid ho; have HSX := Lib.hid hsx
  have hx4 := (hx1.trans x3).trans x4
  have ho1 := own_ext' (own_ext' HO.out x3) x4
  have hg4 : g ≠ w.heap.size + 1 := by
    have h1 := (ho.lt g rfl).1
    have h2 := x3.size
    simp only [World.size_alloc] at h2
    omega
  have hgl : g < w4.heap.size := (ho.lt g rfl).2
  clear ho hsx k0 k1 k2 x3 x4 HO HPRE HVAL HCL
  go_loopw [3, 5] (fun out i' wr => ∃ (k m go oc : Nat) (xs : List Value), k ≤ F.length ∧ m ≤ k ∧ i' = .int .i64 k ∧ out = .slice (some ⟨go, 0, none⟩) m oc ∧ wr.ownsRow w.heap.size 9 1 (.slice (some ⟨go, 0, none⟩) m oc) m xs ∧ go ≠ g ∧ wr.heap[g]? = w4.heap[g]? ∧ g < wr.heap.size ∧ Below n w4 wr ∧ Ext w wr ∧ Hid (V = m + clusN (F.drop k))) (fun _ i' _ => F.length - (RowKit.intOf i').toNat)
  case atStart => exact ⟨0, 0, _, _, _, by omega, by omega, rfl, rfl, ho1, fun e => hg4 e.symm, rfl, hgl, Below.refl _ _, hx4, HF⟩
  case round =>
    obtain ⟨k, m, go, oc, xs, hk, hmk, rfl, rfl, hown, hgg, hblk, hgw, hbel, hx, hb⟩ := hrel
    clear HF ho1 hg4
    by_cases hlt : k < F.length
    · obtain ⟨r, a, b', rc, ac, bc, hfl, c0, c1, c2, c3, c4, c5⟩ := six_cells HOF.out HSX.out k hlt
      have hst := hb.out
      rw [List.drop_eq_getElem_cons hlt, clusN_cons] at hst
      obtain ⟨p, hp⟩ : ∃ p, p = F[k] := ⟨_, rfl⟩
      rw [← hp] at hst c0 c1
      clear hp hb hfl c2 c3 c4 c5
      have cell : ∀ j v, w4.cell? ⟨g, j, none⟩ = some v → wr.cell? ⟨g, j, none⟩ = some v := fun j v hv => by
        rw [World.cell?_of_block (w := w4) (w' := wr) (a := ⟨g, j, none⟩) hblk]; exact hv
      have d0 := cell _ _ c0
      have d1 := cell _ _ c1
      clear cell c0 c1
      obtain ⟨⟨kind, sn, rs, al, body⟩, lev⟩ := p
      simp only [Stm.kind, Stm.name] at d0 d1
      by_cases h5 : kind = 5
      · rw [show clusOf (.mk kind sn rs al body, lev) = 1 from if_pos h5, ← Nat.add_assoc] at hst
        have HST := Lib.hid hst
        obtain ⟨f5, _⟩ := eq_facts h5
        have hown1 := hown.alloc (.cells #[.string sn] 9)
        have HB := Lib.hid hblk; have HOW := Lib.hid hown
        clear hst h5 hblk
        go_wp2_with (at_builtin; refine wpList_append_lies _ rfl _ _ 37 rfl w.heap.size 9 i0 _ 1 16 Tryz.underlying37 hi hz0 hz1 hz2 rfl (by decide) _ _ _ rfl (hown.alloc _) ⟨wr.heap.size, 0, none⟩ 1 1 [.string sn] rfl rfl ?c1 ?c2 (by decide) ?c3 ?c4 ?c5 _ rfl ?_)
        case c1 => exact fun j u hj => cell_new6 wr [.string sn] 9 j u hj
        case c2 => intro u hu; simp at hu; subst hu; rfl
        case c3 => unfold maxLen; omega
        case c4 => omega
        case c5 => have h := hx.size; simp; omega
        intro g2 cap2 w5 hown' hgrow hat hlt5
        have hx5 : Ext w w5 := Below.grown (hx.alloc _) hgrow (by have h := hx.size; simp; omega) (fun k hk => (HOW.out.lt k hk).1)
        have hb5 : Below n w4 w5 := Below.grown (hbel.alloc (by have h := hx.size; have := HN.out; omega) _) hgrow (by have h := hx.size; have := HN.out; simp; omega) (fun k hk => Nat.le_trans HN.out (HOW.out.lt k hk).1)
        have hblk5 : Hid (w5.heap[g]? = w4.heap[g]?) := Lib.hid (by
          rw [hgrow.block g (by simp only [World.size_alloc]; omega) (fun h => hgg (by simp only [Value.ownBlock, Option.some.injEq] at h; exact h.symm)), Lib.alloc_old wr _ g hgw, HB.out])
        have hgw5 : g < w5.heap.size := by have := hgrow.size; rw [World.size_alloc] at this; omega
        have hgg5 : g2 ≠ g := by
          rcases hat with h | h
          · injection h with h; rw [← h]; exact hgg
          · omega
        clear hgrow hat HB hown hown1 hbel hx hgg hgw
        go_wp2_with fail
        go_roundw
        case rel => exact ⟨k + 1, m + 1, g2, cap2, _, by omega, by omega, by go_num, rfl, hown', hgg5, hblk5.out, hgw5, hb5, hx5, HST⟩
        case measure => simp [RowKit.intOf]; omega
      · rw [show clusOf (.mk kind sn rs al body, lev) = 0 from if_neg h5, Nat.zero_add] at hst
        have HST := Lib.hid hst
        obtain ⟨f5, _⟩ := ne_facts h5
        clear hst h5
        go_wp2_with fail
        go_roundw
        case rel => exact ⟨k + 1, m, go, oc, xs, by omega, by omega, by go_num, rfl, hown, hgg, hblk, hgw, hbel, hx, HST⟩
        case measure => simp [RowKit.intOf]; omega
    · have hf : Hid (V = m) := Lib.hid (by rw [hb.out, List.drop_eq_nil_of_le (by omega)]; rfl)
      clear hb
      go_wp2_with fail
      go_returns
      exact ⟨⟨_, _, by rw [hf.out]; rfl⟩, hx⟩
end Go.Proofs.YtnjnfkfmkbnkhaaGreatDoor.Tr
