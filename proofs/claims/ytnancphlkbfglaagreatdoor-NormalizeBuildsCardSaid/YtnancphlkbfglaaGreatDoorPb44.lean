/- Packed texts: NorVop, NorAwk -/
import Derived.Test.YtnancphlkbfglaaGreatDoorPb43
import Derived.Laws.StructEq
import Derived.Test.YtnancphlkbfglaaGreatDoorPb41
set_option linter.unusedVariables false
set_option linter.unusedSimpArgs false
namespace Go.Proofs.YtnancphlkbfglaaGreatDoor.Nm
open Go.RowKit Go.Sort Go.Lib Go.Shelf Fx Lx Tr At
end Go.Proofs.YtnancphlkbfglaaGreatDoor.Nm

namespace Go.Proofs.YtnancphlkbfglaaGreatDoor.Nm
open Go.RowKit Go.Sort Go.Lib Go.Shelf Fx Lx Tr At
def awkL : List Stm := [.mk 2 ⟨#[]⟩ [(⟨#[97]⟩, ⟨#[]⟩), (⟨#[98]⟩, ⟨#[]⟩)] [] [], .mk 5 ⟨#[99]⟩ [] [] [.mk 1 ⟨#[97]⟩ [] [] [], .mk 1 ⟨#[100]⟩ [] [] []]]
def awkG : Gr := ⟨⟨#[103]⟩, true, [⟨⟨#[97]⟩, ⟨#[97]⟩, 20000, 10000, -1, []⟩, ⟨⟨#[98]⟩, ⟨#[98]⟩, 20000, 10000, -1, []⟩, ⟨⟨#[100]⟩, ⟨#[100]⟩, 20000, 10000, 0, []⟩], [⟨0, 1, -1, -1, ⟨#[]⟩, 1, 1⟩], [(⟨#[99]⟩, -1)]⟩
theorem awk_build : buildT ⟨#[103]⟩ true awkL = .ok awkG := by kernel_rfl
theorem awk_opts : optionsT ⟨#[103]⟩ awkL = .ok ⟨0, 10000, 20000, 5000, 8⟩ := by kernel_rfl
theorem awk_cnt : cntL awkL = 4 := by kernel_rfl
theorem two_none (n : Nat) (w : World) : TwoAt n w none [] := fun k h => absurd h (Nat.not_lt_zero _)
theorem stm_of {n : Nat} {W : World} {g o : Nat} {k : Int} {nm : ByteArray} {rs al : List Two} {body : List Stm} {r b : Option Addr} {rc bc : Nat} (h0 : W.cell? ⟨g, o, none⟩ = some (.int .i64 k)) (h1 : W.cell? ⟨g, o + 1, none⟩ = some (.string nm)) (h2 : W.cell? ⟨g, o + 2, none⟩ = some (.slice r rs.length rc)) (h3 : W.cell? ⟨g, o + 3, none⟩ = some (.slice none 0 0)) (h4 : W.cell? ⟨g, o + 4, none⟩ = some (.slice b body.length bc))
    (hal : al = []) (hr : TwoAt n W r rs) (hb : StmsAt n W b body) (hrl : rs.length ≤ rc) (hrc : rc ≤ 100) (hbl : body.length ≤ 100) : StmAt n W g o (.mk k nm rs al body) := by
  subst hal
  rw [StmAt]
  refine ⟨r, rc, none, 0, b, bc, h0, h1, h2, h3, h4, hr, two_none _ _, hb, hrl, Nat.le_refl _, ?_, Nat.zero_le _, ?_⟩ <;> (unfold maxLen; omega)
theorem awk_at {n : Nat} {W : World} {gR gI gO : Nat} (hR : W.heap[gR]? = some (.cells #[.string ⟨#[97]⟩, .string ⟨#[]⟩, .string ⟨#[98]⟩, .string ⟨#[]⟩] 58 (0, 0))) (hI : W.heap[gI]? = some (.cells #[.int .i64 1, .string ⟨#[97]⟩, .slice none 0 0, .slice none 0 0, .slice none 0 0, .int .i64 1, .string ⟨#[100]⟩, .slice none 0 0, .slice none 0 0, .slice none 0 0] 56 (0, 0))) (hO : W.heap[gO]? = some (.cells #[.int .i64 2, .string ⟨#[]⟩, .slice (some ⟨gR, 0, none⟩) 2 2, .slice none 0 0, .slice none 0 0, .int .i64 5, .string ⟨#[99]⟩, .slice none 0 0, .slice none 0 0, .slice (some ⟨gI, 0, none⟩) 2 2] 56 (0, 0)))
    (lR : gR < n) (lI : gI < n) (lO : gO < n) : StmsAt n W (some ⟨gO, 0, none⟩) awkL := by
  have hTR : TwoAt n W (some ⟨gR, 0, none⟩) [(⟨#[97]⟩, ⟨#[]⟩), (⟨#[98]⟩, ⟨#[]⟩)] := fun k hk => by
    match k, hk with
    | 0, _ => exact ⟨gR, 0, rfl, lR, by rw [Lib.cell_of_heap hR]; rfl, by rw [Lib.cell_of_heap hR]; rfl⟩
    | 1, _ => exact ⟨gR, 0, rfl, lR, by rw [Lib.cell_of_heap hR]; rfl, by rw [Lib.cell_of_heap hR]; rfl⟩
  have hIn : StmsAt n W (some ⟨gI, 0, none⟩) [.mk 1 ⟨#[97]⟩ [] [] [], .mk 1 ⟨#[100]⟩ [] [] []] := by
    rw [stmsAt_cons]
    refine ⟨gI, 0, rfl, lI, ?_, ?_⟩
    · exact stm_of (r := none) (b := none) (rc := 0) (bc := 0) (by rw [Lib.cell_of_heap hI]; rfl) (by rw [Lib.cell_of_heap hI]; rfl) (by rw [Lib.cell_of_heap hI]; rfl) (by rw [Lib.cell_of_heap hI]; rfl) (by rw [Lib.cell_of_heap hI]; rfl) rfl (two_none _ _) (by rw [StmsAt]; trivial) (by simp) (by simp) (by simp)
    · rw [stmsAt_cons]
      refine ⟨gI, 5, rfl, lI, ?_, by rw [StmsAt]; trivial⟩
      exact stm_of (r := none) (b := none) (rc := 0) (bc := 0) (by rw [Lib.cell_of_heap hI]; rfl) (by rw [Lib.cell_of_heap hI]; rfl) (by rw [Lib.cell_of_heap hI]; rfl) (by rw [Lib.cell_of_heap hI]; rfl) (by rw [Lib.cell_of_heap hI]; rfl) rfl (two_none _ _) (by rw [StmsAt]; trivial) (by simp) (by simp) (by simp)
  unfold awkL
  rw [stmsAt_cons]
  refine ⟨gO, 0, rfl, lO, ?_, ?_⟩
  · exact stm_of (r := some ⟨gR, 0, none⟩) (b := none) (rc := 2) (bc := 0) (by rw [Lib.cell_of_heap hO]; rfl) (by rw [Lib.cell_of_heap hO]; rfl) (by rw [Lib.cell_of_heap hO]; rfl) (by rw [Lib.cell_of_heap hO]; rfl) (by rw [Lib.cell_of_heap hO]; rfl) rfl hTR (by rw [StmsAt]; trivial) (by simp) (by simp) (by simp)
  · rw [stmsAt_cons]
    refine ⟨gO, 5, rfl, lO, ?_, by rw [StmsAt]; trivial⟩
    exact stm_of (r := none) (b := some ⟨gI, 0, none⟩) (rc := 0) (bc := 2) (by rw [Lib.cell_of_heap hO]; rfl) (by rw [Lib.cell_of_heap hO]; rfl) (by rw [Lib.cell_of_heap hO]; rfl) (by rw [Lib.cell_of_heap hO]; rfl) (by rw [Lib.cell_of_heap hO]; rfl) rfl (two_none _ _) hIn (by simp) (by simp) (by simp)
theorem awk_big : BigL awkL := big_small (by have : decide (sizeL awkL ≤ 1048576) = true := (by kernel_rfl); exact of_decide_eq_true this)
theorem awk_few : ∀ p ∈ flatL 0 awkL, p.1.refs.length ≤ 10 ∧ p.1.attrs.length ≤ 20 := by
  have h : (flatL 0 awkL).all (fun p => decide (p.1.refs.length ≤ 10) && decide (p.1.attrs.length ≤ 20)) = true := by kernel_rfl
  intro p hp
  have := List.all_eq_true.1 h p hp
  rw [Bool.and_eq_true, decide_eq_true_eq, decide_eq_true_eq] at this
  exact this
set_option maxHeartbeats 4000000 in
set_option maxRecDepth 100000 in
theorem awake_any (w : World) (he : Env w) : Calls Tryz.prog 9 #[] w fun e w' => e = .returned (.bool true) ∧ Ext w w' := by
  have HE := Lib.hid he
  clear he
  go_enter Tryz.func9, Tryz.ntmps9
  go_wp2_with fail
  obtain ⟨wb, hwb⟩ : ∃ x, x = (w.alloc (.cells #[.string ⟨#[97]⟩, .string ⟨#[]⟩] 58)).alloc (.cells #[.string ⟨#[98]⟩, .string ⟨#[]⟩] 58) := ⟨_, rfl⟩
  have sb : wb.heap.size = w.heap.size + 1 + 1 := by rw [hwb]; simp
  obtain ⟨wc, hwc⟩ : ∃ x, x = wb.alloc (.cells #[.string ⟨#[97]⟩, .string ⟨#[]⟩, .string ⟨#[98]⟩, .string ⟨#[]⟩] 58) := ⟨_, rfl⟩
  have sc : wc.heap.size = w.heap.size + 1 + 1 + 1 := by rw [hwc]; simp [sb]
  obtain ⟨wd, hwd⟩ : ∃ x, x = wc.alloc (.cells #[.int .i64 1, .string ⟨#[97]⟩, .slice none 0 0, .slice none 0 0, .slice none 0 0, .int .i64 1, .string ⟨#[100]⟩, .slice none 0 0, .slice none 0 0, .slice none 0 0] 56) := ⟨_, rfl⟩
  have sd : wd.heap.size = w.heap.size + 1 + 1 + 1 + 1 := by rw [hwd]; simp [sc]
  obtain ⟨we, hwe⟩ : ∃ x, x = wd.alloc (.cells #[.int .i64 2, .string ⟨#[]⟩, .slice (some ⟨w.heap.size + 1 + 1, 0, none⟩) 2 2, .slice none 0 0, .slice none 0 0, .int .i64 5, .string ⟨#[99]⟩, .slice none 0 0, .slice none 0 0, .slice (some ⟨w.heap.size + 1 + 1 + 1, 0, none⟩) 2 2] 56) := ⟨_, rfl⟩
  have se : we.heap.size = w.heap.size + 1 + 1 + 1 + 1 + 1 := by rw [hwe]; simp [sd]
  obtain ⟨wt, hwt⟩ : ∃ x, x = we.alloc (.cells #[.string ⟨#[103]⟩, .bool true, .slice (some ⟨w.heap.size + 1 + 1 + 1 + 1, 0, none⟩) 2 2] 24) := ⟨_, rfl⟩
  have st : wt.heap.size = w.heap.size + 1 + 1 + 1 + 1 + 1 + 1 := by rw [hwt]; simp [se]
  have xbc : Ext wb wc := by rw [hwc]; exact (Ext.refl _).alloc _
  have xcd : Ext wc wd := by rw [hwd]; exact (Ext.refl _).alloc _
  have xde : Ext wd we := by rw [hwe]; exact (Ext.refl _).alloc _
  have xet : Ext we wt := by rw [hwt]; exact (Ext.refl _).alloc _
  have xwb : Ext w wb := by rw [hwb]; exact ((Ext.refl _).alloc _).alloc _
  have hR : wt.heap[w.heap.size + 1 + 1]? = some (.cells #[.string ⟨#[97]⟩, .string ⟨#[]⟩, .string ⟨#[98]⟩, .string ⟨#[]⟩] 58 (0, 0)) := At.heap_ext (by rw [hwc, ← sb]; exact heap_alloc_new wb _) ((xcd.trans xde).trans xet)
  have hI : wt.heap[w.heap.size + 1 + 1 + 1]? = some (.cells #[.int .i64 1, .string ⟨#[97]⟩, .slice none 0 0, .slice none 0 0, .slice none 0 0, .int .i64 1, .string ⟨#[100]⟩, .slice none 0 0, .slice none 0 0, .slice none 0 0] 56 (0, 0)) := At.heap_ext (by rw [hwd, ← sc]; exact heap_alloc_new wc _) (xde.trans xet)
  have hO : wt.heap[w.heap.size + 1 + 1 + 1 + 1]? = some (.cells #[.int .i64 2, .string ⟨#[]⟩, .slice (some ⟨w.heap.size + 1 + 1, 0, none⟩) 2 2, .slice none 0 0, .slice none 0 0, .int .i64 5, .string ⟨#[99]⟩, .slice none 0 0, .slice none 0 0, .slice (some ⟨w.heap.size + 1 + 1 + 1, 0, none⟩) 2 2] 56 (0, 0)) := At.heap_ext (by rw [hwe, ← sd]; exact heap_alloc_new wd _) xet
  have hT : wt.heap[w.heap.size + 1 + 1 + 1 + 1 + 1]? = some (.cells #[.string ⟨#[103]⟩, .bool true, .slice (some ⟨w.heap.size + 1 + 1 + 1 + 1, 0, none⟩) 2 2] 24 (0, 0)) := by rw [hwt, ← se]; exact heap_alloc_new we _
  have hst := awk_at (n := wt.heap.size) hR hI hO (by omega) (by omega) (by omega)
  have XT := Lib.hid ((((xwb.trans xbc).trans xcd).trans xde).trans xet)
  have hbd := build_any ⟨#[103]⟩ true (some ⟨w.heap.size + 1 + 1 + 1 + 1, 0, none⟩) awkL 2 wt.heap.size wt (Nat.le_refl _) hst (by decide) (by rw [awk_cnt]; decide) awk_big (by decide) awk_few (HE.out.ext XT.out)
  rw [awk_build] at hbd
  have hop := fun (w5 : World) (x : Ext wt w5) => optsP_any ⟨#[103]⟩ true (some ⟨w.heap.size + 1 + 1 + 1 + 1, 0, none⟩) awkL 2 wt.heap.size w5 x.size (StmsAt.below (x.mono (Nat.le_refl _)) awkL hst) (by decide) (by rw [awk_cnt]; decide) awk_big (by decide) awk_few (HE.out.ext (XT.out.trans x))
  rw [awk_opts] at hop
  rw [← hwb, ← hwc, ← hwd, ← hwe, ← hwt]
  obtain ⟨gt, hgt⟩ : ∃ g, g = w.heap.size + 1 + 1 + 1 + 1 + 1 := ⟨_, rfl⟩
  obtain ⟨go', hgo⟩ : ∃ g, g = w.heap.size + 1 + 1 + 1 + 1 := ⟨_, rfl⟩
  rw [← hgt] at hT ⊢
  rw [← hgo] at hT hbd hop ⊢
  have HBD := Lib.hid hbd; have HOP := Lib.hid hop; have HT := Lib.hid hT
  have t0 : wt.cell? ⟨gt, 0, none⟩ = some (.string ⟨#[103]⟩) := by rw [Lib.cell_of_heap hT]; rfl
  clear hbd hop hT hst hR hI hO xbc xcd xde xet xwb hwb hwc hwd hwe hwt sb sc sd se st hgt hgo t0
  refine Calls.mono HBD.out ?_
  rintro e wg ⟨⟨v, rfl, hgi, -, -⟩, xg⟩
  obtain ⟨na, nc, ea, ec, ca, cc, hv, hN, hEd, -⟩ := hgi
  have hv2 : v = .agg #[.string ⟨#[103]⟩, .bool true, .slice na 3 nc, .slice ea 1 ec, .slice ca 1 cc] := hv
  clear hv
  subst hv2
  obtain ⟨ng, no, np, npc, rfl, -, -, -, -, n04, -, -⟩ := hN 0 (by decide)
  obtain ⟨ng2, no2, np2, npc2, hna, n20, -, -, -, n24, -, -⟩ := hN 2 (by decide)
  injection hna with hna
  injection hna with hna1 hna2 _
  subst hna1; subst hna2
  obtain ⟨eg, eo, rfl, -, e1, -, -, -, -, -⟩ := hEd 0 (by decide)
  have n04' : wg.cell? ⟨ng, no + 4, none⟩ = some (.int .i64 (-1)) := by have h : wg.cell? ⟨ng, no + 0 * 6 + 4, none⟩ = some (.int .i64 (-1)) := n04; simpa using h
  have n24' : wg.cell? ⟨ng, no + 2 * 6 + 4, none⟩ = some (.int .i64 0) := n24
  have n20' : wg.cell? ⟨ng, no + 2 * 6, none⟩ = some (.string ⟨#[100]⟩) := n20
  have e1' : wg.cell? ⟨eg, eo + 1, none⟩ = some (.int .i64 1) := by have h : wg.cell? ⟨eg, eo + 0 * 7 + 1, none⟩ = some (.int .i64 1) := e1; simpa using h
  have XG := Lib.hid xg
  obtain ⟨u0, u1, u2⟩ : wg.cell? ⟨gt, 0, none⟩ = some (.string ⟨#[103]⟩) ∧ wg.cell? ⟨gt, 1, none⟩ = some (.bool true) ∧ wg.cell? ⟨gt, 2, none⟩ = some (.slice (some ⟨go', 0, none⟩) 2 2) := by
    have h := At.heap_ext HT.out xg
    refine ⟨?_, ?_, ?_⟩ <;> (rw [Lib.cell_of_heap h]; rfl)
  have u0a := fun ob => ((Ext.refl wg).alloc ob).cell u0
  have u1a := fun ob => ((Ext.refl wg).alloc ob).cell u1
  have u2a := fun ob => ((Ext.refl wg).alloc ob).cell u2
  have N1 := Lib.hid n04'; have N2 := Lib.hid n24'; have N3 := Lib.hid n20'; have E1 := Lib.hid e1'
  clear hN hEd xg HBD n04 n24 n20 e1 n04' n24' n20' e1'
  go_wp2_with fail
  refine (HOP.out _ (XG.out.alloc _)).mono ?_
  rintro e wo ⟨rfl, xo⟩
  have G1 := fun ob => At.heap_ext (At.heap_ext (heap_alloc_new wg (.cells #[.string ⟨#[103]⟩, .bool true, .slice (some ⟨ng, no, none⟩) 3 nc, .slice (some ⟨eg, eo, none⟩) 1 ec, .slice ca 1 cc] 31)) xo) ((Ext.refl wo).alloc ob)
  have XO := Lib.hid (((Ext.refl wg).alloc (.cells #[.string ⟨#[103]⟩, .bool true, .slice (some ⟨ng, no, none⟩) 3 nc, .slice (some ⟨eg, eo, none⟩) 1 ec, .slice ca 1 cc] 31)).trans xo)
  have g2 := fun ob => (show (wo.alloc ob).cell? ⟨wg.heap.size, 2, none⟩ = some (.slice (some ⟨ng, no, none⟩) 3 nc) by rw [Lib.cell_of_heap (G1 ob)]; rfl)
  have g3 := fun ob => (show (wo.alloc ob).cell? ⟨wg.heap.size, 3, none⟩ = some (.slice (some ⟨eg, eo, none⟩) 1 ec) by rw [Lib.cell_of_heap (G1 ob)]; rfl)
  have m1 := fun ob => (XO.out.alloc ob).cell N1.out
  have m2 := fun ob => (XO.out.alloc ob).cell N2.out
  have m3 := fun ob => (XO.out.alloc ob).cell N3.out
  have m4 := fun ob => (XO.out.alloc ob).cell E1.out
  have XF := Lib.hid ((XT.out.trans XG.out).trans XO.out)
  clear G1 xo u0 u1 u2 u0a u1a u2a HOP N1 N2 N3 E1
  unfold opV
  dsimp only
  go_wp2
  go_returns
  exact ⟨rfl, XF.out.alloc _⟩
end Go.Proofs.YtnancphlkbfglaaGreatDoor.Nm
