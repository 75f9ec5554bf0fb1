/- Packed texts: NorVop, NorAwk, TreOpen, ParOpen -/
import Derived.Test.YtnancphlkbfglaaGreatDoorPn35
import Derived.Laws.StructEq
import Derived.Test.YtnancphlkbfglaaGreatDoorPn33
import Derived.Test.YtnancphlkbfglaaGreatDoorRows
import Derived.Test.YtnancphlkbfglaaGreatDoorPn17
import Derived.Test.YtnancphlkbfglaaGreatDoorPn04
import Derived.ProofKit
import Derived.Deep.Slices
import Derived.OpenShut
import Derived.Test.YtnancphlkbfglaaGreatDoorPn30
import Derived.Test.YtnancphlkbfglaaGreatDoorPn34
import Derived.SizedLaws
import Derived.Lib.SmallJoins
set_option linter.unusedVariables false
set_option linter.unusedSimpArgs false
/- Both ValidOptions. -/
namespace Go.Proofs.YtnancphlkbfglaaGreatDoor.Nm
open Go.RowKit Go.Sort Go.Lib Go.Shelf Fx Lx Tr At

def inR (x hi : Int) : Bool := decide (0 ≤ x ∧ x ≤ hi)
def okOb (o : Op5) : Bool := inR o.mode 4 && inR o.ns 1048576 && inR o.rs 1048576 && inR o.mg 1048576 && inR o.rd 100
theorem okOb_of {o : Op5} (h : okOp o) : okOb o = true := by
  obtain ⟨a, b, c, d, e, f, g, i, j, k⟩ := h
  unfold okOb inR
  simp [a, b, c, d, e, f, g, i, j, k]
theorem clamp_eq (x hi : Int) (hh : 0 ≤ hi) : (x == min (max x 0) hi) = inR x hi := by
  unfold inR
  by_cases h : 0 ≤ x ∧ x ≤ hi
  · rw [decide_eq_true h, beq_iff_eq]; omega
  · rw [decide_eq_false h, beq_eq_false_iff_ne]; omega
set_option maxHeartbeats 4000000 in
set_option maxRecDepth 100000 in
theorem vopP_any (o : Op5) (w : World) : Calls Tryz.prog 21 #[opV o] w fun e w' => e = .returned (.bool (okOb o)) ∧ Ext w w' := by
  obtain ⟨m, a, b, c, d⟩ := o
  have h1 := clamp_eq m 4 (by decide)
  have h2 := clamp_eq a 1048576 (by decide)
  have h3 := clamp_eq b 1048576 (by decide)
  have h4 := clamp_eq c 1048576 (by decide)
  have h5 := clamp_eq d 100 (by decide)
  unfold okOb opV
  dsimp only
  generalize inR m 4 = r1 at h1 ⊢; generalize inR a 1048576 = r2 at h2 ⊢; generalize inR b 1048576 = r3 at h3 ⊢; generalize inR c 1048576 = r4 at h4 ⊢; generalize inR d 100 = r5 at h5 ⊢
  go_enter Tryz.func21, Tryz.ntmps21
  go_wp2
  all_goals (
    go_returns
    refine ⟨?_, ((Ext.refl _).alloc _).alloc _⟩
    clear h1 h2 h3 h4 h5
    cases r1 <;> cases r2 <;> cases r3 <;> cases r4 <;> cases r5 <;> first | rfl | (exfalso; simp_all; done))
set_option maxHeartbeats 4000000 in
set_option maxRecDepth 100000 in
theorem vopD_any (o : Op5) (w : World) : Calls Tryz.prog 22 #[opV o] w fun e w' => e = .returned (.bool (okOb o)) ∧ Ext w w' := by
  obtain ⟨m, a, b, c, d⟩ := o
  obtain ⟨V, hV⟩ : ∃ V, V = okOb ⟨m, a, b, c, d⟩ := ⟨_, rfl⟩
  rw [← hV]
  unfold okOb inR at hV
  dsimp only at hV
  have HV := Lib.hid hV
  clear hV
  unfold opV
  dsimp only
  have x0 : Ext w (w.alloc (.cells #[.int .i64 m, .int .i64 a, .int .i64 b, .int .i64 c, .int .i64 d] 48)) := (Ext.refl _).alloc _
  go_enter Tryz.func22, Tryz.ntmps22
  by_cases h1 : 0 ≤ m
  case neg =>
    have hr : Hid (V = false) := Lib.hid (by rw [HV.out]; simp [h1])
    go_wp2; go_returns; exact ⟨by rw [hr.out]; rfl, x0⟩
  by_cases h2 : m ≤ 4
  case neg =>
    have hr : Hid (V = false) := Lib.hid (by rw [HV.out]; simp [h2])
    go_wp2; go_returns; exact ⟨by rw [hr.out]; rfl, x0⟩
  by_cases h3 : 0 ≤ a
  case neg =>
    have hr : Hid (V = false) := Lib.hid (by rw [HV.out]; simp [h3])
    go_wp2; go_returns; exact ⟨by rw [hr.out]; rfl, x0⟩
  by_cases h4 : a ≤ 1048576
  case neg =>
    have hr : Hid (V = false) := Lib.hid (by rw [HV.out]; simp [h4])
    go_wp2; go_returns; exact ⟨by rw [hr.out]; rfl, x0⟩
  by_cases h5 : 0 ≤ b
  case neg =>
    have hr : Hid (V = false) := Lib.hid (by rw [HV.out]; simp [h5])
    go_wp2; go_returns; exact ⟨by rw [hr.out]; rfl, x0⟩
  by_cases h6 : b ≤ 1048576
  case neg =>
    have hr : Hid (V = false) := Lib.hid (by rw [HV.out]; simp [h6])
    go_wp2; go_returns; exact ⟨by rw [hr.out]; rfl, x0⟩
  by_cases h7 : 0 ≤ c
  case neg =>
    have hr : Hid (V = false) := Lib.hid (by rw [HV.out]; simp [h7])
    go_wp2; go_returns; exact ⟨by rw [hr.out]; rfl, x0⟩
  by_cases h8 : c ≤ 1048576
  case neg =>
    have hr : Hid (V = false) := Lib.hid (by rw [HV.out]; simp [h8])
    go_wp2; go_returns; exact ⟨by rw [hr.out]; rfl, x0⟩
  by_cases h9 : 0 ≤ d
  case neg =>
    have hr : Hid (V = false) := Lib.hid (by rw [HV.out]; simp [h9])
    go_wp2; go_returns; exact ⟨by rw [hr.out]; rfl, x0⟩
  by_cases h10 : d ≤ 100
  case neg =>
    have hr : Hid (V = false) := Lib.hid (by rw [HV.out]; simp [h10])
    go_wp2; go_returns; exact ⟨by rw [hr.out]; rfl, x0⟩
  have hr : Hid (V = true) := Lib.hid (by rw [HV.out]; simp [h1, h2, h3, h4, h5, h6, h7, h8, h9, h10])
  go_wp2; go_returns; exact ⟨by rw [hr.out]; rfl, x0⟩
end Go.Proofs.YtnancphlkbfglaaGreatDoor.Nm

/- What awake returns. -/
namespace Go.Proofs.YtnancphlkbfglaaGreatDoor.Nm
open Go.RowKit Go.Sort Go.Lib Go.Shelf Fx Lx Tr At

def awkL : List Stm := [.mk 2 ⟨#[]⟩ [(⟨#[97]⟩, ⟨#[]⟩), (⟨#[98]⟩, ⟨#[]⟩)] [] [], .mk 5 ⟨#[99]⟩ [] [] [.mk 1 ⟨#[97]⟩ [] [] [], .mk 1 ⟨#[100]⟩ [] [] []]]
def awkG : Gr := ⟨⟨#[103]⟩, true, [⟨⟨#[97]⟩, ⟨#[97]⟩, 20000, 10000, -1, []⟩, ⟨⟨#[98]⟩, ⟨#[98]⟩, 20000, 10000, -1, []⟩, ⟨⟨#[100]⟩, ⟨#[100]⟩, 20000, 10000, 0, []⟩], [⟨0, 1, -1, -1, ⟨#[]⟩, 1, 1⟩], [(⟨#[99]⟩, -1)]⟩
theorem awk_build : buildT ⟨#[103]⟩ true awkL = .ok awkG := by kernel_rfl
theorem awk_opts : optionsT ⟨#[103]⟩ awkL = .ok ⟨0, 10000, 20000, 5000, 8⟩ := by kernel_rfl
theorem awk_cnt : cntL awkL = 4 := by kernel_rfl
theorem two_none (n : Nat) (w : World) : TwoAt n w none [] := fun k h => absurd h (Nat.not_lt_zero _)
theorem stm_of {n : Nat} {W : World} {g o : Nat} {k : Int} {nm : ByteArray} {rs al : List Two} {body : List Stm} {r b : Option Addr} {rc bc : Nat} (h0 : W.cell? ⟨g, o, none⟩ = some (.int .i64 k)) (h1 : W.cell? ⟨g, o + 1, none⟩ = some (.string nm)) (h2 : W.cell? ⟨g, o + 2, none⟩ = some (.slice r rs.length rc)) (h3 : W.cell? ⟨g, o + 3, none⟩ = some (.slice none 0 0)) (h4 : W.cell? ⟨g, o + 4, none⟩ = some (.slice b body.length bc))
    (hal : al = []) (hr : TwoAt n W r rs) (hb : StmsAt n W b body) (hrl : rs.length ≤ rc) (hrc : rc ≤ 100) (hbl : body.length ≤ 100) : StmAt n W g o (.mk k nm rs al body) := by
  subst hal
  rw [StmAt]
  refine ⟨r, rc, none, 0, b, bc, h0, h1, h2, h3, h4, hr, two_none _ _, hb, hrl, Nat.le_refl _, ?_, Nat.zero_le _, ?_⟩ <;> (unfold maxLen; omega)
theorem awk_at {n : Nat} {W : World} {gR gI gO : Nat} (hR : W.heap[gR]? = some (.cells #[.string ⟨#[97]⟩, .string ⟨#[]⟩, .string ⟨#[98]⟩, .string ⟨#[]⟩] 58 (0, 0))) (hI : W.heap[gI]? = some (.cells #[.int .i64 1, .string ⟨#[97]⟩, .slice none 0 0, .slice none 0 0, .slice none 0 0, .int .i64 1, .string ⟨#[100]⟩, .slice none 0 0, .slice none 0 0, .slice none 0 0] 56 (0, 0))) (hO : W.heap[gO]? = some (.cells #[.int .i64 2, .string ⟨#[]⟩, .slice (some ⟨gR, 0, none⟩) 2 2, .slice none 0 0, .slice none 0 0, .int .i64 5, .string ⟨#[99]⟩, .slice none 0 0, .slice none 0 0, .slice (some ⟨gI, 0, none⟩) 2 2] 56 (0, 0)))
    (lR : gR < n) (lI : gI < n) (lO : gO < n) : StmsAt n W (some ⟨gO, 0, none⟩) awkL := by
  have hTR : TwoAt n W (some ⟨gR, 0, none⟩) [(⟨#[97]⟩, ⟨#[]⟩), (⟨#[98]⟩, ⟨#[]⟩)] := fun k hk => by
    match k, hk with
    | 0, _ => exact ⟨gR, 0, rfl, lR, by rw [Lib.cell_of_heap hR]; rfl, by rw [Lib.cell_of_heap hR]; rfl⟩
    | 1, _ => exact ⟨gR, 0, rfl, lR, by rw [Lib.cell_of_heap hR]; rfl, by rw [Lib.cell_of_heap hR]; rfl⟩
  have hIn : StmsAt n W (some ⟨gI, 0, none⟩) [.mk 1 ⟨#[97]⟩ [] [] [], .mk 1 ⟨#[100]⟩ [] [] []] := by
    rw [stmsAt_cons]
    refine ⟨gI, 0, rfl, lI, ?_, ?_⟩
    · exact stm_of (r := none) (b := none) (rc := 0) (bc := 0) (by rw [Lib.cell_of_heap hI]; rfl) (by rw [Lib.cell_of_heap hI]; rfl) (by rw [Lib.cell_of_heap hI]; rfl) (by rw [Lib.cell_of_heap hI]; rfl) (by rw [Lib.cell_of_heap hI]; rfl) rfl (two_none _ _) (by rw [StmsAt]; trivial) (by simp) (by simp) (by simp)
    · rw [stmsAt_cons]
      refine ⟨gI, 5, rfl, lI, ?_, by rw [StmsAt]; trivial⟩
      exact stm_of (r := none) (b := none) (rc := 0) (bc := 0) (by rw [Lib.cell_of_heap hI]; rfl) (by rw [Lib.cell_of_heap hI]; rfl) (by rw [Lib.cell_of_heap hI]; rfl) (by rw [Lib.cell_of_heap hI]; rfl) (by rw [Lib.cell_of_heap hI]; rfl) rfl (two_none _ _) (by rw [StmsAt]; trivial) (by simp) (by simp) (by simp)
  unfold awkL
  rw [stmsAt_cons]
  refine ⟨gO, 0, rfl, lO, ?_, ?_⟩
  · exact stm_of (r := some ⟨gR, 0, none⟩) (b := none) (rc := 2) (bc := 0) (by rw [Lib.cell_of_heap hO]; rfl) (by rw [Lib.cell_of_heap hO]; rfl) (by rw [Lib.cell_of_heap hO]; rfl) (by rw [Lib.cell_of_heap hO]; rfl) (by rw [Lib.cell_of_heap hO]; rfl) rfl hTR (by rw [StmsAt]; trivial) (by simp) (by simp) (by simp)
  · rw [stmsAt_cons]
    refine ⟨gO, 5, rfl, lO, ?_, by rw [StmsAt]; trivial⟩
    exact stm_of (r := none) (b := some ⟨gI, 0, none⟩) (rc := 0) (bc := 2) (by rw [Lib.cell_of_heap hO]; rfl) (by rw [Lib.cell_of_heap hO]; rfl) (by rw [Lib.cell_of_heap hO]; rfl) (by rw [Lib.cell_of_heap hO]; rfl) (by rw [Lib.cell_of_heap hO]; rfl) rfl (two_none _ _) hIn (by simp) (by simp) (by simp)
theorem awk_big : BigL awkL := big_small (by have : decide (sizeL awkL ≤ 1048576) = true := (by kernel_rfl); exact of_decide_eq_true this)
theorem awk_few : ∀ p ∈ flatL 0 awkL, p.1.refs.length ≤ 10 ∧ p.1.attrs.length ≤ 20 := by
  have h : (flatL 0 awkL).all (fun p => decide (p.1.refs.length ≤ 10) && decide (p.1.attrs.length ≤ 20)) = true := by kernel_rfl
  intro p hp
  have := List.all_eq_true.1 h p hp
  rw [Bool.and_eq_true, decide_eq_true_eq, decide_eq_true_eq] at this
  exact this
set_option maxHeartbeats 4000000 in
set_option maxRecDepth 100000 in
theorem awake_any (w : World) (he : Env w) : Calls Tryz.prog 9 #[] w fun e w' => e = .returned (.bool true) ∧ Ext w w' := by
  have HE := Lib.hid he
  clear he
  go_enter Tryz.func9, Tryz.ntmps9
  go_wp2_with fail
  obtain ⟨wb, hwb⟩ : ∃ x, x = (w.alloc (.cells #[.string ⟨#[97]⟩, .string ⟨#[]⟩] 58)).alloc (.cells #[.string ⟨#[98]⟩, .string ⟨#[]⟩] 58) := ⟨_, rfl⟩
  have sb : wb.heap.size = w.heap.size + 1 + 1 := by rw [hwb]; simp
  obtain ⟨wc, hwc⟩ : ∃ x, x = wb.alloc (.cells #[.string ⟨#[97]⟩, .string ⟨#[]⟩, .string ⟨#[98]⟩, .string ⟨#[]⟩] 58) := ⟨_, rfl⟩
  have sc : wc.heap.size = w.heap.size + 1 + 1 + 1 := by rw [hwc]; simp [sb]
  obtain ⟨wd, hwd⟩ : ∃ x, x = wc.alloc (.cells #[.int .i64 1, .string ⟨#[97]⟩, .slice none 0 0, .slice none 0 0, .slice none 0 0, .int .i64 1, .string ⟨#[100]⟩, .slice none 0 0, .slice none 0 0, .slice none 0 0] 56) := ⟨_, rfl⟩
  have sd : wd.heap.size = w.heap.size + 1 + 1 + 1 + 1 := by rw [hwd]; simp [sc]
  obtain ⟨we, hwe⟩ : ∃ x, x = wd.alloc (.cells #[.int .i64 2, .string ⟨#[]⟩, .slice (some ⟨w.heap.size + 1 + 1, 0, none⟩) 2 2, .slice none 0 0, .slice none 0 0, .int .i64 5, .string ⟨#[99]⟩, .slice none 0 0, .slice none 0 0, .slice (some ⟨w.heap.size + 1 + 1 + 1, 0, none⟩) 2 2] 56) := ⟨_, rfl⟩
  have se : we.heap.size = w.heap.size + 1 + 1 + 1 + 1 + 1 := by rw [hwe]; simp [sd]
  obtain ⟨wt, hwt⟩ : ∃ x, x = we.alloc (.cells #[.string ⟨#[103]⟩, .bool true, .slice (some ⟨w.heap.size + 1 + 1 + 1 + 1, 0, none⟩) 2 2] 24) := ⟨_, rfl⟩
  have st : wt.heap.size = w.heap.size + 1 + 1 + 1 + 1 + 1 + 1 := by rw [hwt]; simp [se]
  have xbc : Ext wb wc := by rw [hwc]; exact (Ext.refl _).alloc _
  have xcd : Ext wc wd := by rw [hwd]; exact (Ext.refl _).alloc _
  have xde : Ext wd we := by rw [hwe]; exact (Ext.refl _).alloc _
  have xet : Ext we wt := by rw [hwt]; exact (Ext.refl _).alloc _
  have xwb : Ext w wb := by rw [hwb]; exact ((Ext.refl _).alloc _).alloc _
  have hR : wt.heap[w.heap.size + 1 + 1]? = some (.cells #[.string ⟨#[97]⟩, .string ⟨#[]⟩, .string ⟨#[98]⟩, .string ⟨#[]⟩] 58 (0, 0)) := At.heap_ext (by rw [hwc, ← sb]; exact heap_alloc_new wb _) ((xcd.trans xde).trans xet)
  have hI : wt.heap[w.heap.size + 1 + 1 + 1]? = some (.cells #[.int .i64 1, .string ⟨#[97]⟩, .slice none 0 0, .slice none 0 0, .slice none 0 0, .int .i64 1, .string ⟨#[100]⟩, .slice none 0 0, .slice none 0 0, .slice none 0 0] 56 (0, 0)) := At.heap_ext (by rw [hwd, ← sc]; exact heap_alloc_new wc _) (xde.trans xet)
  have hO : wt.heap[w.heap.size + 1 + 1 + 1 + 1]? = some (.cells #[.int .i64 2, .string ⟨#[]⟩, .slice (some ⟨w.heap.size + 1 + 1, 0, none⟩) 2 2, .slice none 0 0, .slice none 0 0, .int .i64 5, .string ⟨#[99]⟩, .slice none 0 0, .slice none 0 0, .slice (some ⟨w.heap.size + 1 + 1 + 1, 0, none⟩) 2 2] 56 (0, 0)) := At.heap_ext (by rw [hwe, ← sd]; exact heap_alloc_new wd _) xet
  have hT : wt.heap[w.heap.size + 1 + 1 + 1 + 1 + 1]? = some (.cells #[.string ⟨#[103]⟩, .bool true, .slice (some ⟨w.heap.size + 1 + 1 + 1 + 1, 0, none⟩) 2 2] 24 (0, 0)) := by rw [hwt, ← se]; exact heap_alloc_new we _
  have hst := awk_at (n := wt.heap.size) hR hI hO (by omega) (by omega) (by omega)
  have XT := Lib.hid ((((xwb.trans xbc).trans xcd).trans xde).trans xet)
  have hbd := build_any ⟨#[103]⟩ true (some ⟨w.heap.size + 1 + 1 + 1 + 1, 0, none⟩) awkL 2 wt.heap.size wt (Nat.le_refl _) hst (by decide) (by rw [awk_cnt]; decide) awk_big (by decide) awk_few (HE.out.ext XT.out)
  rw [awk_build] at hbd
  have hop := fun (w5 : World) (x : Ext wt w5) => optsP_any ⟨#[103]⟩ true (some ⟨w.heap.size + 1 + 1 + 1 + 1, 0, none⟩) awkL 2 wt.heap.size w5 x.size (StmsAt.below (x.mono (Nat.le_refl _)) awkL hst) (by decide) (by rw [awk_cnt]; decide) awk_big (by decide) awk_few (HE.out.ext (XT.out.trans x))
  rw [awk_opts] at hop
  rw [← hwb, ← hwc, ← hwd, ← hwe, ← hwt]
  obtain ⟨gt, hgt⟩ : ∃ g, g = w.heap.size + 1 + 1 + 1 + 1 + 1 := ⟨_, rfl⟩
  obtain ⟨go', hgo⟩ : ∃ g, g = w.heap.size + 1 + 1 + 1 + 1 := ⟨_, rfl⟩
  rw [← hgt] at hT ⊢
  rw [← hgo] at hT hbd hop ⊢
  have HBD := Lib.hid hbd; have HOP := Lib.hid hop; have HT := Lib.hid hT
  have t0 : wt.cell? ⟨gt, 0, none⟩ = some (.string ⟨#[103]⟩) := by rw [Lib.cell_of_heap hT]; rfl
  clear hbd hop hT hst hR hI hO xbc xcd xde xet xwb hwb hwc hwd hwe hwt sb sc sd se st hgt hgo t0
  refine Calls.mono HBD.out ?_
  rintro e wg ⟨⟨v, rfl, hgi, -, -⟩, xg⟩
  obtain ⟨na, nc, ea, ec, ca, cc, hv, hN, hEd, -⟩ := hgi
  have hv2 : v = .agg #[.string ⟨#[103]⟩, .bool true, .slice na 3 nc, .slice ea 1 ec, .slice ca 1 cc] := hv
  clear hv
  subst hv2
  obtain ⟨ng, no, np, npc, rfl, -, -, -, -, n04, -, -⟩ := hN 0 (by decide)
  obtain ⟨ng2, no2, np2, npc2, hna, n20, -, -, -, n24, -, -⟩ := hN 2 (by decide)
  injection hna with hna
  injection hna with hna1 hna2 _
  subst hna1; subst hna2
  obtain ⟨eg, eo, rfl, -, e1, -, -, -, -, -⟩ := hEd 0 (by decide)
  have n04' : wg.cell? ⟨ng, no + 4, none⟩ = some (.int .i64 (-1)) := by have h : wg.cell? ⟨ng, no + 0 * 6 + 4, none⟩ = some (.int .i64 (-1)) := n04; simpa using h
  have n24' : wg.cell? ⟨ng, no + 2 * 6 + 4, none⟩ = some (.int .i64 0) := n24
  have n20' : wg.cell? ⟨ng, no + 2 * 6, none⟩ = some (.string ⟨#[100]⟩) := n20
  have e1' : wg.cell? ⟨eg, eo + 1, none⟩ = some (.int .i64 1) := by have h : wg.cell? ⟨eg, eo + 0 * 7 + 1, none⟩ = some (.int .i64 1) := e1; simpa using h
  have XG := Lib.hid xg
  obtain ⟨u0, u1, u2⟩ : wg.cell? ⟨gt, 0, none⟩ = some (.string ⟨#[103]⟩) ∧ wg.cell? ⟨gt, 1, none⟩ = some (.bool true) ∧ wg.cell? ⟨gt, 2, none⟩ = some (.slice (some ⟨go', 0, none⟩) 2 2) := by
    have h := At.heap_ext HT.out xg
    refine ⟨?_, ?_, ?_⟩ <;> (rw [Lib.cell_of_heap h]; rfl)
  have u0a := fun ob => ((Ext.refl wg).alloc ob).cell u0
  have u1a := fun ob => ((Ext.refl wg).alloc ob).cell u1
  have u2a := fun ob => ((Ext.refl wg).alloc ob).cell u2
  have N1 := Lib.hid n04'; have N2 := Lib.hid n24'; have N3 := Lib.hid n20'; have E1 := Lib.hid e1'
  clear hN hEd xg HBD n04 n24 n20 e1 n04' n24' n20' e1'
  go_wp2_with fail
  refine (HOP.out _ (XG.out.alloc _)).mono ?_
  rintro e wo ⟨rfl, xo⟩
  have G1 := fun ob => At.heap_ext (At.heap_ext (heap_alloc_new wg (.cells #[.string ⟨#[103]⟩, .bool true, .slice (some ⟨ng, no, none⟩) 3 nc, .slice (some ⟨eg, eo, none⟩) 1 ec, .slice ca 1 cc] 31)) xo) ((Ext.refl wo).alloc ob)
  have XO := Lib.hid (((Ext.refl wg).alloc (.cells #[.string ⟨#[103]⟩, .bool true, .slice (some ⟨ng, no, none⟩) 3 nc, .slice (some ⟨eg, eo, none⟩) 1 ec, .slice ca 1 cc] 31)).trans xo)
  have g2 := fun ob => (show (wo.alloc ob).cell? ⟨wg.heap.size, 2, none⟩ = some (.slice (some ⟨ng, no, none⟩) 3 nc) by rw [Lib.cell_of_heap (G1 ob)]; rfl)
  have g3 := fun ob => (show (wo.alloc ob).cell? ⟨wg.heap.size, 3, none⟩ = some (.slice (some ⟨eg, eo, none⟩) 1 ec) by rw [Lib.cell_of_heap (G1 ob)]; rfl)
  have m1 := fun ob => (XO.out.alloc ob).cell N1.out
  have m2 := fun ob => (XO.out.alloc ob).cell N2.out
  have m3 := fun ob => (XO.out.alloc ob).cell N3.out
  have m4 := fun ob => (XO.out.alloc ob).cell E1.out
  have XF := Lib.hid ((XT.out.trans XG.out).trans XO.out)
  clear G1 xo u0 u1 u2 u0a u1a u2a HOP N1 N2 N3 E1
  unfold opV
  dsimp only
  go_wp2
  go_returns
  exact ⟨rfl, XF.out.alloc _⟩
end Go.Proofs.YtnancphlkbfglaaGreatDoor.Nm

/- An argument that is a tree, opened; its bulk. -/
namespace Go.Proofs.YtnancphlkbfglaaGreatDoor.Tr
open Go.RowKit Go.Lib Fx Lx Go.ChangeShapes Go.WideShapes Go.Deep

theorem cTwo : Tryz.prog.cellsOf 109 = 2 := by kernel_rfl
theorem cRef : Tryz.prog.cellsOf 58 = 2 := by kernel_rfl
theorem cStm : Tryz.prog.cellsOf 56 = 5 := by kernel_rfl
theorem cInt : Tryz.prog.cellsOf 3 = 1 := by kernel_rfl
theorem cStr : Tryz.prog.cellsOf 9 = 1 := by kernel_rfl
theorem cSl1 : Tryz.prog.cellsOf 53 = 1 := by kernel_rfl
theorem cSl2 : Tryz.prog.cellsOf 54 = 1 := by kernel_rfl
theorem cSl3 : Tryz.prog.cellsOf 22 = 1 := by kernel_rfl
theorem sizeTwo_map {H : Type} (F : Nat → Two) (D : Nat → DataW H) : ∀ l : List Nat, (∀ i ∈ l, (F i).1.size + (F i).2.size + 1 ≤ Rows.uptoBulk (D i)) → sizeTwo (l.map F) ≤ Rows.uptoBulkAll (l.map D)
  | [], _ => by simp [sizeTwo]
  | i :: r, h => by
    rw [List.map_cons, List.map_cons, sizeTwo, Rows.uptoBulkAll]
    have h1 := h i List.mem_cons_self
    have h2 := sizeTwo_map F D r (fun j hj => h j (List.mem_cons_of_mem _ hj))
    omega
theorem sizeL_map {H : Type} (F : Nat → Stm) (D : Nat → DataW H) : ∀ l : List Nat, (∀ i ∈ l, sizeS (F i) ≤ Rows.uptoBulk (D i)) → sizeL (l.map F) ≤ Rows.uptoBulkAll (l.map D)
  | [], _ => by simp [sizeL]
  | i :: r, h => by
    rw [List.map_cons, List.map_cons, sizeL, Rows.uptoBulkAll]
    have h1 := h i List.mem_cons_self
    have h2 := sizeL_map F D r (fun j hj => h j (List.mem_cons_of_mem _ hj))
    omega
theorem bulk_mem {H : Type} : ∀ {l : List (DataW H)} {d : DataW H}, d ∈ l → Rows.uptoBulk d ≤ Rows.uptoBulkAll l
  | x :: r, d, h => by
    rw [Rows.uptoBulkAll]
    rcases List.mem_cons.1 h with rfl | h
    · omega
    · have := bulk_mem h; omega
theorem add_offk (g o k j m : Nat) : ((⟨g, o, none⟩ : Addr).add (k * m)).add j = ⟨g, o + k * m + j, none⟩ := by
  simp only [Addr.add]
  by_cases h1 : k * m = 0
  · rw [h1]; by_cases h2 : j = 0 <;> simp [h2]
  · by_cases h2 : j = 0 <;> simp [h1, h2]
section
variable {H : Type} {enc : TypeId × Value → H} {W : World} {base : Nat} {sp : Nat → Bool} {held : Bool}
set_option maxRecDepth 100000 in
theorem open_attr {n : Nat} {cs : List Value} {x : DataW H × List MemPlace}
    (h : DataW.trod enc Tryz.prog W base sp held n 109 cs = some x) : ∃ (k v : ByteArray), cs = [.string k, .string v] ∧ x.1 = .agg [.lit (.string k.data.toList), .lit (.string v.data.toList)] := by
  obtain ⟨xs, n', _, rfl, hlen, hxl, hg⟩ := DataW.trod_struct Tryz.underlying109 h
  rw [cTwo] at hlen
  have hxl2 : xs.length = 2 := hxl
  clear hxl
  match cs, hlen with
  | [a, b], _ =>
    obtain ⟨y0, y1, rfl⟩ : ∃ y0 y1, xs = [y0, y1] := by
      match xs, hxl2 with
      | [y0, y1], _ => exact ⟨y0, y1, rfl⟩
    have h0 : DataW.trod enc Tryz.prog W base sp held n' 9 [a] = some y0 := by simpa [cStr] using hg 0 _ rfl
    have h1 : DataW.trod enc Tryz.prog W base sp held n' 9 [b] = some y1 := by simpa [cStr] using hg 1 _ rfl
    obtain ⟨k, e0, r0, _⟩ := DataW.trod_string Tryz.underlying9 h0
    obtain ⟨v, e1, r1, _⟩ := DataW.trod_string Tryz.underlying9 h1
    simp only [List.cons.injEq, and_true] at e0 e1
    subst e0; subst e1; subst r0; subst r1
    exact ⟨k, v, rfl, rfl⟩
set_option maxRecDepth 100000 in
theorem open_ref {n : Nat} {cs : List Value} {x : DataW H × List MemPlace}
    (h : DataW.trod enc Tryz.prog W base sp held n 58 cs = some x) : ∃ (k v : ByteArray), cs = [.string k, .string v] ∧ x.1 = .agg [.lit (.string k.data.toList), .lit (.string v.data.toList)] := by
  obtain ⟨xs, n', _, rfl, hlen, hxl, hg⟩ := DataW.trod_struct Tryz.underlying58 h
  rw [cRef] at hlen
  have hxl2 : xs.length = 2 := hxl
  clear hxl
  match cs, hlen with
  | [a, b], _ =>
    obtain ⟨y0, y1, rfl⟩ : ∃ y0 y1, xs = [y0, y1] := by
      match xs, hxl2 with
      | [y0, y1], _ => exact ⟨y0, y1, rfl⟩
    have h0 : DataW.trod enc Tryz.prog W base sp held n' 9 [a] = some y0 := by simpa [cStr] using hg 0 _ rfl
    have h1 : DataW.trod enc Tryz.prog W base sp held n' 9 [b] = some y1 := by simpa [cStr] using hg 1 _ rfl
    obtain ⟨k, e0, r0, _⟩ := DataW.trod_string Tryz.underlying9 h0
    obtain ⟨v, e1, r1, _⟩ := DataW.trod_string Tryz.underlying9 h1
    simp only [List.cons.injEq, and_true] at e0 e1
    subst e0; subst e1; subst r0; subst r1
    exact ⟨k, v, rfl, rfl⟩
theorem lt_of_cell {w : World} {g o : Nat} {v : Value} (h : w.cell? ⟨g, o, none⟩ = some v) : g < w.heap.size := World.block_lt_of_cell? _ _ h

set_option maxRecDepth 100000 in
theorem open_twos (t e : TypeId) (hu : Tryz.prog.underlying t = some (.slice e)) (hc2 : Tryz.prog.cellsOf e = 2)
    (ho : ∀ {n : Nat} {cs : List Value} {x : DataW H × List MemPlace}, DataW.trod enc Tryz.prog W base sp held n e cs = some x → ∃ (k v : ByteArray), cs = [.string k, .string v] ∧ x.1 = .agg [.lit (.string k.data.toList), .lit (.string v.data.toList)])
    {fuel : Nat} {cs : List Value} {x : DataW H × List MemPlace} (h : DataW.trod enc Tryz.prog W base sp held fuel t cs = some x) :
    ∃ (a : Option Addr) (L : List Two) (cap : Nat), cs = [.slice a L.length cap] ∧ TwoAt W.heap.size W a L ∧ L.length ≤ cap ∧ cap ≤ maxLen ∧ sizeTwo L ≤ Rows.uptoBulk x.1 := by
  rcases open_slice hu h with ⟨rfl, rfl⟩ | ⟨a, len, cap, m, n, D, Pl, rfl, _, hl, hm, hmm, hxx, hx⟩
  · exact ⟨none, [], 0, rfl, (fun k h => absurd h (Nat.not_lt_zero _)), Nat.le_refl _, Nat.zero_le _, by simp [sizeTwo]⟩
  · have hlm : len ≤ m := by rw [hmm]; split <;> omega
    rw [hc2] at hx
    have hone : ∀ i, i < len → ∃ q : Two, q.1.size + q.2.size + 1 ≤ Rows.uptoBulk (D i) ∧ ∃ g o, a = ⟨g, o, none⟩ ∧ W.cell? ⟨g, o + i * 2, none⟩ = some (.string q.1) ∧ W.cell? ⟨g, o + i * 2 + 1, none⟩ = some (.string q.2) := fun i hi => by
      obtain ⟨cs', h1, h2⟩ := hx i (by omega)
      obtain ⟨k, v, rfl, hd⟩ := ho h2
      obtain ⟨_, _, hc⟩ := World.cells?_some h1
      have c0 := hc 0 (by omega); have c1 := hc 1 (by omega)
      obtain ⟨g, o, spot⟩ := a
      have hspot : spot = none := by
        obtain ⟨cs0, q1, q2⟩ := hx 0 (by omega)
        obtain ⟨k0, v0, rfl, _⟩ := ho q2
        obtain ⟨_, _, hc0⟩ := World.cells?_some q1
        have h := World.cell?_spot (show W.cell? _ = some (.string k0) from hc0 0 (by omega))
        simpa [Addr.add] using h
      subst hspot
      rw [add_offk] at c0 c1
      have hd' : D i = .agg [.lit (.string k.data.toList), .lit (.string v.data.toList)] := hd
      refine ⟨(k, v), ?_, g, o, rfl, c0, c1⟩
      rw [hd']
      simp only [Rows.uptoBulk, Rows.uptoBulkAll]
      rw [← size_len, ← size_len]
      omega
    obtain ⟨F, hF⟩ := choose_lt (α := Two) hone
    refine ⟨some a, (List.range len).map F, cap, by simp, ?_, by simp; omega, hm, ?_⟩
    · intro k hk
      have hk' : k < len := by simpa using hk
      obtain ⟨_, g, o, rfl, c0, c1⟩ := hF k hk'
      exact ⟨g, o, rfl, lt_of_cell c0, by simpa using c0, by simpa using c1⟩
    · rw [hxx]
      simp only [Rows.uptoBulk]
      have := sizeTwo_map F D (List.range len) (fun i hi => (hF i (List.mem_range.1 hi)).1)
      omega
instance : Inhabited Stm := ⟨.mk 0 ByteArray.empty [] [] []⟩
set_option maxRecDepth 100000 in
/-- A slice of statements. -/
theorem open_stms : ∀ (M : Nat) {fuel : Nat} {cs : List Value} {x : DataW H × List MemPlace}, Rows.uptoBulk x.1 ≤ M → DataW.trod enc Tryz.prog W base sp held fuel 22 cs = some x →
    ∃ (b : Option Addr) (L : List Stm) (cap : Nat), cs = [.slice b L.length cap] ∧ StmsAt W.heap.size W b L ∧ L.length ≤ maxLen ∧ sizeL L ≤ Rows.uptoBulk x.1
  | 0, fuel, cs, x, hM, h => by
    rcases open_slice Tryz.underlying22 h with ⟨rfl, rfl⟩ | ⟨a, len, cap, m, n, D, Pl, rfl, _, hl, hm, hmm, hxx, hx⟩
    · simp [Rows.uptoBulk] at hM
    · rw [hxx] at hM; simp [Rows.uptoBulk] at hM
  | M + 1, fuel, cs, x, hM, h => by
    rcases open_slice Tryz.underlying22 h with ⟨rfl, rfl⟩ | ⟨a, len, cap, m, n, D, Pl, rfl, _, hl, hm, hmm, hxx, hx⟩
    · exact ⟨none, [], 0, rfl, by rw [StmsAt]; trivial, Nat.zero_le _, by simp [sizeL]⟩
    · have hlm : len ≤ m := by rw [hmm]; split <;> omega
      rw [cStm] at hx
      have hbk : ∀ i, i < len → Rows.uptoBulk (D i) ≤ M := fun i hi => by
        have h1 := bulk_mem (List.mem_map.2 ⟨i, List.mem_range.2 hi, rfl⟩ : D i ∈ (List.range len).map D)
        rw [hxx] at hM
        simp only [Rows.uptoBulk] at hM
        omega
      have hone : ∀ i, i < len → ∃ s : Stm, sizeS s ≤ Rows.uptoBulk (D i) ∧ ∃ g o, a = ⟨g, o, none⟩ ∧ g < W.heap.size ∧ StmAt W.heap.size W g (o + i * 5) s := fun i hi => by
        have hstm : ∀ {cs' : List Value} {y : DataW H × List MemPlace} {n : Nat}, Rows.uptoBulk y.1 ≤ M → DataW.trod enc Tryz.prog W base sp held n 56 cs' = some y →
            ∃ (k : Int) (nm : ByteArray) (r : Option Addr) (rs : List Two) (rc : Nat) (a : Option Addr) (al : List Two) (ac : Nat) (b : Option Addr) (body : List Stm) (bc : Nat), cs' = [.int .i64 k, .string nm, .slice r rs.length rc, .slice a al.length ac, .slice b body.length bc] ∧
              TwoAt W.heap.size W r rs ∧ TwoAt W.heap.size W a al ∧ StmsAt W.heap.size W b body ∧ rs.length ≤ rc ∧ al.length ≤ ac ∧ rc ≤ maxLen ∧ ac ≤ maxLen ∧ body.length ≤ maxLen ∧ sizeS (.mk k nm rs al body) ≤ Rows.uptoBulk y.1 := fun {cs' y n} hb h => by
          obtain ⟨xs, n', _, rfl, hlen, hxl, hg⟩ := DataW.trod_struct Tryz.underlying56 h
          rw [cStm] at hlen
          have hxl5 : xs.length = 5 := hxl
          clear hxl
          match cs', hlen with
          | [p0, p1, p2, p3, p4], _ =>
            obtain ⟨y0, y1, y2, y3, y4, rfl⟩ : ∃ y0 y1 y2 y3 y4, xs = [y0, y1, y2, y3, y4] := by
              match xs, hxl5 with
              | [y0, y1, y2, y3, y4], _ => exact ⟨y0, y1, y2, y3, y4, rfl⟩
            have g0 : DataW.trod enc Tryz.prog W base sp held n' 3 [p0] = some y0 := by simpa [cInt] using hg 0 _ rfl
            have g1 : DataW.trod enc Tryz.prog W base sp held n' 9 [p1] = some y1 := by simpa [cStr] using hg 1 _ rfl
            have g2 : DataW.trod enc Tryz.prog W base sp held n' 53 [p2] = some y2 := by simpa [cSl1] using hg 2 _ rfl
            have g3 : DataW.trod enc Tryz.prog W base sp held n' 54 [p3] = some y3 := by simpa [cSl2] using hg 3 _ rfl
            have g4 : DataW.trod enc Tryz.prog W base sp held n' 22 [p4] = some y4 := by simpa [cSl3] using hg 4 _ rfl
            obtain ⟨k, e0, r0, _⟩ := DataW.trod_int Tryz.underlying3 g0
            obtain ⟨nm, e1, r1, _⟩ := DataW.trod_string Tryz.underlying9 g1
            obtain ⟨r, rs, rc, e2, i2, l2, m2, s2⟩ := open_twos 53 58 Tryz.underlying53 cRef open_ref g2
            obtain ⟨a, al, ac, e3, i3, l3, m3, s3⟩ := open_twos 54 109 Tryz.underlying54 cTwo open_attr g3
            simp only [List.map_cons, List.map_nil, Rows.uptoBulk, Rows.uptoBulkAll] at hb
            obtain ⟨b, body, bc, e4, i4, m4, s4⟩ := open_stms M (by omega) g4
            simp only [List.cons.injEq, and_true] at e0 e1 e2 e3 e4
            subst e0; subst e1; subst e2; subst e3; subst e4; subst r0; subst r1
            refine ⟨k, nm, r, rs, rc, a, al, ac, b, body, bc, rfl, i2, i3, i4, l2, l3, m2, m3, m4, ?_⟩
            simp only [List.map_cons, List.map_nil, Rows.uptoBulk, Rows.uptoBulkAll, sizeS]
            rw [← size_len]
            omega
        obtain ⟨cs', h1, h2⟩ := hx i (by omega)
        obtain ⟨k, nm, r, rs, rc, a', al, ac, b, body, bc, rfl, i2, i3, i4, l2, l3, m2, m3, m4, hsz⟩ := hstm (hbk i hi) h2
        obtain ⟨_, _, hc⟩ := World.cells?_some h1
        have c0 := hc 0 (by omega); have c1 := hc 1 (by omega); have c2 := hc 2 (by omega); have c3 := hc 3 (by omega); have c4 := hc 4 (by omega)
        obtain ⟨g, o, spot⟩ := a
        have hspot : spot = none := by
          obtain ⟨cs0, q1, q2⟩ := hx 0 (by omega)
          obtain ⟨k0, nm0, r0, rs0, rc0, a0, al0, ac0, b0, body0, bc0, rfl, _⟩ := hstm (hbk 0 (by omega)) q2
          obtain ⟨_, _, hc0⟩ := World.cells?_some q1
          have h := World.cell?_spot (show W.cell? _ = some (.int .i64 k0) from hc0 0 (by omega))
          simpa [Addr.add] using h
        subst hspot
        rw [add_offk] at c0 c1 c2 c3 c4
        refine ⟨.mk k nm rs al body, hsz, g, o, rfl, lt_of_cell c1, ?_⟩
        rw [StmAt]
        exact ⟨r, rc, a', ac, b, bc, c0, c1, c2, c3, c4, i2, i3, i4, l2, l3, m2, m3, m4⟩
      obtain ⟨F, hF⟩ := choose_lt (α := Stm) hone
      refine ⟨some a, (List.range len).map F, cap, by simp, ?_, by simp; omega, ?_⟩
      · rcases Nat.eq_zero_or_pos len with h0 | h0
        · subst h0; rw [List.range_zero, List.map_nil, StmsAt]; trivial
        · obtain ⟨_, g, o, rfl, hg, _⟩ := hF 0 h0
          refine StmsAt.of g o _ hg fun k hk => ?_
          have hk' : k < len := by simpa using hk
          obtain ⟨_, g', o', e, _, r⟩ := hF k hk'
          injection e with e1 e2 _
          subst e1; subst e2
          simpa using r
      · rw [hxx]
        simp only [Rows.uptoBulk]
        have := sizeL_map F D (List.range len) (fun i hi => (hF i (List.mem_range.1 hi)).1)
        omega
end
end Go.Proofs.YtnancphlkbfglaaGreatDoor.Tr

/- An argument that is a tree, or a list of attributes, opened: its texts are no longer than the form reaches. -/
namespace Go.Proofs.YtnancphlkbfglaaGreatDoor.Pa
open Go.RowKit Go.Lib Fx Lx Tr Go.ChangeShapes Go.WideShapes Go.Deep

/-- The greatest size that the form reaches. -/
def reachN : Nat := 140737488351232
def SmallT (L : List Two) : Prop := ∀ q ∈ L, q.1.size ≤ reachN ∧ q.2.size ≤ reachN
def SmallS (x : Stm) : Prop := x.name.size ≤ reachN ∧ SmallT x.attrs ∧ SmallT x.refs
theorem weightsAll_of {H : Type} {P : Program} {e : TypeId} : ∀ {l : List (DataW H)} {d : DataW H}, d ∈ l → ∀ n ∈ d.weights P e, n ∈ DataW.weightsAll P e l
  | x :: r, d, hd, n, hn => by
    rw [DataW.weightsAll, List.mem_append]
    rcases List.mem_cons.1 hd with rfl | hd
    · exact .inl hn
    · exact .inr (weightsAll_of hd n hn)
theorem fs_ref : ∃ fs, Tryz.prog.underlying 58 = some (.struct fs) ∧ fs.toList.map (·.type) = [9, 9] := ⟨_, Tryz.underlying58, rfl⟩
theorem fs_attr : ∃ fs, Tryz.prog.underlying 109 = some (.struct fs) ∧ fs.toList.map (·.type) = [9, 9] := ⟨_, Tryz.underlying109, rfl⟩
theorem fs_stm : ∃ fs, Tryz.prog.underlying 56 = some (.struct fs) ∧ fs.toList.map (·.type) = [3, 9, 53, 54, 22] := ⟨_, Tryz.underlying56, rfl⟩
theorem fs_tree : ∃ fs, Tryz.prog.underlying 24 = some (.struct fs) ∧ fs.toList.map (·.type) = [9, 4, 22] := ⟨_, Tryz.underlying24, rfl⟩
theorem allL_of {p : Stm → Prop} : ∀ {L : List Stm}, (∀ s ∈ L, AllS p s) → AllL p L
  | [], _ => by rw [AllL]; trivial
  | x :: r, h => by rw [AllL]; exact ⟨h x (by simp), allL_of fun s hs => h s (by simp [hs])⟩
mutual
theorem allS_mem {p : Stm → Prop} (lev : Nat) : ∀ x : Stm, AllS p x → ∀ q ∈ flatS lev x, p q.1
  | .mk k n r a b, h, q, hq => by
    rw [AllS] at h
    rw [flatS] at hq
    rcases List.mem_cons.1 hq with rfl | hq
    · exact h.1
    · exact allL_mem _ b h.2 q hq
theorem allL_mem {p : Stm → Prop} (lev : Nat) : ∀ L : List Stm, AllL p L → ∀ q ∈ flatL lev L, p q.1
  | [], _, q, hq => by rw [flatL] at hq; cases hq
  | x :: r, h, q, hq => by
    rw [AllL] at h
    rw [flatL] at hq
    rcases List.mem_append.1 hq with hq | hq
    · exact allS_mem lev x h.1 q hq
    · exact allL_mem lev r h.2 q hq
end
theorem big_of {L : List Stm} (h : AllL SmallS L) : BigL L := fun p hp => by
  obtain ⟨h1, h2, h3⟩ := allL_mem 0 L h p hp
  unfold reachN at h1
  exact ⟨by omega, fun q hq => by have := h2 q hq; unfold reachN at this; omega, fun q hq => by have := h3 q hq; unfold reachN at this; omega⟩
section
variable {H : Type} {enc : TypeId × Value → H} {W : World} {base : Nat} {sp : Nat → Bool} {held : Bool}
set_option maxRecDepth 100000 in
theorem open_twosZ (t e : TypeId) (hu : Tryz.prog.underlying t = some (.slice e)) (hc2 : Tryz.prog.cellsOf e = 2) (hfs : ∃ fs, Tryz.prog.underlying e = some (.struct fs) ∧ fs.toList.map (·.type) = [9, 9])
    (ho : ∀ {n : Nat} {cs : List Value} {x : DataW H × List MemPlace}, DataW.trod enc Tryz.prog W base sp held n e cs = some x → ∃ (k v : ByteArray), cs = [.string k, .string v] ∧ x.1 = .agg [.lit (.string k.data.toList), .lit (.string v.data.toList)])
    {fuel : Nat} {cs : List Value} {x : DataW H × List MemPlace} (h : DataW.trod enc Tryz.prog W base sp held fuel t cs = some x) :
    ∃ (a : Option Addr) (L : List Two) (cap : Nat), cs = [.slice a L.length cap] ∧ TwoAt W.heap.size W a L ∧ L.length ≤ cap ∧ cap ≤ maxLen ∧ sizeTwo L ≤ Rows.uptoBulk x.1 ∧ ((∀ m ∈ x.1.weights Tryz.prog t, m ≤ reachN) → SmallT L) := by
  rcases open_slice hu h with ⟨rfl, rfl⟩ | ⟨a, len, cap, m, n, D, Pl, rfl, _, hl, hm, hmm, hxx, hx⟩
  · exact ⟨none, [], 0, rfl, (fun k h => absurd h (Nat.not_lt_zero _)), Nat.le_refl _, Nat.zero_le _, by simp [sizeTwo], fun _ q hq => by cases hq⟩
  · have hlm : len ≤ m := by rw [hmm]; split <;> omega
    rw [hc2] at hx
    have hone : ∀ i, i < len → ∃ q : Two, (q.1.size + q.2.size + 1 ≤ Rows.uptoBulk (D i) ∧ D i = .agg [.lit (.string q.1.data.toList), .lit (.string q.2.data.toList)]) ∧ ∃ g o, a = ⟨g, o, none⟩ ∧ W.cell? ⟨g, o + i * 2, none⟩ = some (.string q.1) ∧ W.cell? ⟨g, o + i * 2 + 1, none⟩ = some (.string q.2) := fun i hi => by
      obtain ⟨cs', h1, h2⟩ := hx i (by omega)
      obtain ⟨k, v, rfl, hd⟩ := ho h2
      obtain ⟨_, _, hc⟩ := World.cells?_some h1
      have c0 := hc 0 (by omega); have c1 := hc 1 (by omega)
      obtain ⟨g, o, spot⟩ := a
      have hspot : spot = none := by
        obtain ⟨cs0, q1, q2⟩ := hx 0 (by omega)
        obtain ⟨k0, v0, rfl, _⟩ := ho q2
        obtain ⟨_, _, hc0⟩ := World.cells?_some q1
        have h := World.cell?_spot (show W.cell? _ = some (.string k0) from hc0 0 (by omega))
        simpa [Addr.add] using h
      subst hspot
      rw [add_offk] at c0 c1
      have hd' : D i = .agg [.lit (.string k.data.toList), .lit (.string v.data.toList)] := hd
      refine ⟨(k, v), ⟨?_, hd'⟩, g, o, rfl, c0, c1⟩
      rw [hd']
      simp only [Rows.uptoBulk, Rows.uptoBulkAll]
      rw [← size_len, ← size_len]
      omega
    obtain ⟨F, hF⟩ := choose_lt (α := Two) hone
    refine ⟨some a, (List.range len).map F, cap, by simp, ?_, by simp; omega, hm, ?_, ?_⟩
    · intro k hk
      have hk' : k < len := by simpa using hk
      obtain ⟨_, g, o, rfl, c0, c1⟩ := hF k hk'
      exact ⟨g, o, rfl, lt_of_cell c0, by simpa using c0, by simpa using c1⟩
    · rw [hxx]
      simp only [Rows.uptoBulk]
      have := sizeTwo_map F D (List.range len) (fun i hi => (hF i (List.mem_range.1 hi)).1.1)
      omega
    · intro hz q hq
      obtain ⟨i, hi, rfl⟩ := List.mem_map.1 hq
      have hil := List.mem_range.1 hi
      have hd := (hF i hil).1.2
      have hw : ∀ z ∈ (D i).weights Tryz.prog e, z ≤ reachN := fun z hz2 => by
        refine hz z ?_
        rw [hxx, DataW.weights]
        simp only [hu, List.mem_cons, List.mem_append]
        exact .inr (.inl (weightsAll_of (List.mem_map.2 ⟨i, hi, rfl⟩) z hz2))
      rw [hd] at hw
      obtain ⟨fs, hus, hft⟩ := hfs
      rw [DataW.weights] at hw
      simp only [hus, hft, DataW.weightsEach, DataW.weights, List.append_nil, List.mem_append, List.mem_singleton] at hw
      have s1 := hw _ (.inl rfl)
      have s2 := hw _ (.inr rfl)
      rw [← size_len] at s1 s2
      exact ⟨s1, s2⟩
set_option maxRecDepth 100000 in
/-- A slice of statements. -/
theorem open_stmsZ : ∀ (M : Nat) {fuel : Nat} {cs : List Value} {x : DataW H × List MemPlace}, Rows.uptoBulk x.1 ≤ M → DataW.trod enc Tryz.prog W base sp held fuel 22 cs = some x →
    ∃ (b : Option Addr) (L : List Stm) (cap : Nat), cs = [.slice b L.length cap] ∧ StmsAt W.heap.size W b L ∧ L.length ≤ maxLen ∧ sizeL L ≤ Rows.uptoBulk x.1 ∧ ((∀ m ∈ x.1.weights Tryz.prog 22, m ≤ reachN) → AllL SmallS L)
  | 0, fuel, cs, x, hM, h => by
    rcases open_slice Tryz.underlying22 h with ⟨rfl, rfl⟩ | ⟨a, len, cap, m, n, D, Pl, rfl, _, hl, hm, hmm, hxx, hx⟩
    · simp [Rows.uptoBulk] at hM
    · rw [hxx] at hM; simp [Rows.uptoBulk] at hM
  | M + 1, fuel, cs, x, hM, h => by
    rcases open_slice Tryz.underlying22 h with ⟨rfl, rfl⟩ | ⟨a, len, cap, m, n, D, Pl, rfl, _, hl, hm, hmm, hxx, hx⟩
    · exact ⟨none, [], 0, rfl, by rw [StmsAt]; trivial, Nat.zero_le _, by simp [sizeL], fun _ => by rw [AllL]; trivial⟩
    · have hlm : len ≤ m := by rw [hmm]; split <;> omega
      rw [cStm] at hx
      have hbk : ∀ i, i < len → Rows.uptoBulk (D i) ≤ M := fun i hi => by
        have h1 := bulk_mem (List.mem_map.2 ⟨i, List.mem_range.2 hi, rfl⟩ : D i ∈ (List.range len).map D)
        rw [hxx] at hM
        simp only [Rows.uptoBulk] at hM
        omega
      have hone : ∀ i, i < len → ∃ s : Stm, (sizeS s ≤ Rows.uptoBulk (D i) ∧ ((∀ m ∈ (D i).weights Tryz.prog 56, m ≤ reachN) → AllS SmallS s)) ∧ ∃ g o, a = ⟨g, o, none⟩ ∧ g < W.heap.size ∧ StmAt W.heap.size W g (o + i * 5) s := fun i hi => by
        have hstm : ∀ {cs' : List Value} {y : DataW H × List MemPlace} {n : Nat}, Rows.uptoBulk y.1 ≤ M → DataW.trod enc Tryz.prog W base sp held n 56 cs' = some y →
            ∃ (k : Int) (nm : ByteArray) (r : Option Addr) (rs : List Two) (rc : Nat) (a : Option Addr) (al : List Two) (ac : Nat) (b : Option Addr) (body : List Stm) (bc : Nat), cs' = [.int .i64 k, .string nm, .slice r rs.length rc, .slice a al.length ac, .slice b body.length bc] ∧
              TwoAt W.heap.size W r rs ∧ TwoAt W.heap.size W a al ∧ StmsAt W.heap.size W b body ∧ rs.length ≤ rc ∧ al.length ≤ ac ∧ rc ≤ maxLen ∧ ac ≤ maxLen ∧ body.length ≤ maxLen ∧ sizeS (.mk k nm rs al body) ≤ Rows.uptoBulk y.1 ∧ ((∀ m ∈ y.1.weights Tryz.prog 56, m ≤ reachN) → AllS SmallS (.mk k nm rs al body)) := fun {cs' y n} hb h => by
          obtain ⟨xs, n', _, rfl, hlen, hxl, hg⟩ := DataW.trod_struct Tryz.underlying56 h
          rw [cStm] at hlen
          have hxl5 : xs.length = 5 := hxl
          clear hxl
          match cs', hlen with
          | [p0, p1, p2, p3, p4], _ =>
            obtain ⟨y0, y1, y2, y3, y4, rfl⟩ : ∃ y0 y1 y2 y3 y4, xs = [y0, y1, y2, y3, y4] := by
              match xs, hxl5 with
              | [y0, y1, y2, y3, y4], _ => exact ⟨y0, y1, y2, y3, y4, rfl⟩
            have g0 : DataW.trod enc Tryz.prog W base sp held n' 3 [p0] = some y0 := by simpa [cInt] using hg 0 _ rfl
            have g1 : DataW.trod enc Tryz.prog W base sp held n' 9 [p1] = some y1 := by simpa [cStr] using hg 1 _ rfl
            have g2 : DataW.trod enc Tryz.prog W base sp held n' 53 [p2] = some y2 := by simpa [cSl1] using hg 2 _ rfl
            have g3 : DataW.trod enc Tryz.prog W base sp held n' 54 [p3] = some y3 := by simpa [cSl2] using hg 3 _ rfl
            have g4 : DataW.trod enc Tryz.prog W base sp held n' 22 [p4] = some y4 := by simpa [cSl3] using hg 4 _ rfl
            obtain ⟨k, e0, r0, _⟩ := DataW.trod_int Tryz.underlying3 g0
            obtain ⟨nm, e1, r1, _⟩ := DataW.trod_string Tryz.underlying9 g1
            obtain ⟨r, rs, rc, e2, i2, l2, m2, s2, z2⟩ := open_twosZ 53 58 Tryz.underlying53 cRef fs_ref open_ref g2
            obtain ⟨a, al, ac, e3, i3, l3, m3, s3, z3⟩ := open_twosZ 54 109 Tryz.underlying54 cTwo fs_attr open_attr g3
            simp only [List.map_cons, List.map_nil, Rows.uptoBulk, Rows.uptoBulkAll] at hb
            obtain ⟨b, body, bc, e4, i4, m4, s4, z4⟩ := open_stmsZ M (by omega) g4
            simp only [List.cons.injEq, and_true] at e0 e1 e2 e3 e4
            subst e0; subst e1; subst e2; subst e3; subst e4; subst r0; subst r1
            refine ⟨k, nm, r, rs, rc, a, al, ac, b, body, bc, rfl, i2, i3, i4, l2, l3, m2, m3, m4, ?_, fun hw => ?_⟩
            · simp only [List.map_cons, List.map_nil, Rows.uptoBulk, Rows.uptoBulkAll, sizeS]
              rw [← size_len]
              omega
            · obtain ⟨fs, hus, hft⟩ := fs_stm
              rw [DataW.weights] at hw
              simp only [hus, hft, List.map_cons, List.map_nil, DataW.weightsEach, DataW.weights, List.append_nil, List.nil_append, List.mem_append, List.mem_singleton] at hw
              rw [AllS]
              refine ⟨⟨?_, ?_, ?_⟩, z4 fun m hm => hw m (.inr (.inr (.inr hm)))⟩
              · have s1 := hw _ (.inl rfl)
                rw [← size_len] at s1; exact s1
              · exact z3 fun m hm => hw m (.inr (.inr (.inl hm)))
              · exact z2 fun m hm => hw m (.inr (.inl hm))
        obtain ⟨cs', h1, h2⟩ := hx i (by omega)
        obtain ⟨k, nm, r, rs, rc, a', al, ac, b, body, bc, rfl, i2, i3, i4, l2, l3, m2, m3, m4, hsz, hzz⟩ := hstm (hbk i hi) h2
        obtain ⟨_, _, hc⟩ := World.cells?_some h1
        have c0 := hc 0 (by omega); have c1 := hc 1 (by omega); have c2 := hc 2 (by omega); have c3 := hc 3 (by omega); have c4 := hc 4 (by omega)
        obtain ⟨g, o, spot⟩ := a
        have hspot : spot = none := by
          obtain ⟨cs0, q1, q2⟩ := hx 0 (by omega)
          obtain ⟨k0, nm0, r0, rs0, rc0, a0, al0, ac0, b0, body0, bc0, rfl, _⟩ := hstm (hbk 0 (by omega)) q2
          obtain ⟨_, _, hc0⟩ := World.cells?_some q1
          have h := World.cell?_spot (show W.cell? _ = some (.int .i64 k0) from hc0 0 (by omega))
          simpa [Addr.add] using h
        subst hspot
        rw [add_offk] at c0 c1 c2 c3 c4
        refine ⟨.mk k nm rs al body, ⟨hsz, hzz⟩, g, o, rfl, lt_of_cell c1, ?_⟩
        rw [StmAt]
        exact ⟨r, rc, a', ac, b, bc, c0, c1, c2, c3, c4, i2, i3, i4, l2, l3, m2, m3, m4⟩
      obtain ⟨F, hF⟩ := choose_lt (α := Stm) hone
      refine ⟨some a, (List.range len).map F, cap, by simp, ?_, by simp; omega, ?_, ?_⟩
      · rcases Nat.eq_zero_or_pos len with h0 | h0
        · subst h0; rw [List.range_zero, List.map_nil, StmsAt]; trivial
        · obtain ⟨_, g, o, rfl, hg, _⟩ := hF 0 h0
          refine StmsAt.of g o _ hg fun k hk => ?_
          have hk' : k < len := by simpa using hk
          obtain ⟨_, g', o', e, _, r⟩ := hF k hk'
          injection e with e1 e2 _
          subst e1; subst e2
          simpa using r
      · rw [hxx]
        simp only [Rows.uptoBulk]
        have := sizeL_map F D (List.range len) (fun i hi => (hF i (List.mem_range.1 hi)).1.1)
        omega
      · intro hz
        refine allL_of fun s hs => ?_
        obtain ⟨i, hi, rfl⟩ := List.mem_map.1 hs
        refine (hF i (List.mem_range.1 hi)).1.2 fun m hm => hz m ?_
        rw [hxx, DataW.weights]
        have hu : Tryz.prog.underlying 22 = some (.slice 56) := Tryz.underlying22
        simp only [hu, List.mem_cons, List.mem_append]
        exact .inr (.inl (weightsAll_of (List.mem_map.2 ⟨i, hi, rfl⟩) m hm))
end
/-- What the walks take of an argument that is a tree. -/
def TreeArg (w : World) (v : Value) : Prop := ∃ nm dir b L cap, v = .agg #[.string nm, .bool dir, .slice b (List.length L) cap] ∧ StmsAt w.heap.size w b L ∧ L.length ≤ maxLen ∧ BigL L ∧ nm.size ≤ reachN
theorem cTree : Tryz.prog.cellsOf 24 = 3 := by kernel_rfl
set_option maxRecDepth 100000 in
theorem tree_arg {H : Type} {enc : TypeId × Value → H} {W : World} {r : Reach} {b base : Nat} {sp : Nat → Bool} {held : Bool} {v : Value} {d : DataW H} {p : List MemPlace}
    (hv : Value.okWide Tryz.prog W r b 24 v) (h : DataW.Trod enc Tryz.prog W base sp held 24 v d p) (hz : ∀ m ∈ d.weights Tryz.prog 24, m ≤ reachBytes) : TreeArg W v := by
  obtain ⟨v0, v1, v2, y0, y1, y2, n, rfl, rfl, rfl, h0, h1, h2⟩ := Go.Joins.open_agg3 Tryz.underlying24 (by kernel_rfl) cTree hv h
  have h0 : DataW.trod enc Tryz.prog W base sp held n 9 [v0] = some y0 := h0
  have h1 : DataW.trod enc Tryz.prog W base sp held n 4 [v1] = some y1 := h1
  have h2 : DataW.trod enc Tryz.prog W base sp held n 22 [v2] = some y2 := h2
  obtain ⟨nm, e0, r0, _⟩ := DataW.trod_string Tryz.underlying9 h0
  obtain ⟨dir, e1, r1⟩ := DataW.trod_bool Tryz.underlying4 h1
  obtain ⟨a, L, c, e2, i2, m2, _, z2⟩ := open_stmsZ _ (Nat.le_refl _) h2
  simp only [List.cons.injEq, and_true] at e0 e1 e2
  subst e0; subst e1; subst e2
  subst r0; subst r1
  obtain ⟨fs, hus, hft⟩ := fs_tree
  rw [DataW.weights] at hz
  simp only [hus, hft, DataW.weightsEach, DataW.weights, List.append_nil, List.nil_append, List.mem_append, List.mem_singleton] at hz
  refine ⟨nm, dir, a, L, c, rfl, i2, m2, big_of (z2 fun m hm => hz m (.inr hm)), ?_⟩
  have s1 := hz _ (.inl rfl)
  rw [← size_len] at s1; exact s1
/-- What the walks take of an argument that is a list of attributes. -/
def TwosArg (w : World) (v : Value) : Prop := ∃ a L cap, v = .slice a (List.length L) cap ∧ TwoAt w.heap.size w a L ∧ L.length ≤ cap ∧ cap ≤ maxLen ∧ SmallT L
set_option maxRecDepth 100000 in
theorem twos_arg {H : Type} {enc : TypeId × Value → H} {W : World} {r : Reach} {b base : Nat} {sp : Nat → Bool} {held : Bool} {v : Value} {d : DataW H} {p : List MemPlace}
    (hv : Value.okWide Tryz.prog W r b 54 v) (h : DataW.Trod enc Tryz.prog W base sp held 54 v d p) (hz : ∀ m ∈ d.weights Tryz.prog 54, m ≤ reachBytes) : TwosArg W v := by
  obtain ⟨a0, len, cap, rfl⟩ := okWide_slice Tryz.underlying54 hv
  obtain ⟨fuel, hf⟩ := h
  obtain ⟨a, L, c, hc, h1, h2, h3, _, hs⟩ := open_twosZ 54 109 Tryz.underlying54 cTwo fs_attr open_attr hf
  have e : Value.slice a0 len cap = .slice a L.length c := by simpa [Value.cells] using hc
  exact ⟨a, L, c, e, h1, h2, h3, hs hz⟩
end Go.Proofs.YtnancphlkbfglaaGreatDoor.Pa
