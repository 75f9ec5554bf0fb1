/- Packed texts: AttChk -/
import Derived.Test.YtnancphlkbfglaaGreatDoorPb07
import Derived.Lib.QuietBelow
import Derived.Deep.RegionLaw
import Derived.Deep.CutRange
set_option linter.unusedVariables false
set_option linter.unusedSimpArgs false
namespace Go.Proofs.YtnancphlkbfglaaGreatDoor.At
open Go.RowKit Go.Sort Go.Lib Go.Shelf Fx Lx
def checkV (kind : Int) (k v : ByteArray) : Int :=
  if knownB kind = false then 1 else if (ruleT kind k.data.toList).1 = 0 then 5 else if (ruleT kind k.data.toList).1 = 1 ∧ 32 < v.size then 2 else if accB (ruleT kind k.data.toList) v then 0 else 7
theorem acc_agg (a lo hi d : Int) (ws : Value) (s : ByteArray) (w : World) (hs : s.size < 4294967281) (he : Env w) (hw : a = 5 → WordsAt w ws) :
    Calls Tryz.prog 61 #[.agg #[.int .i64 a, .int .i64 lo, .int .i64 hi, .int .i64 d, ws], .string s] w fun e w' => e = .returned (.bool (accB (a, lo, hi, d) s)) ∧ Ext w w' := by
  unfold accB
  dsimp only
  by_cases h1 : a = 1
  · subst h1; exact acc_text lo hi d _ s w (by omega)
  rw [if_neg h1]
  by_cases h2 : a = 2
  · subst h2; exact acc_ports lo hi d _ s w hs he
  rw [if_neg h2]
  by_cases h5 : a = 5
  · subst h5; exact acc_word lo hi d _ s w (hw rfl)
  rw [if_neg h5]
  exact acc_num a lo hi d _ s w hs he h1 h2 h5
theorem set1 {w : World} {B : Nat} {cs : Array Value} {T : TypeId} (h : w.heap[B]? = some (.cells cs T (0, 0))) (i : Nat) (v : Value) :
    (w.setCell ⟨B, i, none⟩ v).heap[B]? = some (.cells (cs.setIfInBounds i v) T (0, 0)) := by
  unfold World.setCell
  simp [Array.getElem?_modify, h]
theorem cells5 {w : World} {B : Nat} {a b c d e : Value} {T : TypeId} (h : w.heap[B]? = some (.cells #[a, b, c, d, e] T (0, 0))) :
    (w.cell? ⟨B, 0, none⟩ = some a ∧ w.cell? ⟨B, 1, none⟩ = some b ∧ w.cell? ⟨B, 2, none⟩ = some c ∧ w.cell? ⟨B, 3, none⟩ = some d ∧ w.cell? ⟨B, 4, none⟩ = some e) ∧ (w.frozen? ⟨B, 0, none⟩ = false ∧ w.frozen? ⟨B, 1, none⟩ = false ∧ w.frozen? ⟨B, 2, none⟩ = false ∧ w.frozen? ⟨B, 3, none⟩ = false ∧ w.frozen? ⟨B, 4, none⟩ = false) :=
  ⟨⟨by rw [Lib.cell_of_heap h]; rfl, by rw [Lib.cell_of_heap h]; rfl, by rw [Lib.cell_of_heap h]; rfl, by rw [Lib.cell_of_heap h]; rfl, by rw [Lib.cell_of_heap h]; rfl⟩, Lib.frozen_of_heap h 0, Lib.frozen_of_heap h 1, Lib.frozen_of_heap h 2, Lib.frozen_of_heap h 3, Lib.frozen_of_heap h 4⟩
theorem set5r {w : World} {B : Nat} {a b c d e : Value} {T : TypeId} (h : w.heap[B]? = some (.cells #[a, b, c, d, e] T (0, 0))) (a' b' c' d' e' : Value) :
    (w.setCell ⟨B, 0, none⟩ a').cell? ⟨B, 0, none⟩ = some a' ∧ ((w.setCell ⟨B, 0, none⟩ a').setCell ⟨B, 1, none⟩ b').cell? ⟨B, 1, none⟩ = some b' ∧ (((w.setCell ⟨B, 0, none⟩ a').setCell ⟨B, 1, none⟩ b').setCell ⟨B, 2, none⟩ c').cell? ⟨B, 2, none⟩ = some c' ∧ ((((w.setCell ⟨B, 0, none⟩ a').setCell ⟨B, 1, none⟩ b').setCell ⟨B, 2, none⟩ c').setCell ⟨B, 3, none⟩ d').cell? ⟨B, 3, none⟩ = some d' ∧ (((((w.setCell ⟨B, 0, none⟩ a').setCell ⟨B, 1, none⟩ b').setCell ⟨B, 2, none⟩ c').setCell ⟨B, 3, none⟩ d').setCell ⟨B, 4, none⟩ e').cell? ⟨B, 4, none⟩ = some e' :=
  ⟨by rw [Lib.cell_of_heap (set1 h 0 a')]; rfl, by rw [Lib.cell_of_heap (set1 (set1 h 0 a') 1 b')]; rfl, by rw [Lib.cell_of_heap (set1 (set1 (set1 h 0 a') 1 b') 2 c')]; rfl, by rw [Lib.cell_of_heap (set1 (set1 (set1 (set1 h 0 a') 1 b') 2 c') 3 d')]; rfl, by rw [Lib.cell_of_heap (set1 (set1 (set1 (set1 (set1 h 0 a') 1 b') 2 c') 3 d') 4 e')]; rfl⟩
theorem set5 {w : World} {B : Nat} {a b c d e : Value} {T : TypeId} (h : w.heap[B]? = some (.cells #[a, b, c, d, e] T (0, 0))) (a' b' c' d' e' : Value) :
    (((((w.setCell ⟨B, 0, none⟩ a').setCell ⟨B, 1, none⟩ b').setCell ⟨B, 2, none⟩ c').setCell ⟨B, 3, none⟩ d').setCell ⟨B, 4, none⟩ e').heap[B]? = some (.cells #[a', b', c', d', e'] T (0, 0)) := (set1 (set1 (set1 (set1 (set1 h 0 a') 1 b') 2 c') 3 d') 4 e')
theorem kept2 {w w1 : World} {o z : Obj} (x : Ext ((w.alloc o).drew.alloc z) w1) : w1.heap[w.heap.size + 1]? = some z := by
  have h := x.block (w.heap.size + 1) (by simp)
  rw [h]
  have := heap_alloc_new (w.alloc o).drew z
  simpa using this
theorem ext_set5 {u w : World} {B : Nat} (h : Ext u w) (hb : u.heap.size ≤ B) (a' b' c' d' e' : Value) : Ext u (((((w.setCell ⟨B, 0, none⟩ a').setCell ⟨B, 1, none⟩ b').setCell ⟨B, 2, none⟩ c').setCell ⟨B, 3, none⟩ d').setCell ⟨B, 4, none⟩ e') :=
  ((((h.setCell (p := ⟨B, 0, none⟩) hb a').setCell (p := ⟨B, 1, none⟩) hb b').setCell (p := ⟨B, 2, none⟩) hb c').setCell (p := ⟨B, 3, none⟩) hb d').setCell (p := ⟨B, 4, none⟩) hb e'
theorem far5 {w : World} {g j : Nat} {x : Value} (a' b' c' d' e' : Value) (h : w.cell? ⟨g, j, none⟩ = some x) : (((((w.setCell ⟨g + 1, 0, none⟩ a').setCell ⟨g + 1, 1, none⟩ b').setCell ⟨g + 1, 2, none⟩ c').setCell ⟨g + 1, 3, none⟩ d').setCell ⟨g + 1, 4, none⟩ e').cell? ⟨g, j, none⟩ = some x := by
  have e : ∀ i, (⟨g + 1, i, none⟩ : Addr) ≠ ⟨g, j, none⟩ := fun i h => by injection h with h; omega
  rw [World.cell?_setCell_other (h := e 4), World.cell?_setCell_other (h := e 3), World.cell?_setCell_other (h := e 2), World.cell?_setCell_other (h := e 1), World.cell?_setCell_other (h := e 0)]
  exact h
theorem words5 {n : Nat} {w : World} {ws : Value} (h : WordsN n w ws) {B : Nat} (hB : B < n) (a' b' c' d' e' : Value) : WordsN n (((((w.setCell ⟨B, 0, none⟩ a').setCell ⟨B, 1, none⟩ b').setCell ⟨B, 2, none⟩ c').setCell ⟨B, 3, none⟩ d').setCell ⟨B, 4, none⟩ e') ws :=
  ((((h.set hB 0 a').set hB 1 b').set hB 2 c').set hB 3 d').set hB 4 e'
theorem atr_cells (w : World) (k v : ByteArray) : ∀ w1, Ext (w.alloc (.cells #[.string k, .string v] 109)) w1 →
    w1.cell? ⟨w.heap.size, 0, none⟩ = some (.string k) ∧ w1.cell? ⟨w.heap.size, 1, none⟩ = some (.string v) := fun w1 x => by
  have hb := heap_alloc_new w (.cells #[.string k, .string v] 109)
  refine ⟨x.cell ?_, x.cell ?_⟩ <;> rw [Lib.cell_of_heap hb] <;> rfl
theorem rule5 (kind : Int) (l : List UInt8) (h : (ruleT kind l).1 = 5) : kind = 4 := by
  unfold ruleT at h
  by_cases h1 : kind = 1
  · rw [if_pos h1] at h; unfold nodeR at h; repeat' split at h
    all_goals exact absurd h (by decide)
  rw [if_neg h1] at h
  by_cases h2 : kind = 2
  · rw [if_pos h2] at h; unfold edgeR at h; repeat' split at h
    all_goals exact absurd h (by decide)
  rw [if_neg h2] at h
  by_cases h4 : kind = 4
  · exact h4
  rw [if_neg h4] at h
  exact absurd h (by decide)
theorem rules_at (kind a lo hi d : Int) (k v : ByteArray) (w wc : World) (hk : k.size ≤ maxLen) (hr : ruleT kind k.data.toList = (a, lo, hi, d)) (x : Ext (w.alloc (.cells #[.string k, .string v] 109)) wc) :
    Calls Tryz.prog 60 #[.int .i64 kind] wc fun e w1 => ∃ m wa wn, e = .returned m ∧
      (Instr.lookup 121 m (.string k) true).run Tryz.prog w1 = .ok (.tuple #[.agg #[.int .i64 a, .int .i64 lo, .int .i64 hi, .int .i64 d, .slice wa wn wn], .bool (decide (a ≠ 0))]) w1 ∧
      (∀ o, (Instr.lookup 121 m (.string k) true).run Tryz.prog (w1.alloc o) = .ok (.tuple #[.agg #[.int .i64 a, .int .i64 lo, .int .i64 hi, .int .i64 d, .slice wa wn wn], .bool (decide (a ≠ 0))]) (w1.alloc o)) ∧
      w1.cell? ⟨w.heap.size, 0, none⟩ = some (.string k) ∧ w1.cell? ⟨w.heap.size, 1, none⟩ = some (.string v) ∧ (∀ o, (w1.alloc o).cell? ⟨w.heap.size, 0, none⟩ = some (.string k)) ∧ (∀ o, (w1.alloc o).cell? ⟨w.heap.size, 1, none⟩ = some (.string v)) ∧ (a = 5 → WordsN wc.heap.size w1 (.slice wa wn wn)) ∧ Ext wc w1 := by
  refine (rules_any kind wc).mono ?_
  rintro e w1 ⟨m, ws, rfl, hl, hl2, hws, x1⟩
  obtain ⟨q3, q4⟩ := atr_cells w k v w1 (x.trans x1)
  have q5 : ∀ o, (w1.alloc o).cell? ⟨w.heap.size, 0, none⟩ = some (.string k) := fun o => ((Ext.refl _).alloc o).cell q3
  have q6 : ∀ o, (w1.alloc o).cell? ⟨w.heap.size, 1, none⟩ = some (.string v) := fun o => ((Ext.refl _).alloc o).cell q4
  have p1 := (hl k hk).1
  have p2 := fun o => (hl2 o k hk).1
  rw [hr] at p1
  simp only [hr] at p2
  by_cases h5 : a = 5
  · obtain ⟨g, hg0, rfl, hg⟩ := hws (rule5 kind k.data.toList (by rw [hr]; exact h5))
    have hv : ruleVal (a, lo, hi, d) (.slice (some ⟨g, 0, none⟩) 5 5) = .agg #[.int .i64 a, .int .i64 lo, .int .i64 hi, .int .i64 d, .slice (some ⟨g, 0, none⟩) 5 5] := by
      unfold ruleVal mkRule; dsimp only; rw [if_pos h5]
    rw [hv] at p1
    simp only [hv] at p2
    exact ⟨m, _, _, rfl, p1, p2, q3, q4, q5, q6, fun _ => ⟨g, hg0, rfl, hg⟩, x1⟩
  · have hv : ruleVal (a, lo, hi, d) ws = .agg #[.int .i64 a, .int .i64 lo, .int .i64 hi, .int .i64 d, .slice none 0 0] := by
      unfold ruleVal mkRule; dsimp only; rw [if_neg h5]
    rw [hv] at p1
    simp only [hv] at p2
    exact ⟨m, _, _, rfl, p1, p2, q3, q4, q5, q6, fun h => absurd h h5, x1⟩
set_option maxHeartbeats 1000000 in
set_option maxRecDepth 100000 in
theorem check_any (kind : Int) (k v : ByteArray) (w : World) (hk : k.size ≤ maxLen) (hv : v.size < 4294967281) (he : Env w) :
    Calls Tryz.prog 100 #[.int .i64 kind, .agg #[.string k, .string v]] w fun e w' => e = .returned (.int .i64 (checkV kind k v)) ∧ Ext w w' := by
  have hx0 : Ext w (w.alloc (.cells #[.string k, .string v] 109)) := (Ext.refl _).alloc _
  have hx1 : Ext (w.alloc (.cells #[.string k, .string v] 109)) (w.alloc (.cells #[.string k, .string v] 109)).drew := (Ext.refl _).drew
  obtain ⟨a, lo, hi, d, hr⟩ : ∃ a lo hi d, ruleT kind k.data.toList = (a, lo, hi, d) := ⟨_, _, _, _, rfl⟩
  obtain ⟨V, hV⟩ : ∃ V, V = checkV kind k v := ⟨_, rfl⟩
  rw [← hV]
  unfold checkV at hV
  rw [hr] at hV
  dsimp only at hV
  have HV := Lib.hid hV
  clear hV
  have hru := fun wc x => rules_at kind a lo hi d k v w wc hk hr x
  have HRU := Lib.hid hru; have HE := Lib.hid he
  clear hru hk he
  go_enter Tryz.func100, Tryz.ntmps100
  go_upto_region 1 with fail
  go_cut [5, 6] from 7 to 14 (fun p ok wx => ∃ B wa wn, p = .pointer (some ⟨B, 0, none⟩) ∧ ok = .bool (!decide (a = 0)) ∧ Ext w wx ∧ wx.cell? ⟨w.heap.size, 0, none⟩ = some (.string k) ∧ wx.cell? ⟨w.heap.size, 1, none⟩ = some (.string v) ∧
    wx.heap[B]? = some (.cells #[.int .i64 a, .int .i64 lo, .int .i64 hi, .int .i64 d, .slice wa wn wn] 120 (0, 0)) ∧ (a = 5 → WordsAt wx (.slice wa wn wn)))
  case first =>
    go_region_law (go_simp; go_at_call 60; refine (HRU.out _ (by first | exact hx1 | exact hx1.alloc _)).mono ?_; rintro e w1 ⟨m, wa, wn, rfl, q1, q2, q3, q4, q5, q6, hws, x1⟩; try (have hb := kept2 x1; have z1 := (cells5 hb).1; have z2 := (cells5 hb).2; have z3 := set5r hb (.int .i64 a) (.int .i64 lo) (.int .i64 hi) (.int .i64 d) (.slice wa wn wn)))
    all_goals
      go_wp2_with fail
      go_meet
      first
        | exact ⟨w1.heap.size, wa, wn, rfl, rfl, ((hx0.trans hx1).trans x1).alloc _, q5 _, q6 _, heap_alloc_new w1 _, fun h => (hws h).at.ext ((Ext.refl _).alloc _)⟩
        | exact ⟨w.heap.size + 1, wa, wn, rfl, rfl, ext_set5 ((((hx0.trans hx1).alloc _).trans x1)) (by omega) _ _ _ _ _, far5 _ _ _ _ _ q3, far5 _ _ _ _ _ q4, set5 hb _ _ _ _ _, fun h => (words5 (hws h) (by simp) _ _ _ _ _).at⟩
  case rest =>
    obtain ⟨B, wa, wn, rfl, rfl, hxf, c0, c1, hb, hwd⟩ := hcut
    obtain ⟨⟨z0, z1, z2, z3, z4⟩, _⟩ := cells5 hb
    have hkn := fun w => isknown_any kind w
    have hac := acc_agg a lo hi d (.slice wa wn wn) v wc hv (HE.out.ext hxf) hwd
    have hV := HV.out
    have HB := Lib.hid hb
    clear hwd hb
    cases hkb : knownB kind
    · rw [if_pos hkb] at hV
      have hf := Lib.hid hV
      clear hV
      rw [hkb] at hkn
      have HKN := Lib.hid hkn
      clear hkn hac hkb
      go_wp2_with (go_at_call 133; refine (HKN.out _).mono ?_; rintro e w2 ⟨rfl, rfl⟩)
      go_returns
      exact ⟨ret_int hf.out.symm, hxf⟩
    · rw [if_neg (by rw [hkb]; decide)] at hV
      rw [hkb] at hkn
      have HKN := Lib.hid hkn
      clear hkn hkb
      by_cases a0 : a = 0
      · subst a0
        rw [if_pos rfl] at hV
        have hf := Lib.hid hV
        clear hV hac
        go_wp2_with (go_at_call 133; refine (HKN.out _).mono ?_; rintro e w2 ⟨rfl, rfl⟩)
        go_returns
        exact ⟨ret_int hf.out.symm, hxf⟩
      · rw [if_neg a0] at hV
        have f0 : decide (a = 0) = false := decide_eq_false a0
        by_cases a1 : a = 1 ∧ 32 < v.size
        · rw [if_pos a1] at hV
          have hf := Lib.hid hV
          obtain ⟨rfl, h32⟩ := a1
          clear hV hac
          go_wp2_with (go_at_call 133; refine (HKN.out _).mono ?_; rintro e w2 ⟨rfl, rfl⟩)
          go_returns
          exact ⟨ret_int hf.out.symm, hxf⟩
        · rw [if_neg a1] at hV
          generalize accB (a, lo, hi, d) v = t at hac hV
          by_cases b1 : a = 1
          · have h32 : ¬ 32 < v.size := fun h => a1 ⟨b1, h⟩
            subst b1
            cases t
            all_goals
              have HAC := Lib.hid hac
              have hf := Lib.hid hV
              clear hV hac a1
              go_wp2_with (first | (go_at_call 133; refine (HKN.out _).mono ?_; rintro e w2 ⟨rfl, rfl⟩) | (go_at_call 61; refine HAC.out.mono ?_; rintro e w3 ⟨rfl, x3⟩))
              go_returns
              exact ⟨ret_int hf.out.symm, hxf.trans x3⟩
          · obtain ⟨f1, _⟩ := ne_facts b1
            cases t
            all_goals
              have HAC := Lib.hid hac
              have hf := Lib.hid hV
              clear hV hac a1 b1
              go_wp2_with (first | (go_at_call 133; refine (HKN.out _).mono ?_; rintro e w2 ⟨rfl, rfl⟩) | (go_at_call 61; refine HAC.out.mono ?_; rintro e w3 ⟨rfl, x3⟩))
              go_returns
              exact ⟨ret_int hf.out.symm, hxf.trans x3⟩
end Go.Proofs.YtnancphlkbfglaaGreatDoor.At
