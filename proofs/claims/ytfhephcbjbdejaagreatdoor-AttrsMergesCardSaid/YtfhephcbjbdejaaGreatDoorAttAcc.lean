/- What a rule accepts. -/
import Derived.Test.YtfhephcbjbdejaaGreatDoorAttTextW
import Derived.Test.YtfhephcbjbdejaaGreatDoorAttPortsW
import Derived.Test.YtfhephcbjbdejaaGreatDoorFixRound
namespace Go.Proofs.YtfhephcbjbdejaaGreatDoor.At
open Go.RowKit Go.Sort Go.Lib Go.Shelf Fx Lx

def accN (r : Rul) (T : Int × Int) : Bool := decide (T.2 = 0) && decide (r.2.1 ≤ T.1) && decide (T.1 ≤ r.2.2.1) && (decide (r.1 = 3) || decide (T.1.tmod 1000 = 0))
def accB (r : Rul) (s : ByteArray) : Bool :=
  if r.1 = 1 then textB s else if r.1 = 2 then textB s && decide ((portsV s).2 = 0) else if r.1 = 5 then Lib.containsS modesL s else accN r (parse s.data.toList)
theorem words_any (x : ByteArray) (ws : Value) (w : World) (h : WordsAt w ws) :
    Calls Tryz.prog 58 #[ws, .string x] w fun e w' => e = .returned (.bool (Lib.containsS modesL x)) ∧ w' = w := by
  obtain ⟨g, rfl, hc⟩ := h
  exact Tryz.slices_Contains_string g 0 5 5 modesL x w (by decide) (by decide) hc
theorem WordsAt.ext {w w' : World} {ws : Value} (h : WordsAt w ws) (x : Ext w w') : WordsAt w' ws := by
  obtain ⟨g, rfl, hc⟩ := h
  exact ⟨g, rfl, fun j hj => x.cell (hc j hj)⟩

theorem rule_cells (w : World) (a lo hi d : Int) (ws : Value) : ∀ w1, Ext (w.alloc (.cells #[.int .i64 a, .int .i64 lo, .int .i64 hi, .int .i64 d, ws] 61)) w1 →
    w1.cell? ⟨w.heap.size, 0, none⟩ = some (.int .i64 a) ∧ w1.cell? ⟨w.heap.size, 1, none⟩ = some (.int .i64 lo) ∧ w1.cell? ⟨w.heap.size, 2, none⟩ = some (.int .i64 hi) := fun w1 x => by
  have hb := heap_alloc_new w (.cells #[.int .i64 a, .int .i64 lo, .int .i64 hi, .int .i64 d, ws] 61)
  refine ⟨x.cell ?_, x.cell ?_, x.cell ?_⟩ <;> rw [Lib.cell_of_heap hb] <;> rfl
set_option maxHeartbeats 4000000 in
theorem acc_num (a lo hi d : Int) (ws : Value) (s : ByteArray) (w : World) (hs : s.size < 4294967281) (he : Env w) (h1 : a ≠ 1) (h2 : a ≠ 2) (h5 : a ≠ 5) :
    Calls Tryz.prog 34 #[.agg #[.int .i64 a, .int .i64 lo, .int .i64 hi, .int .i64 d, ws], .string s] w fun e w' => e = .returned (.bool (accN (a, lo, hi, d) (parse s.data.toList))) ∧ Ext w w' := by
  obtain ⟨f1, _⟩ := ne_facts h1
  obtain ⟨f2, _⟩ := ne_facts h2
  obtain ⟨f5, _⟩ := ne_facts h5
  obtain ⟨v, c, hp⟩ : ∃ v c, parse s.data.toList = (v, c) := ⟨_, _, rfl⟩
  have hpa := parse_any s (w.alloc (.cells #[.int .i64 a, .int .i64 lo, .int .i64 hi, .int .i64 d, ws] 61)) hs (he.ext ((Ext.refl _).alloc _))
  have hb : c = 0 → v ≤ 268435456 ∧ -268435456 ≤ v := fun h => by rw [h] at hp; exact (exact_ok _ _ hp).2
  have hx0 : Ext w (w.alloc (.cells #[.int .i64 a, .int .i64 lo, .int .i64 hi, .int .i64 d, ws] 61)) := (Ext.refl _).alloc _
  have hcl := rule_cells w a lo hi d ws
  rw [hp] at hpa ⊢
  have HPA := Lib.hid hpa
  have HCL := Lib.hid hcl
  clear hp hpa he hs h1 h2 h5 hcl
  unfold accN
  dsimp only
  by_cases k0 : c = 0
  · obtain ⟨fc, _⟩ := eq_facts k0
    obtain ⟨b1, b2⟩ := hb k0
    rw [decide_eq_true k0]
    clear hb
    by_cases k1 : lo ≤ v
    · rw [decide_eq_true k1]
      have g1 : decide (lo ≤ v) = true := decide_eq_true k1
      by_cases k2 : v ≤ hi
      · rw [decide_eq_true k2]
        have g2 : decide (v ≤ hi) = true := decide_eq_true k2
        by_cases k3 : a = 3
        · obtain ⟨f3, _⟩ := eq_facts k3
          rw [decide_eq_true k3]
          clear k0 k1 k2 k3
          go_enter Tryz.func34, Tryz.ntmps34
          go_wp2_with (go_at_call 35; refine HPA.out.mono ?_; rintro e w1 ⟨rfl, x1⟩; obtain ⟨q0, q1, q2⟩ := HCL.out _ x1)
          go_returns
          exact ⟨rfl, hx0.trans x1⟩
        · obtain ⟨f3, _⟩ := ne_facts k3
          rw [decide_eq_false k3]
          by_cases k4 : v.tmod 1000 = 0
          · obtain ⟨f4, _⟩ := eq_facts k4
            rw [decide_eq_true k4]
            clear k0 k1 k2 k3 k4
            go_enter Tryz.func34, Tryz.ntmps34
            go_wp2_with (go_at_call 35; refine HPA.out.mono ?_; rintro e w1 ⟨rfl, x1⟩; obtain ⟨q0, q1, q2⟩ := HCL.out _ x1)
            go_returns
            exact ⟨rfl, hx0.trans x1⟩
          · obtain ⟨f4, _⟩ := ne_facts k4
            rw [decide_eq_false k4]
            clear k0 k1 k2 k3 k4
            go_enter Tryz.func34, Tryz.ntmps34
            go_wp2_with (go_at_call 35; refine HPA.out.mono ?_; rintro e w1 ⟨rfl, x1⟩; obtain ⟨q0, q1, q2⟩ := HCL.out _ x1)
            go_returns
            exact ⟨rfl, hx0.trans x1⟩
      · rw [decide_eq_false k2]
        have g2 : decide (v ≤ hi) = false := decide_eq_false k2
        clear k0 k1 k2
        go_enter Tryz.func34, Tryz.ntmps34
        go_wp2_with (go_at_call 35; refine HPA.out.mono ?_; rintro e w1 ⟨rfl, x1⟩; obtain ⟨q0, q1, q2⟩ := HCL.out _ x1)
        go_returns
        exact ⟨rfl, hx0.trans x1⟩
    · rw [decide_eq_false k1]
      have g1 : decide (lo ≤ v) = false := decide_eq_false k1
      clear k0 k1
      go_enter Tryz.func34, Tryz.ntmps34
      go_wp2_with (go_at_call 35; refine HPA.out.mono ?_; rintro e w1 ⟨rfl, x1⟩; obtain ⟨q0, q1, q2⟩ := HCL.out _ x1)
      go_returns
      exact ⟨rfl, hx0.trans x1⟩
  · obtain ⟨fc, _⟩ := ne_facts k0
    rw [decide_eq_false k0]
    clear k0 hb
    go_enter Tryz.func34, Tryz.ntmps34
    go_wp2_with (go_at_call 35; refine HPA.out.mono ?_; rintro e w1 ⟨rfl, x1⟩; obtain ⟨q0, q1, q2⟩ := HCL.out _ x1)
    go_returns
    exact ⟨rfl, hx0.trans x1⟩
set_option maxHeartbeats 4000000 in
theorem acc_text (lo hi d : Int) (ws : Value) (s : ByteArray) (w : World) (hs : s.size ≤ 9223372036854775807) :
    Calls Tryz.prog 34 #[.agg #[.int .i64 1, .int .i64 lo, .int .i64 hi, .int .i64 d, ws], .string s] w fun e w' => e = .returned (.bool (textB s)) ∧ Ext w w' := by
  have HT := Lib.hid (fun w => text_any s w hs)
  clear hs
  go_enter Tryz.func34, Tryz.ntmps34
  go_wp2_with (go_at_call 57; refine (HT.out _).mono ?_; rintro e w1 ⟨rfl, rfl⟩)
  go_returns
  exact ⟨rfl, (Ext.refl _).alloc _⟩
set_option maxHeartbeats 4000000 in
theorem acc_word (lo hi d : Int) (ws : Value) (s : ByteArray) (w : World) (hw : WordsAt w ws) :
    Calls Tryz.prog 34 #[.agg #[.int .i64 5, .int .i64 lo, .int .i64 hi, .int .i64 d, ws], .string s] w fun e w' => e = .returned (.bool (Lib.containsS modesL s)) ∧ Ext w w' := by
  have HT := Lib.hid (fun w' (x : Ext w w') => words_any s ws w' (hw.ext x))
  obtain ⟨g, rfl, _⟩ := hw
  have hx : Ext w (w.alloc (.cells #[.int .i64 5, .int .i64 lo, .int .i64 hi, .int .i64 d, .slice (some ⟨g, 0, none⟩) 5 5] 61)) := (Ext.refl _).alloc _
  go_enter Tryz.func34, Tryz.ntmps34
  go_wp2_with (go_at_call 58; refine (HT.out _ hx).mono ?_; rintro e w1 ⟨rfl, rfl⟩)
  go_returns
  exact ⟨rfl, hx⟩
set_option maxHeartbeats 4000000 in
theorem acc_ports (lo hi d : Int) (ws : Value) (s : ByteArray) (w : World) (hs : s.size < 4294967281) (he : Env w) :
    Calls Tryz.prog 34 #[.agg #[.int .i64 2, .int .i64 lo, .int .i64 hi, .int .i64 d, ws], .string s] w fun e w' => e = .returned (.bool (textB s && decide ((portsV s).2 = 0))) ∧ Ext w w' := by
  have hx0 : Ext w (w.alloc (.cells #[.int .i64 2, .int .i64 lo, .int .i64 hi, .int .i64 d, ws] 61)) := (Ext.refl _).alloc _
  have hpo := ports_any s _ hs (he.ext hx0)
  have ht := fun w => text_any s w (by omega)
  generalize textB s = t at ht ⊢
  obtain ⟨PL, c, hp⟩ : ∃ PL c, portsV s = (PL, c) := ⟨_, _, rfl⟩
  rw [hp] at hpo ⊢
  dsimp only
  have HPO := Lib.hid hpo
  clear hp hpo hs he
  cases t
  · have HT := Lib.hid ht
    clear ht
    rw [Bool.false_and]
    go_enter Tryz.func34, Tryz.ntmps34
    go_wp2_with (first | (go_at_call 18; refine HPO.out.mono ?_; rintro e w1 ⟨⟨v, rfl, _⟩, x1⟩) | (go_at_call 57; refine (HT.out _).mono ?_; rintro e w2 ⟨rfl, rfl⟩))
    go_returns
    exact ⟨rfl, hx0.trans x1⟩
  · have HT := Lib.hid ht
    clear ht
    rw [Bool.true_and]
    by_cases k0 : c = 0
    · obtain ⟨fc, _⟩ := eq_facts k0
      rw [decide_eq_true k0]
      clear k0
      go_enter Tryz.func34, Tryz.ntmps34
      go_wp2_with (first | (go_at_call 18; refine HPO.out.mono ?_; rintro e w1 ⟨⟨v, rfl, _⟩, x1⟩) | (go_at_call 57; refine (HT.out _).mono ?_; rintro e w2 ⟨rfl, rfl⟩))
      go_returns
      exact ⟨rfl, hx0.trans x1⟩
    · obtain ⟨fc, _⟩ := ne_facts k0
      rw [decide_eq_false k0]
      clear k0
      go_enter Tryz.func34, Tryz.ntmps34
      go_wp2_with (first | (go_at_call 18; refine HPO.out.mono ?_; rintro e w1 ⟨⟨v, rfl, _⟩, x1⟩) | (go_at_call 57; refine (HT.out _).mono ?_; rintro e w2 ⟨rfl, rfl⟩))
      go_returns
      exact ⟨rfl, hx0.trans x1⟩
theorem accepts_any (r : Rul) (ws : Value) (s : ByteArray) (w : World) (hs : s.size < 4294967281) (he : Env w) (hw : r.1 = 5 → WordsAt w ws) :
    Calls Tryz.prog 34 #[ruleVal r ws, .string s] w fun e w' => e = .returned (.bool (accB r s)) ∧ Ext w w' := by
  obtain ⟨a, lo, hi, d⟩ := r
  unfold ruleVal mkRule accB
  dsimp only at hw ⊢
  by_cases h1 : a = 1
  · subst h1; exact acc_text lo hi d _ s w (by omega)
  rw [if_neg h1]
  by_cases h2 : a = 2
  · subst h2; exact acc_ports lo hi d _ s w hs he
  rw [if_neg h2]
  by_cases h5 : a = 5
  · subst h5; exact acc_word lo hi d _ s w (hw rfl)
  rw [if_neg h5, if_neg h5]
  exact acc_num a lo hi d _ s w hs he h1 h2 h5
end Go.Proofs.YtfhephcbjbdejaaGreatDoor.At
