/- Packed texts: TreForm, TreFormB, TreRtp -/
import Derived.Test.YtmallladeidkpaaGreatDoorPv11
set_option linter.unusedVariables false
set_option linter.unusedSimpArgs false
/- What form and named of the tree return. -/
namespace Go.Proofs.YtmallladeidkpaaGreatDoor.Tr
open Go.RowKit Go.Sort Go.Lib Go.Shelf Fx Lx

abbrev stmA (k : Int) (nm : ByteArray) (r a b : Option Addr) (R A B rc ac bc : Nat) : Array Value := #[.int .i64 k, .string nm, .slice r R rc, .slice a A ac, .slice b B bc]
theorem stm_cells (w : World) (k : Int) (nm : ByteArray) (r a b : Option Addr) (R A B rc ac bc : Nat) : ∀ w1, Ext (w.alloc (.cells #[.int .i64 k, .string nm, .slice r R rc, .slice a A ac, .slice b B bc] 44)) w1 →
    w1.cell? ⟨w.heap.size, 0, none⟩ = some (.int .i64 k) ∧ w1.cell? ⟨w.heap.size, 1, none⟩ = some (.string nm) ∧ w1.cell? ⟨w.heap.size, 2, none⟩ = some (.slice r R rc) ∧ w1.cell? ⟨w.heap.size, 3, none⟩ = some (.slice a A ac) ∧ w1.cell? ⟨w.heap.size, 4, none⟩ = some (.slice b B bc) := fun w1 x => by
  have hb := heap_alloc_new w (.cells #[.int .i64 k, .string nm, .slice r R rc, .slice a A ac, .slice b B bc] 44)
  refine ⟨x.cell ?_, x.cell ?_, x.cell ?_, x.cell ?_, x.cell ?_⟩ <;> rw [Lib.cell_of_heap hb] <;> rfl
theorem b0 {n : Nat} : (((n : Int) == 0) = true) = (n = 0) := by simp
set_option maxHeartbeats 4000000 in
theorem form_node (nm : ByteArray) (r a b : Option Addr) (R A B rc ac bc : Nat) (w : World) :
    Calls Tryz.prog 55 #[.agg #[.int .i64 1, .string nm, .slice r R rc, .slice a A ac, .slice b B bc]] w fun e w' => e = .returned (.int .i64 (if (decide (R = 0) && decide (B = 0)) = true then 0 else 1)) ∧ Ext w w' := by
  by_cases hR : R = 0
  · by_cases hB : B = 0
    · subst hR; subst hB
      go_enter Tryz.func55, Tryz.ntmps55
      go_wp2
      go_ret
      exact ⟨rfl, (Ext.refl _).alloc _⟩
    · subst hR
      have f1 : ((B : Int) == 0) = false := by simpa using hB
      rw [decide_eq_false hB]
      clear hB
      go_enter Tryz.func55, Tryz.ntmps55
      go_wp2
      go_ret
      exact ⟨rfl, (Ext.refl _).alloc _⟩
  · have f1 : ((R : Int) == 0) = false := by simpa using hR
    rw [decide_eq_false hR]
    clear hR
    go_enter Tryz.func55, Tryz.ntmps55
    go_wp2
    go_ret
    exact ⟨rfl, (Ext.refl _).alloc _⟩
set_option maxHeartbeats 4000000 in
theorem form_cluster (nm : ByteArray) (r a b : Option Addr) (R A B rc ac bc : Nat) (w : World) :
    Calls Tryz.prog 55 #[.agg #[.int .i64 5, .string nm, .slice r R rc, .slice a A ac, .slice b B bc]] w fun e w' => e = .returned (.int .i64 (if (decide (R = 0) && decide (A = 0)) = true then 0 else 1)) ∧ Ext w w' := by
  by_cases hR : R = 0
  · by_cases hB : A = 0
    · subst hR; subst hB
      go_enter Tryz.func55, Tryz.ntmps55
      go_wp2
      go_ret
      exact ⟨rfl, (Ext.refl _).alloc _⟩
    · subst hR
      have f1 : ((A : Int) == 0) = false := by simpa using hB
      rw [decide_eq_false hB]
      clear hB
      go_enter Tryz.func55, Tryz.ntmps55
      go_wp2
      go_ret
      exact ⟨rfl, (Ext.refl _).alloc _⟩
  · have f1 : ((R : Int) == 0) = false := by simpa using hR
    rw [decide_eq_false hR]
    clear hR
    go_enter Tryz.func55, Tryz.ntmps55
    go_wp2
    go_ret
    exact ⟨rfl, (Ext.refl _).alloc _⟩
theorem size0 {n : ByteArray} : (n.toList == []) = decide (n.size = 0) := by
  rw [ByteArray.toList_eq, size_len, Bool.eq_iff_iff, beq_iff_eq, decide_eq_true_eq, List.length_eq_zero_iff]
set_option maxHeartbeats 4000000 in
theorem form_edge (nm : ByteArray) (r a b : Option Addr) (R A B rc ac bc : Nat) (w : World) :
    Calls Tryz.prog 55 #[.agg #[.int .i64 2, .string nm, .slice r R rc, .slice a A ac, .slice b B bc]] w fun e w' => e = .returned (.int .i64 (if (decide (nm.size = 0) && decide (B = 0) && decide (2 ≤ R)) = true then 0 else 1)) ∧ Ext w w' := by
  have hN := @size0 nm
  cases hn : decide (nm.size = 0)
  · rw [hn] at hN
    clear hn
    go_enter Tryz.func55, Tryz.ntmps55
    go_wp2
    go_ret
    exact ⟨rfl, (Ext.refl _).alloc _⟩
  · rw [hn] at hN
    clear hn
    by_cases hB : B = 0
    · subst hB
      by_cases hR : 2 ≤ R
      · have f1 : decide ((2 : Int) ≤ R) = true := decide_eq_true (by omega)
        rw [decide_eq_true hR]
        go_enter Tryz.func55, Tryz.ntmps55
        go_wp2
        go_ret
        exact ⟨rfl, (Ext.refl _).alloc _⟩
      · have f1 : decide ((2 : Int) ≤ R) = false := decide_eq_false (by omega)
        rw [decide_eq_false hR]
        go_enter Tryz.func55, Tryz.ntmps55
        go_wp2
        go_ret
        exact ⟨rfl, (Ext.refl _).alloc _⟩
    · have f1 : ((B : Int) == 0) = false := by simpa using hB
      rw [decide_eq_false hB]
      clear hB
      go_enter Tryz.func55, Tryz.ntmps55
      go_wp2
      go_ret
      exact ⟨rfl, (Ext.refl _).alloc _⟩
end Go.Proofs.YtmallladeidkpaaGreatDoor.Tr

/- What form and named of the tree return, the rest. -/
namespace Go.Proofs.YtmallladeidkpaaGreatDoor.Tr
open Go.RowKit Go.Sort Go.Lib Go.Shelf Fx Lx

set_option maxHeartbeats 4000000 in
theorem form_else (k : Int) (nm : ByteArray) (r a b : Option Addr) (R A B rc ac bc : Nat) (w : World) (h1 : k ≠ 1) (h2 : k ≠ 2) (h3 : k ≠ 3) (h4 : k ≠ 4) (h5 : k ≠ 5) :
    Calls Tryz.prog 55 #[.agg #[.int .i64 k, .string nm, .slice r R rc, .slice a A ac, .slice b B bc]] w fun e w' => e = .returned (.int .i64 1) ∧ Ext w w' := by
  obtain ⟨f1, f1'⟩ := ne_facts h1
  obtain ⟨f2, f2'⟩ := ne_facts h2
  obtain ⟨f3, f3'⟩ := ne_facts h3
  obtain ⟨f4, f4'⟩ := ne_facts h4
  obtain ⟨f5, f5'⟩ := ne_facts h5
  clear h1 h2 h3 h4 h5
  go_enter Tryz.func55, Tryz.ntmps55
  go_wp2
  go_ret
  exact ⟨rfl, (Ext.refl _).alloc _⟩
theorem named_any (k : Int) (w : World) : Calls Tryz.prog 56 #[.int .i64 k] w fun e w' => e = .returned (.bool (decide (k = 1 ∨ k = 4 ∨ k = 5))) ∧ w = w' := by
  by_cases h1 : k = 1
  · subst h1
    go_enter Tryz.func56, Tryz.ntmps56
    go_wp2
    go_ret
    exact ⟨rfl, rfl⟩
  by_cases h4 : k = 4
  · subst h4
    go_enter Tryz.func56, Tryz.ntmps56
    go_wp2
    go_ret
    exact ⟨rfl, rfl⟩
  by_cases h5 : k = 5
  · subst h5
    go_enter Tryz.func56, Tryz.ntmps56
    go_wp2
    go_ret
    exact ⟨rfl, rfl⟩
  rw [decide_eq_false (by omega)]
  obtain ⟨f1, f1'⟩ := ne_facts h1
  obtain ⟨f4, f4'⟩ := ne_facts h4
  obtain ⟨f5, f5'⟩ := ne_facts h5
  clear h1 h4 h5
  go_enter Tryz.func56, Tryz.ntmps56
  go_wp2
  go_ret
  exact ⟨rfl, rfl⟩
theorem litEq (n : ByteArray) (l : List UInt8) : (n.toList == l) = decide (n.data.toList = l) := by
  rw [ByteArray.toList_eq, Bool.eq_iff_iff, beq_iff_eq, decide_eq_true_eq]
set_option maxHeartbeats 4000000 in
theorem form_default (nm : ByteArray) (r a b : Option Addr) (R A B rc ac bc : Nat) (w : World) :
    Calls Tryz.prog 55 #[.agg #[.int .i64 3, .string nm, .slice r R rc, .slice a A ac, .slice b B bc]] w fun e w' => e = .returned (.int .i64 (if (decide (R = 0) && decide (B = 0) && (decide (nm.data.toList = [110, 111, 100, 101]) || decide (nm.data.toList = [101, 100, 103, 101]))) = true then 0 else 1)) ∧ Ext w w' := by
  by_cases hR : R = 0
  · by_cases hB : B = 0
    · subst hR; subst hB
      have n1 := litEq nm [110, 111, 100, 101]
      have n2 := litEq nm [101, 100, 103, 101]
      cases q1 : decide (nm.data.toList = [110, 111, 100, 101])
      · rw [q1] at n1
        clear q1
        cases q2 : decide (nm.data.toList = [101, 100, 103, 101])
        · rw [q2] at n2
          clear q2
          go_enter Tryz.func55, Tryz.ntmps55
          go_wp2
          go_ret
          exact ⟨rfl, (Ext.refl _).alloc _⟩
        · rw [q2] at n2
          clear q2
          go_enter Tryz.func55, Tryz.ntmps55
          go_wp2
          go_ret
          exact ⟨rfl, (Ext.refl _).alloc _⟩
      · rw [q1] at n1
        clear q1 n2
        go_enter Tryz.func55, Tryz.ntmps55
        go_wp2
        go_ret
        exact ⟨rfl, (Ext.refl _).alloc _⟩
    · subst hR
      have f1 : ((B : Int) == 0) = false := by simpa using hB
      rw [decide_eq_false hB]
      clear hB
      go_enter Tryz.func55, Tryz.ntmps55
      go_wp2
      go_ret
      exact ⟨rfl, (Ext.refl _).alloc _⟩
  · have f1 : ((R : Int) == 0) = false := by simpa using hR
    rw [decide_eq_false hR]
    clear hR
    go_enter Tryz.func55, Tryz.ntmps55
    go_wp2
    go_ret
    exact ⟨rfl, (Ext.refl _).alloc _⟩
set_option maxHeartbeats 4000000 in
theorem form_set (nm : ByteArray) (r a b : Option Addr) (R B rc ac bc : Nat) (al : List Two) (w : World) (h : TwoIn w a al) :
    Calls Tryz.prog 55 #[.agg #[.int .i64 4, .string nm, .slice r R rc, .slice a al.length ac, .slice b B bc]] w fun e w' => e = .returned (.int .i64 (if (decide (R = 0) && decide (B = 0) && setB al) = true then 0 else 1)) ∧ Ext w w' := by
  by_cases hR : R = 0
  · by_cases hB : B = 0
    · subst hR; subst hB
      by_cases h1 : al.length = 1
      · obtain ⟨⟨k, v⟩, rfl⟩ : ∃ q, al = [q] := by
          match al, h1 with
          | [q], _ => exact ⟨q, rfl⟩
        obtain ⟨g, o, rfl, c0, c1⟩ := h 0 (by simp)
        simp only [Nat.zero_mul, Nat.add_zero, List.getElem_cons_zero] at c0 c1
        have d0 : ∀ o', (w.alloc o').cell? ⟨g, o, none⟩ = some (.string k) := fun o' => ((Ext.refl w).alloc o').cell c0
        have d1 : ∀ o', (w.alloc o').cell? ⟨g, o + 1, none⟩ = some (.string v) := fun o' => ((Ext.refl w).alloc o').cell c1
        clear h h1 c1
        have n1 := @size0 k
        rw [show setB [(k, v)] = decide (k.size = 0) from rfl]
        cases q1 : decide (k.size = 0)
        · rw [q1] at n1
          clear q1
          simp only [List.length_cons, List.length_nil, Nat.zero_add]
          go_enter Tryz.func55, Tryz.ntmps55
          go_wp2
          go_ret
          exact ⟨rfl, (Ext.refl _).alloc _⟩
        · rw [q1] at n1
          clear q1
          simp only [List.length_cons, List.length_nil, Nat.zero_add]
          go_enter Tryz.func55, Tryz.ntmps55
          go_wp2
          go_ret
          exact ⟨rfl, (Ext.refl _).alloc _⟩
      · have hm : setB al = false := by
          unfold setB
          match al, h1 with
          | [], _ => rfl
          | [q], h1 => exact absurd rfl h1
          | _ :: _ :: _, _ => rfl
        rw [hm]
        have f1 : ((al.length : Int) == 1) = false := by
          rw [beq_eq_false_iff_ne]; omega
        clear hm h1 h
        generalize al.length = A at *
        go_enter Tryz.func55, Tryz.ntmps55
        go_wp2
        go_ret
        exact ⟨rfl, (Ext.refl _).alloc _⟩
    · subst hR
      have f1 : ((B : Int) == 0) = false := by simpa using hB
      rw [decide_eq_false hB]
      clear hB h
      generalize al.length = A at *
      go_enter Tryz.func55, Tryz.ntmps55
      go_wp2
      go_ret
      exact ⟨rfl, (Ext.refl _).alloc _⟩
  · have f1 : ((R : Int) == 0) = false := by simpa using hR
    rw [decide_eq_false hR]
    clear hR h
    generalize al.length = A at *
    go_enter Tryz.func55, Tryz.ntmps55
    go_wp2
    go_ret
    exact ⟨rfl, (Ext.refl _).alloc _⟩
theorem isE {α : Type} (L : List α) : L.isEmpty = decide (L.length = 0) := by cases L <;> rfl
theorem formB_mk (k : Int) (nm : ByteArray) (rs al : List Two) (body : List Stm) : formB (.mk k nm rs al body) =
    if k = 1 then decide (rs.length = 0) && decide (body.length = 0)
    else if k = 2 then decide (nm.size = 0) && decide (body.length = 0) && decide (2 ≤ rs.length)
    else if k = 3 then decide (rs.length = 0) && decide (body.length = 0) && (decide (nm.data.toList = [110, 111, 100, 101]) || decide (nm.data.toList = [101, 100, 103, 101]))
    else if k = 4 then decide (rs.length = 0) && decide (body.length = 0) && setB al
    else if k = 5 then decide (rs.length = 0) && decide (al.length = 0)
    else false := by
  rw [← isE, ← isE, ← isE]; rfl
/-- The program's form. -/
theorem form_any (k : Int) (nm : ByteArray) (rs al : List Two) (body : List Stm) (r a b : Option Addr) (rc ac bc : Nat) (w : World) (h : TwoIn w a al) :
    Calls Tryz.prog 55 #[.agg #[.int .i64 k, .string nm, .slice r rs.length rc, .slice a al.length ac, .slice b body.length bc]] w fun e w' => e = .returned (.int .i64 (if formB (.mk k nm rs al body) = true then 0 else 1)) ∧ Ext w w' := by
  rw [formB_mk]
  by_cases h1 : k = 1
  · rw [if_pos h1]; subst h1; exact form_node nm r a b _ _ _ rc ac bc w
  rw [if_neg h1]
  by_cases h2 : k = 2
  · rw [if_pos h2]; subst h2; exact form_edge nm r a b _ _ _ rc ac bc w
  rw [if_neg h2]
  by_cases h3 : k = 3
  · rw [if_pos h3]; subst h3; exact form_default nm r a b _ _ _ rc ac bc w
  rw [if_neg h3]
  by_cases h4 : k = 4
  · rw [if_pos h4]; subst h4; exact form_set nm r a b _ _ rc ac bc al w h
  rw [if_neg h4]
  by_cases h5 : k = 5
  · rw [if_pos h5]; subst h5; exact form_cluster nm r a b _ _ _ rc ac bc w
  rw [if_neg h5]
  exact form_else k nm r a b _ _ _ rc ac bc w h1 h2 h3 h4 h5
end Go.Proofs.YtmallladeidkpaaGreatDoor.Tr

/- The plain parser reads back the tokens of a valid tree; different valid trees have different texts; no program in sight. -/
namespace Go.Proofs.YtmallladeidkpaaGreatDoor.Tr
open Go.Lib Fx Lx

mutual
def fuelS : Stm → Nat
  | .mk _ _ _ _ b => 3 + fuelL b
def fuelL : List Stm → Nat
  | [] => 1
  | x :: r => 1 + fuelS x + fuelL r
end
/-- What the form says of the parts. -/
theorem form_parts (k : Int) (n : ByteArray) (r a : List Two) (b : List Stm) (h : formB (.mk k n r a b) = true) :
    (k = 1 ∧ r = [] ∧ b = []) ∨ (k = 2 ∧ n = ⟨#[]⟩ ∧ b = [] ∧ 2 ≤ r.length) ∨ (k = 3 ∧ r = [] ∧ b = [] ∧ (n.data.toList = kNode ∨ n.data.toList = kEdge)) ∨ (k = 4 ∧ r = [] ∧ b = [] ∧ ∃ v, a = [(⟨#[]⟩, v)]) ∨ (k = 5 ∧ r = [] ∧ a = []) := by
  rw [formB_mk] at h
  by_cases h1 : k = 1
  · rw [if_pos h1] at h
    simp only [Bool.and_eq_true, decide_eq_true_eq] at h
    exact .inl ⟨h1, List.eq_nil_of_length_eq_zero h.1, List.eq_nil_of_length_eq_zero h.2⟩
  rw [if_neg h1] at h
  by_cases h2 : k = 2
  · rw [if_pos h2] at h
    simp only [Bool.and_eq_true, decide_eq_true_eq] at h
    exact .inr (.inl ⟨h2, empty_of n h.1.1, List.eq_nil_of_length_eq_zero h.1.2, h.2⟩)
  rw [if_neg h2] at h
  by_cases h3 : k = 3
  · rw [if_pos h3] at h
    simp only [Bool.and_eq_true, Bool.or_eq_true, decide_eq_true_eq] at h
    exact .inr (.inr (.inl ⟨h3, List.eq_nil_of_length_eq_zero h.1.1, List.eq_nil_of_length_eq_zero h.1.2, h.2⟩))
  rw [if_neg h3] at h
  by_cases h4 : k = 4
  · rw [if_pos h4] at h
    simp only [Bool.and_eq_true, decide_eq_true_eq] at h
    refine .inr (.inr (.inr (.inl ⟨h4, List.eq_nil_of_length_eq_zero h.1.1, List.eq_nil_of_length_eq_zero h.1.2, ?_⟩)))
    have h5 := h.2
    unfold setB at h5
    split at h5
    · rename_i q
      obtain ⟨x, v⟩ := q
      have : x.size = 0 := by simpa using h5
      exact ⟨v, by rw [empty_of x this]⟩
    · exact absurd h5 (by decide)
  rw [if_neg h4] at h
  by_cases h5 : k = 5
  · rw [if_pos h5] at h
    simp only [Bool.and_eq_true, decide_eq_true_eq] at h
    exact .inr (.inr (.inr (.inr ⟨h5, List.eq_nil_of_length_eq_zero h.1, List.eq_nil_of_length_eq_zero h.2⟩)))
  · rw [if_neg h5] at h; exact absurd h (by decide)
theorem stmE_depth (k : Int) (n : ByteArray) (r a : List Two) (b : List Stm) (dep : Nat) (h : stmE (.mk k n r a b, dep) = 0) (h5 : k = 5) : dep < 6 := by
  unfold stmE at h
  dsimp only at h
  split at h
  · exact absurd h (by decide)
  · split at h
    · exact absurd h (by decide)
    · rename_i h2
      have : ¬ (k = 5 ∧ 6 ≤ dep) := h2
      omega
theorem isT2_tok (x y : List UInt8) (ln : Int) (r : List Tok) : isT 2 y (⟨2, x, 0, ln⟩ :: r) = decide (x = y) := by unfold isT; simp
theorem toksS_1 (d : Bool) (ln : Int) (n : ByteArray) (r a : List Two) (b : List Stm) : toksS d ln (.mk 1 n r a b) = nm n ln :: tailToks ln a := by rw [toksS, if_pos rfl]
theorem toksS_2 (d : Bool) (ln : Int) (n : ByteArray) (r a : List Two) (b : List Stm) : toksS d ln (.mk 2 n r a b) = sepToks (mk (arrowM d) ln) (r.map (refToks ln)) ++ tailToks ln a := by
  rw [toksS, if_neg (show ¬ (2 : Int) = 1 by decide), if_pos rfl]
theorem toksS_3 (d : Bool) (ln : Int) (n : ByteArray) (r a : List Two) (b : List Stm) : toksS d ln (.mk 3 n r a b) = ⟨2, n.data.toList, 0, ln⟩ :: (listToks ln a ++ [mk [59] ln]) := by
  rw [toksS, if_neg (show ¬ (3 : Int) = 1 by decide), if_neg (show ¬ (3 : Int) = 2 by decide), if_pos rfl]
theorem toksS_4 (d : Bool) (ln : Int) (n : ByteArray) (r a : List Two) (b : List Stm) : toksS d ln (.mk 4 n r a b) = [⟨2, [115, 101, 116], 0, ln⟩, nm n ln, mk [61] ln, valTok (a.headD (⟨#[]⟩, ⟨#[]⟩)).2 ln, mk [59] ln] := by
  rw [toksS, if_neg (show ¬ (4 : Int) = 1 by decide), if_neg (show ¬ (4 : Int) = 2 by decide), if_neg (show ¬ (4 : Int) = 3 by decide), if_pos rfl]
theorem toksS_5 (d : Bool) (ln : Int) (n : ByteArray) (r a : List Two) (b : List Stm) : toksS d ln (.mk 5 n r a b) = ⟨2, [99, 108, 117, 115, 116, 101, 114], 0, ln⟩ :: nm n ln :: mk [123] ln :: (toksL d (ln + 1) b ++ [mk [125] (ln + 1 + linesL b)]) := by
  rw [toksS, if_neg (show ¬ (5 : Int) = 1 by decide), if_neg (show ¬ (5 : Int) = 2 by decide), if_neg (show ¬ (5 : Int) = 3 by decide), if_neg (show ¬ (5 : Int) = 4 by decide)]
mutual
theorem pStm_tok (last : Int) (d : Bool) : ∀ (x : Stm) (dep : Nat) (ln : Int) (f : Nat) (t : List Tok), AllS okS x → (∀ p ∈ flatS dep x, stmE p = 0) → fuelS x ≤ f → pStm last (arrowM d) f dep (toksS d ln x ++ t) = .ok x t
  | .mk k n r a b, dep, ln, f, t, h, hv, hf => by
    rw [AllS] at h
    obtain ⟨⟨hfm, hn, _, _⟩, hb⟩ := h
    rw [fuelS] at hf
    obtain ⟨f, rfl⟩ : ∃ f', f = f' + 1 := ⟨f - 1, by omega⟩
    rw [pStm]
    rcases form_parts k n r a b hfm with ⟨rfl, rfl, rfl⟩ | ⟨rfl, rfl, rfl, h2⟩ | ⟨rfl, rfl, rfl, h3⟩ | ⟨rfl, rfl, rfl, v, rfl⟩ | ⟨rfl, rfl, rfl⟩
    · rw [toksS_1, List.cons_append, isT2_nm, isT2_nm, isT2_nm, isT2_nm, if_neg (by decide), if_neg (by decide), if_neg (by decide), pChain_node]
    · rw [toksS_2]
      have he : ∀ y : List UInt8, isT 2 y (sepToks (mk (arrowM d) ln) (r.map (refToks ln)) ++ tailToks ln a ++ t) = false := fun y => by
        match r, h2 with
        | q :: q2 :: l, _ =>
          rw [List.map_cons, sepToks_cons]
          unfold refToks
          rw [List.cons_append, List.cons_append, List.cons_append, isT2_nm]
      rw [he, he, he, he, if_neg (by decide), if_neg (by decide), if_neg (by decide), List.append_assoc, pChain_edge last ln d r a t h2]
    · rw [toksS_3, List.cons_append, isT2_tok, isT2_tok]
      have hk : (decide (n.data.toList = kNode) || decide (n.data.toList = kEdge)) = true := by
        rcases h3 with h | h <;> simp [h]
      rw [hk, if_pos rfl]
      have e : listToks ln a ++ [mk [59] ln] ++ t = listToks ln a ++ (mk [59] ln :: t) := by simp
      show pDef last n.data.toList (listToks ln a ++ [mk [59] ln] ++ t) = _
      unfold pDef
      rw [e, pAttrsB_list, PR.bind_ok, pMark_mk, PR.bind_ok, bs_mk]
    · rw [toksS_4, List.cons_append, isT2_tok, isT2_tok, isT2_tok, if_neg (by decide), if_pos (by decide)]
      show pSet last (nm n ln :: mk [61] ln :: valTok v ln :: mk [59] ln :: t) = _
      unfold pSet
      rw [pName_nm, PR.bind_ok, pMark_mk, PR.bind_ok, pVal_tok, PR.bind_ok, pMark_mk, PR.bind_ok]
    · rw [toksS_5, List.cons_append, isT2_tok, isT2_tok, isT2_tok, isT2_tok, if_neg (by decide), if_neg (by decide), if_pos (by decide)]
      show (pName last (nm n ln :: (mk [123] ln :: (toksL d (ln + 1) b ++ [mk [125] (ln + 1 + linesL b)])) ++ t)).bind _ = _
      rw [List.cons_append, pName_nm, PR.bind_ok]
      have hd := stmE_depth 5 n [] [] b dep (hv _ (by rw [flatS]; exact List.mem_cons_self)) rfl
      have hv2 : ∀ p ∈ flatL (dep + 1) b, stmE p = 0 := fun p hp => hv p (by rw [flatS, if_pos rfl]; exact List.mem_cons_of_mem _ hp)
      obtain ⟨f, rfl⟩ : ∃ f', f = f' + 1 := ⟨f - 1, by omega⟩
      rw [pBlock, if_neg (by omega), List.cons_append, pMark_mk, PR.bind_ok, List.append_assoc, List.cons_append, List.nil_append, pStms_tok last d b (dep + 1) (ln + 1) f [] (mk [125] (ln + 1 + linesL b) :: t) hb hv2 (by omega)]
      rotate_left
      · rw [isT_mk]; rfl
      rw [PR.bind_ok]
      rfl
theorem pStms_tok (last : Int) (d : Bool) : ∀ (X : List Stm) (dep : Nat) (ln : Int) (f : Nat) (out : List Stm) (t : List Tok), AllL okS X → (∀ p ∈ flatL dep X, stmE p = 0) → fuelL X ≤ f → isT 5 [125] t = true → pStms last (arrowM d) f dep out (toksL d ln X ++ t) = .ok (out ++ X) t.tail
  | [], dep, ln, f, out, t, _, _, hf, ht => by
    rw [fuelL] at hf
    obtain ⟨f, rfl⟩ : ∃ f', f = f' + 1 := ⟨f - 1, by omega⟩
    rw [toksL, List.nil_append, pStms, if_pos ht, List.append_nil]
  | x :: r, dep, ln, f, out, t, h, hv, hf, ht => by
    rw [fuelL] at hf
    rw [AllL] at h
    obtain ⟨f, rfl⟩ : ∃ f', f = f' + 1 := ⟨f - 1, by omega⟩
    have hv1 : ∀ p ∈ flatS dep x, stmE p = 0 := fun p hp => hv p (by rw [flatL]; exact List.mem_append_left _ hp)
    have hv2 : ∀ p ∈ flatL dep r, stmE p = 0 := fun p hp => hv p (by rw [flatL]; exact List.mem_append_right _ hp)
    have hne : isT 5 [125] (toksS d ln x ++ (toksL d (ln + linesS x) r ++ t)) = false := by
      obtain ⟨k, n, rs, a, b⟩ := x
      have hfm := h.1
      rw [AllS] at hfm
      rcases form_parts k n rs a b hfm.1.1 with ⟨rfl, rfl, rfl⟩ | ⟨rfl, rfl, rfl, h2⟩ | ⟨rfl, rfl, rfl, h3⟩ | ⟨rfl, rfl, rfl, v, rfl⟩ | ⟨rfl, rfl, rfl⟩
      · rw [toksS_1, List.cons_append, isT_nm]
      · rw [toksS_2]
        match rs, h2 with
        | q :: q2 :: l, _ =>
          rw [List.map_cons, sepToks_cons]
          unfold refToks
          rw [List.cons_append, List.cons_append, List.cons_append, isT_nm]
      · rw [toksS_3, List.cons_append]; rfl
      · rw [toksS_4, List.cons_append]; rfl
      · rw [toksS_5, List.cons_append]; rfl
    rw [toksL, List.append_assoc, pStms, hne, if_neg (by decide), pStm_tok last d x dep ln f _ h.1 hv1 (by omega), PR.bind_ok, pStms_tok last d r dep (ln + linesS x) f (out ++ [x]) t h.2 hv2 (by omega) ht]
    simp
end
theorem pTree_tok (last : Int) (d : Bool) (name : ByteArray) (body : List Stm) (f : Nat) (hv : validE name body = 0) (hf : 2 + fuelL body ≤ f) : pTree last f (toksT d name body) = .ok (d, name, body) [] := by
  obtain ⟨_, _, h3, h4⟩ := valid_ok name body hv
  obtain ⟨f, rfl⟩ : ∃ f', f = f' + 1 := ⟨f - 1, by omega⟩
  unfold toksT pTree
  rw [isT2_tok, isT2_tok]
  have hb : ∀ d : Bool, pBlock last (arrowM d) (f + 1) 0 (mk [123] 1 :: (toksL d 2 body ++ [mk [125] (2 + linesL body)])) = .ok body [] := fun d => by
    rw [pBlock, if_neg (by omega), pMark_mk, PR.bind_ok, pStms_tok last d body 0 2 f [] [mk [125] (2 + linesL body)] h4 h3 (by omega) (by rw [isT_mk]; rfl)]
    rfl
  cases d
  · rw [if_neg (by decide), if_pos (by decide), List.tail_cons, pName_nm, PR.bind_ok]
    have := hb false
    rw [show arrowM false = [45, 45] from rfl] at this
    rw [this, PR.bind_ok]
  · rw [if_pos (by decide), List.tail_cons, pName_nm, PR.bind_ok]
    have := hb true
    rw [show arrowM true = [45, 62] from rfl] at this
    rw [this, PR.bind_ok]
/-- Valid trees with one text are one. -/
theorem print_inj (d d' : Bool) (n n' : ByteArray) (b b' : List Stm) (h : validE n b = 0) (h' : validE n' b' = 0) (e : printT d n b = printT d' n' b') : d = d' ∧ n = n' ∧ b = b' := by
  obtain ⟨h1, _, _, h2⟩ := valid_ok n b h
  obtain ⟨h1', _, _, h2'⟩ := valid_ok n' b' h'
  have z := Z_tree d n b h1 h2
  have z' := Z_tree d' n' b' h1' h2'
  rw [e, z'] at z
  have ht : toksT d' n' b' = toksT d n b := (Prod.mk.inj z).1
  have p := pTree_tok 0 d n b (2 + fuelL b + (2 + fuelL b')) h (by omega)
  have p' := pTree_tok 0 d' n' b' (2 + fuelL b + (2 + fuelL b')) h' (by omega)
  rw [← ht, p'] at p
  have := (PR.ok.inj p).1
  obtain ⟨e1, e2⟩ := Prod.mk.inj this
  obtain ⟨e2, e3⟩ := Prod.mk.inj e2
  exact ⟨e1.symm, e2.symm, e3.symm⟩
end Go.Proofs.YtmallladeidkpaaGreatDoor.Tr
