/- Packed texts: ParRec, ParSuf, TreForm -/
import Derived.Test.YtmallladeidkpaaGreatDoorPw12
import Derived.Defers
import Derived.Recover
import Derived.Test.YtmallladeidkpaaGreatDoorPw10
import Derived.Test.YtmallladeidkpaaGreatDoorPw08
import Derived.Test.YtmallladeidkpaaGreatDoorPw09
set_option linter.unusedVariables false
set_option linter.unusedSimpArgs false
/- The closure that run defers: in a frame that panics with a failure, and in one that returns. -/
namespace Go.Proofs.YtmallladeidkpaaGreatDoor.Pa
open Go.RowKit Go.Sort Go.Lib Go.Shelf Fx Lx Tr

theorem assert_fail (ln er : Int) (t : TypeId) (w : World) : (Instr.typeAssert (.iface 68 (.agg #[.int .i64 ln, .int .i64 er])) t 68 true).run Tryz.prog w = .ok (.tuple #[.agg #[.int .i64 ln, .int .i64 er], .bool true]) w := by kernel_rfl
theorem assert_nil (t : TypeId) (w : World) : (Instr.typeAssert .nilIface t 68 true).run Tryz.prog w = .ok (.tuple #[.agg #[.int .i64 0, .int .i64 0], .bool false]) w := by kernel_rfl
theorem cell_one {w : World} {b : Nat} {v : Value} {t : TypeId} (h : w.heap[b]? = some (.cells #[v] t (0, 0))) (o : Obj) : (w.alloc o).heap[b]? = some (.cells #[v] t (0, 0)) ∧ (w.alloc o).cell? ⟨b, 0, none⟩ = some v ∧ (w.alloc o).frozen? ⟨b, 0, none⟩ = false := by
  have hk := (((Ext.refl w).alloc o).block b (Array.getElem?_eq_some_iff.1 h).1).trans h
  exact ⟨hk, by rw [Lib.cell_of_heap hk]; rfl, Lib.frozen_of_heap hk 0⟩
set_option maxHeartbeats 4000000 in
theorem rec_panic (b c : Nat) (x y ln er : Int) (older : List PanicEntry) (w : World) (hp : w.heap[b]? = some (.cells #[.int .i64 x] 3 (0, 0))) (hq : w.heap[c]? = some (.cells #[.int .i64 y] 26 (0, 0))) (hbc : b ≠ c) :
    CallsD Tryz.prog 32 #[.pointer (some ⟨b, 0, none⟩), .pointer (some ⟨c, 0, none⟩)] (.panicking ({ v := .iface 68 (.agg #[.int .i64 ln, .int .i64 er]), recovered := false } :: older)) w fun e u' w' =>
      e = .returned (.tuple #[]) ∧ u' = .panicking ({ v := .iface 68 (.agg #[.int .i64 ln, .int .i64 er]), recovered := true } :: older) ∧
        w' = (((w.setCell ⟨b, 0, none⟩ (.int .i64 ln)).setCell ⟨c, 0, none⟩ (.int .i64 er)).alloc (.cells #[.int .i64 ln, .int .i64 er] 68)).drew := by
  refine callsD_of_wpS Tryz.func32 rfl fun c₀ cs hu => ?_
  obtain ⟨k1, k2, k3⟩ := cell_one hp (.cells #[.int .i64 ln, .int .i64 er] 68)
  obtain ⟨l1, l2, l3⟩ := cell_one hq (.cells #[.int .i64 ln, .int .i64 er] 68)
  have hb := (Array.getElem?_eq_some_iff.1 hp).1
  have hc := (Array.getElem?_eq_some_iff.1 hq).1
  have k4 : w.cell? ⟨b, 0, none⟩ = some (.int .i64 x) := by rw [Lib.cell_of_heap hp]; rfl
  have l4 : w.cell? ⟨c, 0, none⟩ = some (.int .i64 y) := by rw [Lib.cell_of_heap hq]; rfl
  have k5 := Lib.frozen_of_heap hp 0
  have l5 := Lib.frozen_of_heap hq 0
  clear hp hq k1 l1
  have hta := assert_fail ln er
  apply wpS_seq
  apply wpS_region
  simp only [Tryz.ntmps32, List.size_toArray, List.length_cons, List.length_nil, Nat.reduceAdd, Nat.reduceSub, Array.replicate_succ, Array.replicate_zero, List.push_toArray, List.append_toArray, List.nil_append, List.cons_append]
  simp [wpOpsS, go_sem, recoverD, hu, Exit.thenS, hta]
  refine wpS_of_wp ?_
  go_wp2
  go_region
  all_goals
    exact ⟨rfl, _, rfl, _, results_none rfl _ _ _, rfl, rfl, rfl⟩
set_option maxHeartbeats 4000000 in
theorem rec_idle (p q : Addr) (w : World) :
    CallsD Tryz.prog 32 #[.pointer (some p), .pointer (some q)] .returning w fun e u' w' => e = .returned (.tuple #[]) ∧ u' = .returning ∧ Ext w w' := by
  refine callsD_of_wpS Tryz.func32 rfl fun c₀ cs hu => ?_
  have hta := assert_nil
  apply wpS_seq
  apply wpS_region
  simp only [Tryz.ntmps32, List.size_toArray, List.length_cons, List.length_nil, Nat.reduceAdd, Nat.reduceSub, Array.replicate_succ, Array.replicate_zero, List.push_toArray, List.append_toArray, List.nil_append, List.cons_append]
  simp [wpOpsS, go_sem, recoverD, hu, Exit.thenS, hta]
  refine wpS_of_wp ?_
  go_wp2
  exact ⟨rfl, .returning, by cases c₀; simp_all, _, results_none rfl _ _ _, rfl, rfl, (Ext.refl w).alloc _⟩
end Go.Proofs.YtmallladeidkpaaGreatDoor.Pa

/- A comment and blanks around a source: its tokens, or its first error, one line later; no program in sight. -/
namespace Go.Proofs.YtmallladeidkpaaGreatDoor.Lx
open Go.Lib Fx

theorem sep10 : sepB 10 := by unfold sepB; decide
theorem contents_nl (t : List UInt8) : ∀ (s : List UInt8) (esc : Bool) (acc : List UInt8) (i : Nat), contents esc acc i (s ++ 10 :: t) = contents esc acc i s
  | [], esc, acc, i => by
    rw [List.nil_append, contents, contents, if_pos (by decide)]
  | c :: r, esc, acc, i => by
    rw [List.cons_append, contents, contents, contents_nl t r, contents_nl t r]
theorem next_nl (s t : List UInt8) (h : 0 < s.length) : next (s ++ 10 :: t) = next s := by
  have hc := sep10
  unfold next
  rw [wordN_sep s t hc, numN_sep s t hc h, numHead_sep s t hc h, bt_app h, markOf_sep s t hc h, List.take_append_of_le_length (wordN_le s), List.take_append_of_le_length (numN_le s h)]
  rw [List.drop_append_of_le_length (by omega), contents_nl]
theorem skip_nl (t : List UInt8) : ∀ s : List UInt8, skip (s ++ 10 :: t) = if (skip s).2 then ((skip s).1 ++ 10 :: t, true) else (t, true)
  | [] => rfl
  | c :: r => by
    by_cases hc : c = 10
    · subst hc; rfl
    · rw [List.cons_append, skip_cons _ hc, skip_cons _ hc]; exact skip_nl t r
theorem Z_cons (ln : Int) (L : List Tok) (c : UInt8) (r : List UInt8) : Z ln L (c :: r) =
    if c = 10 then Z (ln + 1) L r
    else if c = 32 || c = 9 then Z ln L r
    else if c = 35 then Z (if (skip (c :: r)).2 then ln + 1 else ln) L (skip (c :: r)).1
    else if (next (c :: r)).2.2 = 0 then Z ln (L ++ [{ (next (c :: r)).1 with line := ln }]) ((c :: r).drop (next (c :: r)).2.1)
    else ([], ln, (next (c :: r)).2.2) := by
  show tokz (r.length + 1) ln L (c :: r) = _
  rw [tokz_cons]
  by_cases h1 : c = 10
  · rw [if_pos h1, if_pos h1]; rfl
  rw [if_neg h1, if_neg h1]
  by_cases h2 : (c = 32 || c = 9) = true
  · rw [if_pos h2, if_pos h2]; rfl
  rw [if_neg h2, if_neg h2]
  by_cases h3 : c = 35
  · rw [if_pos h3, if_pos h3, Z_of]
    rw [skip_cons r h1]; exact skip_le r
  rw [if_neg h3, if_neg h3]
  by_cases h4 : (next (c :: r)).2.2 = 0
  · rw [if_pos h4, if_pos h4, Z_of]
    have := (next_len (c :: r) (by simp) h4).1
    rw [List.length_drop, List.length_cons]; omega
  · rw [if_neg h4, if_neg h4]
def suf : List UInt8 := [9, 35, 32, 125]
theorem Z_rest (ln : Int) (L : List Tok) : Z ln L suf = (L, 0, 0) := rfl
theorem Z_suf : ∀ (n : Nat) (s : List UInt8), s.length ≤ n → ∀ (ln : Int) (L : List Tok), Z ln L (s ++ 10 :: suf) = Z ln L s := by
  intro n
  induction n with
  | zero =>
    intro s hs ln L
    have : s = [] := List.eq_nil_of_length_eq_zero (by omega)
    subst this
    rw [List.nil_append, Z_nl, Z_rest, Z_nil]
  | succ n ih =>
    intro s hs ln L
    cases s with
    | nil => rw [List.nil_append, Z_nl, Z_rest, Z_nil]
    | cons c r =>
      have hr : r.length ≤ n := by simpa using hs
      have hnx := next_nl (c :: r) suf (by simp)
      rw [List.cons_append, Z_cons, Z_cons ln L c r]
      rw [List.cons_append] at hnx
      rw [hnx]
      by_cases h1 : c = 10
      · rw [if_pos h1, if_pos h1, ih r hr]
      rw [if_neg h1, if_neg h1]
      by_cases h2 : (c = 32 || c = 9) = true
      · rw [if_pos h2, if_pos h2, ih r hr]
      rw [if_neg h2, if_neg h2]
      by_cases h3 : c = 35
      · rw [if_pos h3, if_pos h3, skip_cons _ h1, skip_cons _ h1, skip_nl]
        have hl := skip_le r
        by_cases hk : (skip r).2 = true
        · rw [if_pos hk, if_pos hk]
          dsimp only
          rw [if_pos rfl, ih _ (by omega)]
        · rw [if_neg hk, if_neg hk, skip_none r (by simpa using hk)]
          dsimp only
          rw [if_pos rfl, Z_rest, Z_nil]
      rw [if_neg h3, if_neg h3]
      by_cases h4 : (next (c :: r)).2.2 = 0
      · have hl := next_len (c :: r) (by simp) h4
        have h1' : 1 ≤ (next (c :: r)).2.1 := hl.1
        rw [if_pos h4, if_pos h4, ← List.cons_append, List.drop_append_of_le_length hl.2, ih]
        rw [List.length_drop, List.length_cons]; omega
      · rw [if_neg h4, if_neg h4]
theorem tokenize_wrap (s : List UInt8) (h : s.length ≤ 3000) : tokenize ([35, 32, 123, 10] ++ (s ++ 10 :: suf)) = shiftR 1 (tokenize s) := by
  unfold tokenize
  rw [if_neg (by simp [suf]; omega), if_neg (by omega)]
  show Z 1 [] _ = shiftR 1 (Z 1 [] s)
  have e : Z 1 [] ([35, 32, 123, 10] ++ (s ++ 10 :: suf)) = Z 2 [] (s ++ 10 :: suf) := by
    show Z 1 [] (35 :: 32 :: 123 :: 10 :: (s ++ 10 :: suf)) = _
    rw [Z_cons, if_neg (by decide), if_neg (by decide), if_pos rfl]
    rfl
  rw [e, Z_suf s.length s (Nat.le_refl _)]
  exact (tokz_shift 1 s.length 1 [] s).1
end Go.Proofs.YtmallladeidkpaaGreatDoor.Lx

/- What form and named of the tree return. -/
namespace Go.Proofs.YtmallladeidkpaaGreatDoor.Tr
open Go.RowKit Go.Sort Go.Lib Go.Shelf Fx Lx

abbrev stmA (k : Int) (nm : ByteArray) (r a b : Option Addr) (R A B rc ac bc : Nat) : Array Value := #[.int .i64 k, .string nm, .slice r R rc, .slice a A ac, .slice b B bc]
theorem stm_cells (w : World) (k : Int) (nm : ByteArray) (r a b : Option Addr) (R A B rc ac bc : Nat) : ∀ w1, Ext (w.alloc (.cells #[.int .i64 k, .string nm, .slice r R rc, .slice a A ac, .slice b B bc] 44)) w1 →
    w1.cell? ⟨w.heap.size, 0, none⟩ = some (.int .i64 k) ∧ w1.cell? ⟨w.heap.size, 1, none⟩ = some (.string nm) ∧ w1.cell? ⟨w.heap.size, 2, none⟩ = some (.slice r R rc) ∧ w1.cell? ⟨w.heap.size, 3, none⟩ = some (.slice a A ac) ∧ w1.cell? ⟨w.heap.size, 4, none⟩ = some (.slice b B bc) := fun w1 x => by
  have hb := heap_alloc_new w (.cells #[.int .i64 k, .string nm, .slice r R rc, .slice a A ac, .slice b B bc] 44)
  refine ⟨x.cell ?_, x.cell ?_, x.cell ?_, x.cell ?_, x.cell ?_⟩ <;> rw [Lib.cell_of_heap hb] <;> rfl
theorem b0 {n : Nat} : (((n : Int) == 0) = true) = (n = 0) := by simp
set_option maxHeartbeats 4000000 in
theorem form_node (nm : ByteArray) (r a b : Option Addr) (R A B rc ac bc : Nat) (w : World) :
    Calls Tryz.prog 55 #[.agg #[.int .i64 1, .string nm, .slice r R rc, .slice a A ac, .slice b B bc]] w fun e w' => e = .returned (.int .i64 (if (decide (R = 0) && decide (B = 0)) = true then 0 else 1)) ∧ Ext w w' := by
  by_cases hR : R = 0
  · by_cases hB : B = 0
    · subst hR; subst hB
      go_enter Tryz.func55, Tryz.ntmps55
      go_wp2
      go_ret
      exact ⟨rfl, (Ext.refl _).alloc _⟩
    · subst hR
      have f1 : ((B : Int) == 0) = false := by simpa using hB
      rw [decide_eq_false hB]
      clear hB
      go_enter Tryz.func55, Tryz.ntmps55
      go_wp2
      go_ret
      exact ⟨rfl, (Ext.refl _).alloc _⟩
  · have f1 : ((R : Int) == 0) = false := by simpa using hR
    rw [decide_eq_false hR]
    clear hR
    go_enter Tryz.func55, Tryz.ntmps55
    go_wp2
    go_ret
    exact ⟨rfl, (Ext.refl _).alloc _⟩
set_option maxHeartbeats 4000000 in
theorem form_cluster (nm : ByteArray) (r a b : Option Addr) (R A B rc ac bc : Nat) (w : World) :
    Calls Tryz.prog 55 #[.agg #[.int .i64 5, .string nm, .slice r R rc, .slice a A ac, .slice b B bc]] w fun e w' => e = .returned (.int .i64 (if (decide (R = 0) && decide (A = 0)) = true then 0 else 1)) ∧ Ext w w' := by
  by_cases hR : R = 0
  · by_cases hB : A = 0
    · subst hR; subst hB
      go_enter Tryz.func55, Tryz.ntmps55
      go_wp2
      go_ret
      exact ⟨rfl, (Ext.refl _).alloc _⟩
    · subst hR
      have f1 : ((A : Int) == 0) = false := by simpa using hB
      rw [decide_eq_false hB]
      clear hB
      go_enter Tryz.func55, Tryz.ntmps55
      go_wp2
      go_ret
      exact ⟨rfl, (Ext.refl _).alloc _⟩
  · have f1 : ((R : Int) == 0) = false := by simpa using hR
    rw [decide_eq_false hR]
    clear hR
    go_enter Tryz.func55, Tryz.ntmps55
    go_wp2
    go_ret
    exact ⟨rfl, (Ext.refl _).alloc _⟩
theorem size0 {n : ByteArray} : (n.toList == []) = decide (n.size = 0) := by
  rw [ByteArray.toList_eq, size_len, Bool.eq_iff_iff, beq_iff_eq, decide_eq_true_eq, List.length_eq_zero_iff]
set_option maxHeartbeats 4000000 in
theorem form_edge (nm : ByteArray) (r a b : Option Addr) (R A B rc ac bc : Nat) (w : World) :
    Calls Tryz.prog 55 #[.agg #[.int .i64 2, .string nm, .slice r R rc, .slice a A ac, .slice b B bc]] w fun e w' => e = .returned (.int .i64 (if (decide (nm.size = 0) && decide (B = 0) && decide (2 ≤ R)) = true then 0 else 1)) ∧ Ext w w' := by
  have hN := @size0 nm
  cases hn : decide (nm.size = 0)
  · rw [hn] at hN
    clear hn
    go_enter Tryz.func55, Tryz.ntmps55
    go_wp2
    go_ret
    exact ⟨rfl, (Ext.refl _).alloc _⟩
  · rw [hn] at hN
    clear hn
    by_cases hB : B = 0
    · subst hB
      by_cases hR : 2 ≤ R
      · have f1 : decide ((2 : Int) ≤ R) = true := decide_eq_true (by omega)
        rw [decide_eq_true hR]
        go_enter Tryz.func55, Tryz.ntmps55
        go_wp2
        go_ret
        exact ⟨rfl, (Ext.refl _).alloc _⟩
      · have f1 : decide ((2 : Int) ≤ R) = false := decide_eq_false (by omega)
        rw [decide_eq_false hR]
        go_enter Tryz.func55, Tryz.ntmps55
        go_wp2
        go_ret
        exact ⟨rfl, (Ext.refl _).alloc _⟩
    · have f1 : ((B : Int) == 0) = false := by simpa using hB
      rw [decide_eq_false hB]
      clear hB
      go_enter Tryz.func55, Tryz.ntmps55
      go_wp2
      go_ret
      exact ⟨rfl, (Ext.refl _).alloc _⟩
end Go.Proofs.YtmallladeidkpaaGreatDoor.Tr
