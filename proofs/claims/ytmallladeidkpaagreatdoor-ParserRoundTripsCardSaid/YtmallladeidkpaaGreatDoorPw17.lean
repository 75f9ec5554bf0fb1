/- Packed texts: TreFormB, TreRtp, ParTok -/
import Derived.Test.YtmallladeidkpaaGreatDoorPw16
import Derived.Test.YtmallladeidkpaaGreatDoorPw11
import Derived.Test.YtmallladeidkpaaGreatDoorPw09
set_option linter.unusedVariables false
set_option linter.unusedSimpArgs false
/- What form and named of the tree return, the rest. -/
namespace Go.Proofs.YtmallladeidkpaaGreatDoor.Tr
open Go.RowKit Go.Sort Go.Lib Go.Shelf Fx Lx

set_option maxHeartbeats 4000000 in
theorem form_else (k : Int) (nm : ByteArray) (r a b : Option Addr) (R A B rc ac bc : Nat) (w : World) (h1 : k ≠ 1) (h2 : k ≠ 2) (h3 : k ≠ 3) (h4 : k ≠ 4) (h5 : k ≠ 5) :
    Calls Tryz.prog 55 #[.agg #[.int .i64 k, .string nm, .slice r R rc, .slice a A ac, .slice b B bc]] w fun e w' => e = .returned (.int .i64 1) ∧ Ext w w' := by
  obtain ⟨f1, f1'⟩ := ne_facts h1
  obtain ⟨f2, f2'⟩ := ne_facts h2
  obtain ⟨f3, f3'⟩ := ne_facts h3
  obtain ⟨f4, f4'⟩ := ne_facts h4
  obtain ⟨f5, f5'⟩ := ne_facts h5
  clear h1 h2 h3 h4 h5
  go_enter Tryz.func55, Tryz.ntmps55
  go_wp2
  go_ret
  exact ⟨rfl, (Ext.refl _).alloc _⟩
theorem named_any (k : Int) (w : World) : Calls Tryz.prog 56 #[.int .i64 k] w fun e w' => e = .returned (.bool (decide (k = 1 ∨ k = 4 ∨ k = 5))) ∧ w = w' := by
  by_cases h1 : k = 1
  · subst h1
    go_enter Tryz.func56, Tryz.ntmps56
    go_wp2
    go_ret
    exact ⟨rfl, rfl⟩
  by_cases h4 : k = 4
  · subst h4
    go_enter Tryz.func56, Tryz.ntmps56
    go_wp2
    go_ret
    exact ⟨rfl, rfl⟩
  by_cases h5 : k = 5
  · subst h5
    go_enter Tryz.func56, Tryz.ntmps56
    go_wp2
    go_ret
    exact ⟨rfl, rfl⟩
  rw [decide_eq_false (by omega)]
  obtain ⟨f1, f1'⟩ := ne_facts h1
  obtain ⟨f4, f4'⟩ := ne_facts h4
  obtain ⟨f5, f5'⟩ := ne_facts h5
  clear h1 h4 h5
  go_enter Tryz.func56, Tryz.ntmps56
  go_wp2
  go_ret
  exact ⟨rfl, rfl⟩
theorem litEq (n : ByteArray) (l : List UInt8) : (n.toList == l) = decide (n.data.toList = l) := by
  rw [ByteArray.toList_eq, Bool.eq_iff_iff, beq_iff_eq, decide_eq_true_eq]
set_option maxHeartbeats 4000000 in
theorem form_default (nm : ByteArray) (r a b : Option Addr) (R A B rc ac bc : Nat) (w : World) :
    Calls Tryz.prog 55 #[.agg #[.int .i64 3, .string nm, .slice r R rc, .slice a A ac, .slice b B bc]] w fun e w' => e = .returned (.int .i64 (if (decide (R = 0) && decide (B = 0) && (decide (nm.data.toList = [110, 111, 100, 101]) || decide (nm.data.toList = [101, 100, 103, 101]))) = true then 0 else 1)) ∧ Ext w w' := by
  by_cases hR : R = 0
  · by_cases hB : B = 0
    · subst hR; subst hB
      have n1 := litEq nm [110, 111, 100, 101]
      have n2 := litEq nm [101, 100, 103, 101]
      cases q1 : decide (nm.data.toList = [110, 111, 100, 101])
      · rw [q1] at n1
        clear q1
        cases q2 : decide (nm.data.toList = [101, 100, 103, 101])
        · rw [q2] at n2
          clear q2
          go_enter Tryz.func55, Tryz.ntmps55
          go_wp2
          go_ret
          exact ⟨rfl, (Ext.refl _).alloc _⟩
        · rw [q2] at n2
          clear q2
          go_enter Tryz.func55, Tryz.ntmps55
          go_wp2
          go_ret
          exact ⟨rfl, (Ext.refl _).alloc _⟩
      · rw [q1] at n1
        clear q1 n2
        go_enter Tryz.func55, Tryz.ntmps55
        go_wp2
        go_ret
        exact ⟨rfl, (Ext.refl _).alloc _⟩
    · subst hR
      have f1 : ((B : Int) == 0) = false := by simpa using hB
      rw [decide_eq_false hB]
      clear hB
      go_enter Tryz.func55, Tryz.ntmps55
      go_wp2
      go_ret
      exact ⟨rfl, (Ext.refl _).alloc _⟩
  · have f1 : ((R : Int) == 0) = false := by simpa using hR
    rw [decide_eq_false hR]
    clear hR
    go_enter Tryz.func55, Tryz.ntmps55
    go_wp2
    go_ret
    exact ⟨rfl, (Ext.refl _).alloc _⟩
set_option maxHeartbeats 4000000 in
theorem form_set (nm : ByteArray) (r a b : Option Addr) (R B rc ac bc : Nat) (al : List Two) (w : World) (h : TwoIn w a al) :
    Calls Tryz.prog 55 #[.agg #[.int .i64 4, .string nm, .slice r R rc, .slice a al.length ac, .slice b B bc]] w fun e w' => e = .returned (.int .i64 (if (decide (R = 0) && decide (B = 0) && setB al) = true then 0 else 1)) ∧ Ext w w' := by
  by_cases hR : R = 0
  · by_cases hB : B = 0
    · subst hR; subst hB
      by_cases h1 : al.length = 1
      · obtain ⟨⟨k, v⟩, rfl⟩ : ∃ q, al = [q] := by
          match al, h1 with
          | [q], _ => exact ⟨q, rfl⟩
        obtain ⟨g, o, rfl, c0, c1⟩ := h 0 (by simp)
        simp only [Nat.zero_mul, Nat.add_zero, List.getElem_cons_zero] at c0 c1
        have d0 : ∀ o', (w.alloc o').cell? ⟨g, o, none⟩ = some (.string k) := fun o' => ((Ext.refl w).alloc o').cell c0
        have d1 : ∀ o', (w.alloc o').cell? ⟨g, o + 1, none⟩ = some (.string v) := fun o' => ((Ext.refl w).alloc o').cell c1
        clear h h1 c1
        have n1 := @size0 k
        rw [show setB [(k, v)] = decide (k.size = 0) from rfl]
        cases q1 : decide (k.size = 0)
        · rw [q1] at n1
          clear q1
          simp only [List.length_cons, List.length_nil, Nat.zero_add]
          go_enter Tryz.func55, Tryz.ntmps55
          go_wp2
          go_ret
          exact ⟨rfl, (Ext.refl _).alloc _⟩
        · rw [q1] at n1
          clear q1
          simp only [List.length_cons, List.length_nil, Nat.zero_add]
          go_enter Tryz.func55, Tryz.ntmps55
          go_wp2
          go_ret
          exact ⟨rfl, (Ext.refl _).alloc _⟩
      · have hm : setB al = false := by
          unfold setB
          match al, h1 with
          | [], _ => rfl
          | [q], h1 => exact absurd rfl h1
          | _ :: _ :: _, _ => rfl
        rw [hm]
        have f1 : ((al.length : Int) == 1) = false := by
          rw [beq_eq_false_iff_ne]; omega
        clear hm h1 h
        generalize al.length = A at *
        go_enter Tryz.func55, Tryz.ntmps55
        go_wp2
        go_ret
        exact ⟨rfl, (Ext.refl _).alloc _⟩
    · subst hR
      have f1 : ((B : Int) == 0) = false := by simpa using hB
      rw [decide_eq_false hB]
      clear hB h
      generalize al.length = A at *
      go_enter Tryz.func55, Tryz.ntmps55
      go_wp2
      go_ret
      exact ⟨rfl, (Ext.refl _).alloc _⟩
  · have f1 : ((R : Int) == 0) = false := by simpa using hR
    rw [decide_eq_false hR]
    clear hR h
    generalize al.length = A at *
    go_enter Tryz.func55, Tryz.ntmps55
    go_wp2
    go_ret
    exact ⟨rfl, (Ext.refl _).alloc _⟩
theorem isE {α : Type} (L : List α) : L.isEmpty = decide (L.length = 0) := by cases L <;> rfl
theorem formB_mk (k : Int) (nm : ByteArray) (rs al : List Two) (body : List Stm) : formB (.mk k nm rs al body) =
    if k = 1 then decide (rs.length = 0) && decide (body.length = 0)
    else if k = 2 then decide (nm.size = 0) && decide (body.length = 0) && decide (2 ≤ rs.length)
    else if k = 3 then decide (rs.length = 0) && decide (body.length = 0) && (decide (nm.data.toList = [110, 111, 100, 101]) || decide (nm.data.toList = [101, 100, 103, 101]))
    else if k = 4 then decide (rs.length = 0) && decide (body.length = 0) && setB al
    else if k = 5 then decide (rs.length = 0) && decide (al.length = 0)
    else false := by
  rw [← isE, ← isE, ← isE]; rfl
/-- The program's form. -/
theorem form_any (k : Int) (nm : ByteArray) (rs al : List Two) (body : List Stm) (r a b : Option Addr) (rc ac bc : Nat) (w : World) (h : TwoIn w a al) :
    Calls Tryz.prog 55 #[.agg #[.int .i64 k, .string nm, .slice r rs.length rc, .slice a al.length ac, .slice b body.length bc]] w fun e w' => e = .returned (.int .i64 (if formB (.mk k nm rs al body) = true then 0 else 1)) ∧ Ext w w' := by
  rw [formB_mk]
  by_cases h1 : k = 1
  · rw [if_pos h1]; subst h1; exact form_node nm r a b _ _ _ rc ac bc w
  rw [if_neg h1]
  by_cases h2 : k = 2
  · rw [if_pos h2]; subst h2; exact form_edge nm r a b _ _ _ rc ac bc w
  rw [if_neg h2]
  by_cases h3 : k = 3
  · rw [if_pos h3]; subst h3; exact form_default nm r a b _ _ _ rc ac bc w
  rw [if_neg h3]
  by_cases h4 : k = 4
  · rw [if_pos h4]; subst h4; exact form_set nm r a b _ _ rc ac bc al w h
  rw [if_neg h4]
  by_cases h5 : k = 5
  · rw [if_pos h5]; subst h5; exact form_cluster nm r a b _ _ _ rc ac bc w
  rw [if_neg h5]
  exact form_else k nm r a b _ _ _ rc ac bc w h1 h2 h3 h4 h5
end Go.Proofs.YtmallladeidkpaaGreatDoor.Tr

/- The plain parser reads back the tokens of a valid tree; different valid trees have different texts; no program in sight. -/
namespace Go.Proofs.YtmallladeidkpaaGreatDoor.Tr
open Go.Lib Fx Lx

mutual
def fuelS : Stm → Nat
  | .mk _ _ _ _ b => 2 + fuelL b
def fuelL : List Stm → Nat
  | [] => 1
  | x :: r => 1 + max (fuelS x) (fuelL r)
end
/-- What the form says of the parts. -/
theorem form_parts (k : Int) (n : ByteArray) (r a : List Two) (b : List Stm) (h : formB (.mk k n r a b) = true) :
    (k = 1 ∧ r = [] ∧ b = []) ∨ (k = 2 ∧ n = ⟨#[]⟩ ∧ b = [] ∧ 2 ≤ r.length) ∨ (k = 3 ∧ r = [] ∧ b = [] ∧ (n.data.toList = kNode ∨ n.data.toList = kEdge)) ∨ (k = 4 ∧ r = [] ∧ b = [] ∧ ∃ v, a = [(⟨#[]⟩, v)]) ∨ (k = 5 ∧ r = [] ∧ a = []) := by
  rw [formB_mk] at h
  by_cases h1 : k = 1
  · rw [if_pos h1] at h
    simp only [Bool.and_eq_true, decide_eq_true_eq] at h
    exact .inl ⟨h1, List.eq_nil_of_length_eq_zero h.1, List.eq_nil_of_length_eq_zero h.2⟩
  rw [if_neg h1] at h
  by_cases h2 : k = 2
  · rw [if_pos h2] at h
    simp only [Bool.and_eq_true, decide_eq_true_eq] at h
    exact .inr (.inl ⟨h2, empty_of n h.1.1, List.eq_nil_of_length_eq_zero h.1.2, h.2⟩)
  rw [if_neg h2] at h
  by_cases h3 : k = 3
  · rw [if_pos h3] at h
    simp only [Bool.and_eq_true, Bool.or_eq_true, decide_eq_true_eq] at h
    exact .inr (.inr (.inl ⟨h3, List.eq_nil_of_length_eq_zero h.1.1, List.eq_nil_of_length_eq_zero h.1.2, h.2⟩))
  rw [if_neg h3] at h
  by_cases h4 : k = 4
  · rw [if_pos h4] at h
    simp only [Bool.and_eq_true, decide_eq_true_eq] at h
    refine .inr (.inr (.inr (.inl ⟨h4, List.eq_nil_of_length_eq_zero h.1.1, List.eq_nil_of_length_eq_zero h.1.2, ?_⟩)))
    have h5 := h.2
    unfold setB at h5
    split at h5
    · rename_i q
      obtain ⟨x, v⟩ := q
      have : x.size = 0 := by simpa using h5
      exact ⟨v, by rw [empty_of x this]⟩
    · exact absurd h5 (by decide)
  rw [if_neg h4] at h
  by_cases h5 : k = 5
  · rw [if_pos h5] at h
    simp only [Bool.and_eq_true, decide_eq_true_eq] at h
    exact .inr (.inr (.inr (.inr ⟨h5, List.eq_nil_of_length_eq_zero h.1, List.eq_nil_of_length_eq_zero h.2⟩)))
  · rw [if_neg h5] at h; exact absurd h (by decide)
theorem stmE_depth (k : Int) (n : ByteArray) (r a : List Two) (b : List Stm) (dep : Nat) (h : stmE (.mk k n r a b, dep) = 0) (h5 : k = 5) : dep < 6 := by
  unfold stmE at h
  dsimp only at h
  split at h
  · exact absurd h (by decide)
  · split at h
    · exact absurd h (by decide)
    · rename_i h2
      have : ¬ (k = 5 ∧ 6 ≤ dep) := h2
      omega
theorem isT2_tok (x y : List UInt8) (ln : Int) (r : List Tok) : isT 2 y (⟨2, x, 0, ln⟩ :: r) = decide (x = y) := by unfold isT; simp
theorem toksS_1 (d : Bool) (ln : Int) (n : ByteArray) (r a : List Two) (b : List Stm) : toksS d ln (.mk 1 n r a b) = nm n ln :: tailToks ln a := by rw [toksS, if_pos rfl]
theorem toksS_2 (d : Bool) (ln : Int) (n : ByteArray) (r a : List Two) (b : List Stm) : toksS d ln (.mk 2 n r a b) = sepToks (mk (arrowM d) ln) (r.map (refToks ln)) ++ tailToks ln a := by
  rw [toksS, if_neg (show ¬ (2 : Int) = 1 by decide), if_pos rfl]
theorem toksS_3 (d : Bool) (ln : Int) (n : ByteArray) (r a : List Two) (b : List Stm) : toksS d ln (.mk 3 n r a b) = ⟨2, n.data.toList, 0, ln⟩ :: (listToks ln a ++ [mk [59] ln]) := by
  rw [toksS, if_neg (show ¬ (3 : Int) = 1 by decide), if_neg (show ¬ (3 : Int) = 2 by decide), if_pos rfl]
theorem toksS_4 (d : Bool) (ln : Int) (n : ByteArray) (r a : List Two) (b : List Stm) : toksS d ln (.mk 4 n r a b) = [⟨2, [115, 101, 116], 0, ln⟩, nm n ln, mk [61] ln, valTok (a.headD (⟨#[]⟩, ⟨#[]⟩)).2 ln, mk [59] ln] := by
  rw [toksS, if_neg (show ¬ (4 : Int) = 1 by decide), if_neg (show ¬ (4 : Int) = 2 by decide), if_neg (show ¬ (4 : Int) = 3 by decide), if_pos rfl]
theorem toksS_5 (d : Bool) (ln : Int) (n : ByteArray) (r a : List Two) (b : List Stm) : toksS d ln (.mk 5 n r a b) = ⟨2, [99, 108, 117, 115, 116, 101, 114], 0, ln⟩ :: nm n ln :: mk [123] ln :: (toksL d (ln + 1) b ++ [mk [125] (ln + 1 + linesL b)]) := by
  rw [toksS, if_neg (show ¬ (5 : Int) = 1 by decide), if_neg (show ¬ (5 : Int) = 2 by decide), if_neg (show ¬ (5 : Int) = 3 by decide), if_neg (show ¬ (5 : Int) = 4 by decide)]
mutual
theorem pStm_tok (last : Int) (d : Bool) : ∀ (x : Stm) (dep : Nat) (ln : Int) (f : Nat) (t : List Tok), AllS okS x → (∀ p ∈ flatS dep x, stmE p = 0) → fuelS x ≤ f → pStm last (arrowM d) f dep (toksS d ln x ++ t) = .ok x t
  | .mk k n r a b, dep, ln, f, t, h, hv, hf => by
    rw [AllS] at h
    obtain ⟨⟨hfm, hn, _, _⟩, hb⟩ := h
    rw [fuelS] at hf
    obtain ⟨f, rfl⟩ : ∃ f', f = f' + 1 := ⟨f - 1, by omega⟩
    rw [pStm]
    rcases form_parts k n r a b hfm with ⟨rfl, rfl, rfl⟩ | ⟨rfl, rfl, rfl, h2⟩ | ⟨rfl, rfl, rfl, h3⟩ | ⟨rfl, rfl, rfl, v, rfl⟩ | ⟨rfl, rfl, rfl⟩
    · rw [toksS_1, List.cons_append, isT2_nm, isT2_nm, isT2_nm, isT2_nm, if_neg (by decide), if_neg (by decide), if_neg (by decide), pChain_node]
    · rw [toksS_2]
      have he : ∀ y : List UInt8, isT 2 y (sepToks (mk (arrowM d) ln) (r.map (refToks ln)) ++ tailToks ln a ++ t) = false := fun y => by
        match r, h2 with
        | q :: q2 :: l, _ =>
          rw [List.map_cons, sepToks_cons]
          unfold refToks
          rw [List.cons_append, List.cons_append, List.cons_append, isT2_nm]
      rw [he, he, he, he, if_neg (by decide), if_neg (by decide), if_neg (by decide), List.append_assoc, pChain_edge last ln d r a t h2]
    · rw [toksS_3, List.cons_append, isT2_tok, isT2_tok]
      have hk : (decide (n.data.toList = kNode) || decide (n.data.toList = kEdge)) = true := by
        rcases h3 with h | h <;> simp [h]
      rw [hk, if_pos rfl]
      have e : listToks ln a ++ [mk [59] ln] ++ t = listToks ln a ++ (mk [59] ln :: t) := by simp
      show pDef last n.data.toList (listToks ln a ++ [mk [59] ln] ++ t) = _
      unfold pDef
      rw [e, pAttrsB_list, PR.bind_ok, pMark_mk, PR.bind_ok, bs_mk]
    · rw [toksS_4, List.cons_append, isT2_tok, isT2_tok, isT2_tok, if_neg (by decide), if_pos (by decide)]
      show pSet last (nm n ln :: mk [61] ln :: valTok v ln :: mk [59] ln :: t) = _
      unfold pSet
      rw [pName_nm, PR.bind_ok, pMark_mk, PR.bind_ok, pVal_tok, PR.bind_ok, pMark_mk, PR.bind_ok]
    · rw [toksS_5, List.cons_append, isT2_tok, isT2_tok, isT2_tok, isT2_tok, if_neg (by decide), if_neg (by decide), if_pos (by decide)]
      show (pName last (nm n ln :: (mk [123] ln :: (toksL d (ln + 1) b ++ [mk [125] (ln + 1 + linesL b)])) ++ t)).bind _ = _
      rw [List.cons_append, pName_nm, PR.bind_ok]
      have hd := stmE_depth 5 n [] [] b dep (hv _ (by rw [flatS]; exact List.mem_cons_self)) rfl
      have hv2 : ∀ p ∈ flatL (dep + 1) b, stmE p = 0 := fun p hp => hv p (by rw [flatS, if_pos rfl]; exact List.mem_cons_of_mem _ hp)
      obtain ⟨f, rfl⟩ : ∃ f', f = f' + 1 := ⟨f - 1, by omega⟩
      rw [pBlock, if_neg (by omega), List.cons_append, pMark_mk, PR.bind_ok, List.append_assoc, List.cons_append, List.nil_append, pStms_tok last d b (dep + 1) (ln + 1) f [] (mk [125] (ln + 1 + linesL b) :: t) hb hv2 (by omega)]
      rotate_left
      · rw [isT_mk]; rfl
      rw [PR.bind_ok]
      rfl
theorem pStms_tok (last : Int) (d : Bool) : ∀ (X : List Stm) (dep : Nat) (ln : Int) (f : Nat) (out : List Stm) (t : List Tok), AllL okS X → (∀ p ∈ flatL dep X, stmE p = 0) → fuelL X ≤ f → isT 5 [125] t = true → pStms last (arrowM d) f dep out (toksL d ln X ++ t) = .ok (out ++ X) t.tail
  | [], dep, ln, f, out, t, _, _, hf, ht => by
    rw [fuelL] at hf
    obtain ⟨f, rfl⟩ : ∃ f', f = f' + 1 := ⟨f - 1, by omega⟩
    rw [toksL, List.nil_append, pStms, if_pos ht, List.append_nil]
  | x :: r, dep, ln, f, out, t, h, hv, hf, ht => by
    rw [fuelL] at hf
    rw [AllL] at h
    obtain ⟨f, rfl⟩ : ∃ f', f = f' + 1 := ⟨f - 1, by omega⟩
    have hv1 : ∀ p ∈ flatS dep x, stmE p = 0 := fun p hp => hv p (by rw [flatL]; exact List.mem_append_left _ hp)
    have hv2 : ∀ p ∈ flatL dep r, stmE p = 0 := fun p hp => hv p (by rw [flatL]; exact List.mem_append_right _ hp)
    have hne : isT 5 [125] (toksS d ln x ++ (toksL d (ln + linesS x) r ++ t)) = false := by
      obtain ⟨k, n, rs, a, b⟩ := x
      have hfm := h.1
      rw [AllS] at hfm
      rcases form_parts k n rs a b hfm.1.1 with ⟨rfl, rfl, rfl⟩ | ⟨rfl, rfl, rfl, h2⟩ | ⟨rfl, rfl, rfl, h3⟩ | ⟨rfl, rfl, rfl, v, rfl⟩ | ⟨rfl, rfl, rfl⟩
      · rw [toksS_1, List.cons_append, isT_nm]
      · rw [toksS_2]
        match rs, h2 with
        | q :: q2 :: l, _ =>
          rw [List.map_cons, sepToks_cons]
          unfold refToks
          rw [List.cons_append, List.cons_append, List.cons_append, isT_nm]
      · rw [toksS_3, List.cons_append]; rfl
      · rw [toksS_4, List.cons_append]; rfl
      · rw [toksS_5, List.cons_append]; rfl
    rw [toksL, List.append_assoc, pStms, hne, if_neg (by decide), pStm_tok last d x dep ln f _ h.1 hv1 (by omega), PR.bind_ok, pStms_tok last d r dep (ln + linesS x) f (out ++ [x]) t h.2 hv2 (by omega) ht]
    simp
end
theorem pTree_tok (last : Int) (d : Bool) (name : ByteArray) (body : List Stm) (f : Nat) (hv : validE name body = 0) (hf : 2 + fuelL body ≤ f) : pTree last f (toksT d name body) = .ok (d, name, body) [] := by
  obtain ⟨_, _, h3, h4⟩ := valid_ok name body hv
  obtain ⟨f, rfl⟩ : ∃ f', f = f' + 1 := ⟨f - 1, by omega⟩
  unfold toksT pTree
  rw [isT2_tok, isT2_tok]
  have hb : ∀ d : Bool, pBlock last (arrowM d) (f + 1) 0 (mk [123] 1 :: (toksL d 2 body ++ [mk [125] (2 + linesL body)])) = .ok body [] := fun d => by
    rw [pBlock, if_neg (by omega), pMark_mk, PR.bind_ok, pStms_tok last d body 0 2 f [] [mk [125] (2 + linesL body)] h4 h3 (by omega) (by rw [isT_mk]; rfl)]
    rfl
  cases d
  · rw [if_neg (by decide), if_pos (by decide), List.tail_cons, pName_nm, PR.bind_ok]
    have := hb false
    rw [show arrowM false = [45, 45] from rfl] at this
    rw [this, PR.bind_ok]
  · rw [if_pos (by decide), List.tail_cons, pName_nm, PR.bind_ok]
    have := hb true
    rw [show arrowM true = [45, 62] from rfl] at this
    rw [this, PR.bind_ok]
/-- Valid trees with one text are one. -/
theorem print_inj (d d' : Bool) (n n' : ByteArray) (b b' : List Stm) (h : validE n b = 0) (h' : validE n' b' = 0) (e : printT d n b = printT d' n' b') : d = d' ∧ n = n' ∧ b = b' := by
  obtain ⟨h1, _, _, h2⟩ := valid_ok n b h
  obtain ⟨h1', _, _, h2'⟩ := valid_ok n' b' h'
  have z := Z_tree d n b h1 h2
  have z' := Z_tree d' n' b' h1' h2'
  rw [e, z'] at z
  have ht : toksT d' n' b' = toksT d n b := (Prod.mk.inj z).1
  have p := pTree_tok 0 d n b (2 + fuelL b + (2 + fuelL b')) h (by omega)
  have p' := pTree_tok 0 d' n' b' (2 + fuelL b + (2 + fuelL b')) h' (by omega)
  rw [← ht, p'] at p
  have := (PR.ok.inj p).1
  obtain ⟨e1, e2⟩ := Prod.mk.inj this
  obtain ⟨e2, e3⟩ := Prod.mk.inj e2
  exact ⟨e1.symm, e2.symm, e3.symm⟩
end Go.Proofs.YtmallladeidkpaaGreatDoor.Tr

/- What the tokens of a source are, and how much a tree that is read from them holds; no program in sight. -/
namespace Go.Proofs.YtmallladeidkpaaGreatDoor.Pa
open Go.Lib Fx Lx Tr

/-- A token's text is short, its number small. -/
def okT (t : Tok) : Prop := t.text.length ≤ 32 ∧ -268435456 ≤ t.n ∧ t.n ≤ 268435456
theorem contents_len : ∀ (s : List UInt8) (esc : Bool) (acc : List UInt8) (i : Nat), acc.length ≤ 32 → (contents esc acc i s).1.length ≤ 32
  | [], esc, acc, i, _ => by show ([] : List UInt8).length ≤ 32; simp
  | c :: r, esc, acc, i, h => by
    rw [contents]
    by_cases h1 : c.toNat = 10
    · rw [if_pos h1]; simp
    rw [if_neg h1]
    split
    · simp
    split
    · exact h
    split
    · exact contents_len r true acc (i + 1) h
    by_cases h5 : 32 < acc.length + 1
    · rw [if_pos h5]; simp
    rw [if_neg h5]
    exact contents_len r false (acc ++ [c]) (i + 1) (by simp; omega)
theorem markOf_len (s : List UInt8) : ∀ (l : List (List UInt8)) (m : List UInt8), markOf s l = some m → m ∈ l
  | [], m, h => by cases h
  | x :: r, m, h => by
    unfold markOf at h
    split at h
    · injection h with h; rw [h]; simp
    · exact List.mem_cons_of_mem _ (markOf_len s r m h)
theorem kw_len (l : List UInt8) (h : kw l = true) : l.length ≤ 32 := by
  unfold kw at h
  simp only [Bool.or_eq_true, beq_iff_eq] at h
  rcases h with ((((h | h) | h) | h) | h) | h <;> rw [h] <;> decide
theorem next_okT (s : List UInt8) (h : (next s).2.2 = 0) (ln : Int) : okT { (next s).1 with line := ln } := by
  unfold okT
  dsimp only
  unfold next at h ⊢
  by_cases h1 : 0 < wordN s
  · rw [if_pos h1] at h ⊢
    by_cases h2 : kw (s.take (wordN s)) = true
    · rw [if_pos h2]; exact ⟨kw_len _ h2, by dsimp only; decide, by dsimp only; decide⟩
    rw [if_neg h2] at h ⊢
    by_cases h3 : 16 < wordN s
    · rw [if_pos h3]; exact ⟨by simp, by dsimp only; decide, by dsimp only; decide⟩
    rw [if_neg h3]
    refine ⟨?_, by dsimp only; decide, by dsimp only; decide⟩
    have : (s.take (wordN s)).length ≤ wordN s := by rw [List.length_take]; omega
    dsimp only; omega
  rw [if_neg h1] at h ⊢
  by_cases h2 : (isD (bt s 0) || (bt s 0 == 45 && decide (1 < s.length) && isD (bt s 1))) = true
  · rw [if_pos h2] at h ⊢
    by_cases h3 : (parse (s.take (numN s))).2 = 0
    · rw [if_pos h3]
      obtain ⟨_, e1, e2⟩ := exact_ok (s.take (numN s)) (parse (s.take (numN s))).1 (by rw [← h3])
      exact ⟨by simp, e2, e1⟩
    · rw [if_neg h3]; exact ⟨by simp, by dsimp only; decide, by dsimp only; decide⟩
  rw [if_neg h2] at h ⊢
  by_cases h3 : (bt s 0 == 34) = true
  · rw [if_pos h3] at h ⊢
    by_cases h4 : (contents false [] 0 (s.drop 1)).2.2 = 0
    · rw [if_pos h4]; exact ⟨contents_len _ _ _ _ (by simp), by dsimp only; decide, by dsimp only; decide⟩
    · rw [if_neg h4]; exact ⟨by simp, by dsimp only; decide, by dsimp only; decide⟩
  rw [if_neg h3] at h ⊢
  cases hm : markOf s marks with
  | none => exact ⟨by simp, by dsimp only; decide, by dsimp only; decide⟩
  | some m =>
    have := markOf_len s marks m hm
    refine ⟨?_, by dsimp only; decide, by dsimp only; decide⟩
    have hall : ∀ m ∈ marks, m.length ≤ 32 := by decide
    exact hall m this
theorem Z_okT : ∀ (n : Nat) (s : List UInt8), s.length ≤ n → ∀ (ln : Int) (L : List Tok), (∀ t ∈ L, okT t) → ∀ t ∈ (Z ln L s).1, okT t := by
  intro n
  induction n with
  | zero =>
    intro s hs ln L hL
    have : s = [] := List.eq_nil_of_length_eq_zero (by omega)
    subst this
    rw [Z_nil]; exact hL
  | succ n ih =>
    intro s hs ln L hL
    cases s with
    | nil => rw [Z_nil]; exact hL
    | cons c r =>
      have hr : r.length ≤ n := by simpa using hs
      rw [Z_cons]
      by_cases h1 : c = 10
      · rw [if_pos h1]; exact ih r hr _ L hL
      rw [if_neg h1]
      by_cases h2 : (c = 32 || c = 9) = true
      · rw [if_pos h2]; exact ih r hr _ L hL
      rw [if_neg h2]
      by_cases h3 : c = 35
      · rw [if_pos h3, skip_cons r h1]
        have := skip_le r
        exact ih _ (by omega) _ L hL
      rw [if_neg h3]
      by_cases h4 : (next (c :: r)).2.2 = 0
      · rw [if_pos h4]
        have hl := next_len (c :: r) (by simp) h4
        refine ih _ (by rw [List.length_drop, List.length_cons]; omega) _ _ fun t ht => ?_
        rcases List.mem_append.1 ht with ht | ht
        · exact hL t ht
        · rw [List.mem_singleton] at ht; rw [ht]; exact next_okT _ h4 ln
      · rw [if_neg h4]; intro t ht; cases ht
theorem tokenize_okT (s : List UInt8) : ∀ t ∈ (tokenize s).1, okT t := by
  unfold tokenize
  by_cases h : 16384 < s.length
  · rw [if_pos h]; intro t ht; cases ht
  · rw [if_neg h]; exact Z_okT s.length s (Nat.le_refl _) 1 [] (by intro t ht; cases ht)

/-- What a part of the parser answers weighs no more than what it takes. -/
def Wei {α : Type} (c : α → Nat) (x : PR α) (M : Nat) : Prop := ∀ v r, x = .ok v r → c v + 64 * r.length ≤ M ∧ ∀ t ∈ r, okT t
theorem Wei.bind {α β : Type} {c : β → Nat} {x : PR α} {g : α → List Tok → PR β} {M : Nat} (h : ∀ v r, x = .ok v r → Wei c (g v r) M) : Wei c (x.bind g) M := by
  intro v r e
  cases x with
  | ok u s => exact h u s rfl v r e
  | err ln er => cases e
theorem Wei.ok {α : Type} {c : α → Nat} {v : α} {r : List Tok} {M : Nat} (h : c v + 64 * r.length ≤ M) (hr : ∀ t ∈ r, okT t) : Wei c (PR.ok v r) M := by
  intro v' r' e; injection e with e1 e; rw [← e, ← e1]; exact ⟨h, hr⟩
theorem Wei.err {α : Type} {c : α → Nat} {ln er : Int} {M : Nat} : Wei c (PR.err ln er : PR α) M := by
  intro v' r' e; cases e
theorem Wei.mono {α : Type} {c : α → Nat} {x : PR α} {M N : Nat} (h : Wei c x M) (hn : M ≤ N) : Wei c x N := fun v r e => ⟨Nat.le_trans (h v r e).1 hn, (h v r e).2⟩
theorem Wei.ite {α : Type} {c : α → Nat} {p : Prop} [Decidable p] {x y : PR α} {M : Nat} (h1 : p → Wei c x M) (h2 : ¬ p → Wei c y M) : Wei c (if p then x else y) M := by
  by_cases h : p
  · rw [if_pos h]; exact h1 h
  · rw [if_neg h]; exact h2 h
theorem tail_ok {r : List Tok} (h : ∀ t ∈ r, okT t) : ∀ t ∈ r.tail, okT t := fun t ht => h t (List.mem_of_mem_tail ht)
theorem isT_len {k : Int} {x : List UInt8} {r : List Tok} (h : isT k x r = true) : r.tail.length + 1 = r.length := by
  cases r with
  | nil => cases h
  | cons t r => rfl
theorem wei_mark (last : Int) (m : List UInt8) (r : List Tok) (h : ∀ t ∈ r, okT t) : Wei (fun _ => 64) (pMark last m r) (64 * r.length) := by
  unfold pMark
  refine Wei.ite (fun hi => ?_) (fun _ => Wei.err)
  have := isT_len hi
  exact Wei.ok (by omega) (tail_ok h)
theorem wei_name (last : Int) (r : List Tok) (h : ∀ t ∈ r, okT t) : Wei (fun v => v.size + 31) (pName last r) (64 * r.length) := by
  cases r with
  | nil => exact Wei.err
  | cons t r =>
    unfold pName
    refine Wei.ite (fun _ => ?_) (fun _ => Wei.err)
    have := (h t (by simp)).1
    refine Wei.ok ?_ (fun u hu => h u (by simp [hu]))
    rw [size_mk, List.length_cons]; omega
theorem fmt_len (n : Int) (h0 : -268435456 ≤ n) (h1 : n ≤ 268435456) : (fmt n).length ≤ 30 := by
  obtain ⟨u, q, r, A, D, _, _, _, _, _, _, _, _, hD, hA, hDl, hf⟩ := fmt_parts n (by omega) (by omega)
  have ht := (trim_props (D.drop 1)).2.2
  rw [hf]
  simp only [List.length_append, List.length_drop] at ht ⊢
  have e1 : (if n < 0 then [45] else ([] : List UInt8)).length ≤ 1 := by split <;> simp
  have e2 : (if 0 < r then 46 :: trimRightB (D.drop 1) 48 else []).length ≤ 4 := by
    split
    · simp only [List.length_cons]; omega
    · simp
  omega
theorem wei_val (last : Int) (r : List Tok) (h : ∀ t ∈ r, okT t) : Wei (fun v => v.size + 31) (pVal last r) (64 * r.length) := by
  cases r with
  | nil => exact Wei.err
  | cons t r =>
    have ht := h t (by simp)
    have hr : ∀ u ∈ r, okT u := fun u hu => h u (by simp [hu])
    unfold pVal
    refine Wei.ite (fun _ => ?_) (fun _ => Wei.ite (fun _ => ?_) (fun _ => Wei.err))
    · refine Wei.ok ?_ hr
      rw [size_mk, List.length_cons]; have := ht.1; omega
    · refine Wei.ok ?_ hr
      have := fmt_len t.n ht.2.1 ht.2.2
      rw [size_mk, List.length_cons]; omega
theorem wei_attr (last : Int) (r : List Tok) (h : ∀ t ∈ r, okT t) : Wei (fun q => q.1.size + q.2.size + 1) (pAttr last r) (64 * r.length) := by
  unfold pAttr
  refine Wei.bind fun k s e => ?_
  obtain ⟨a1, h1⟩ := wei_name last r h k s e
  refine Wei.bind fun u s' e => ?_
  obtain ⟨a2, h2⟩ := wei_mark last _ s h1 u s' e
  refine Wei.bind fun v s'' e => ?_
  obtain ⟨a3, h3⟩ := wei_val last s' h2 v s'' e
  dsimp only at a1 a2 a3
  exact Wei.ok (by dsimp only; omega) h3
theorem two_app : ∀ (a b : List Two), sizeTwo (a ++ b) = sizeTwo a + sizeTwo b
  | [], b => by simp [sizeTwo]
  | q :: a, b => by rw [List.cons_append, sizeTwo, sizeTwo, two_app a b]; omega
theorem two_one (q : Two) : sizeTwo [q] = q.1.size + q.2.size + 1 := by rw [sizeTwo, sizeTwo]
theorem wei_attrs (last : Int) : ∀ (f : Nat) (out : List Two) (r : List Tok), (∀ t ∈ r, okT t) → Wei sizeTwo (pAttrs last f out r) (sizeTwo out + 64 * r.length)
  | 0, _, _, _ => by rw [pAttrs]; exact Wei.err
  | f + 1, out, r, h => by
    rw [pAttrs]
    refine Wei.ite (fun hi => ?_) (fun _ => ?_)
    · have := isT_len hi
      exact Wei.ok (by omega) (tail_ok h)
    refine Wei.bind fun u s e => ?_
    have hs : s.length ≤ r.length ∧ ∀ t ∈ s, okT t := by
      by_cases h0 : out.isEmpty = true
      · rw [if_pos h0] at e; injection e with _ e; rw [← e]; exact ⟨Nat.le_refl _, h⟩
      · rw [if_neg h0] at e
        obtain ⟨a1, h1⟩ := wei_mark last _ r h u s e
        exact ⟨by omega, h1⟩
    refine Wei.bind fun q s' e' => ?_
    obtain ⟨a2, h2⟩ := wei_attr last s hs.2 q s' e'
    refine (wei_attrs last f (out ++ [q]) s' h2).mono ?_
    dsimp only at a2
    rw [two_app, two_one]; have := hs.1; omega
theorem wei_attrsB (last : Int) (r : List Tok) (h : ∀ t ∈ r, okT t) : Wei sizeTwo (pAttrsB last r) (64 * r.length) := by
  unfold pAttrsB
  refine Wei.bind fun u s e => ?_
  obtain ⟨a1, h1⟩ := wei_mark last _ r h u s e
  refine (wei_attrs last _ [] s h1).mono ?_
  rw [sizeTwo]; omega
theorem wei_opt (last : Int) (r : List Tok) (h : ∀ t ∈ r, okT t) : Wei (fun a => sizeTwo a + 64) (pOpt last r) (64 * r.length) := by
  unfold pOpt
  refine Wei.bind fun a s e => ?_
  have hs : sizeTwo a + 64 * s.length ≤ 64 * r.length ∧ ∀ t ∈ s, okT t := by
    by_cases h0 : isT 5 [91] r = true
    · rw [if_pos h0] at e; exact wei_attrsB last r h a s e
    · rw [if_neg h0] at e; injection e with e1 e; rw [← e, ← e1, sizeTwo]; exact ⟨by omega, h⟩
  refine Wei.bind fun u s' e' => ?_
  obtain ⟨a2, h2⟩ := wei_mark last _ s hs.2 u s' e'
  dsimp only at a2
  exact Wei.ok (by have := hs.1; omega) h2
theorem wei_port (last : Int) (n : ByteArray) (r : List Tok) (h : ∀ t ∈ r, okT t) : Wei (fun q => q.1.size + q.2.size) (pPort last n r) (n.size + 64 * r.length) := by
  unfold pPort
  refine Wei.ite (fun hi => ?_) (fun _ => ?_)
  · have := isT_len hi
    refine Wei.bind fun p s e => ?_
    obtain ⟨a1, h1⟩ := wei_name last r.tail (tail_ok h) p s e
    exact Wei.ok (by dsimp only at a1 ⊢; omega) h1
  · exact Wei.ok (by dsimp only; show n.size + 0 + _ ≤ _; omega) h
theorem wei_ref (last : Int) (r : List Tok) (h : ∀ t ∈ r, okT t) : Wei (fun q => q.1.size + q.2.size + 1) (pRef last r) (64 * r.length) := by
  unfold pRef
  refine Wei.bind fun n s e => ?_
  obtain ⟨a1, h1⟩ := wei_name last r h n s e
  intro q s' e'
  obtain ⟨a2, h2⟩ := wei_port last n s h1 q s' e'
  dsimp only at a1 a2 ⊢
  exact ⟨by omega, h2⟩
theorem wei_refs (last : Int) (ar : List UInt8) : ∀ (f : Nat) (out : List Two) (r : List Tok), (∀ t ∈ r, okT t) → Wei sizeTwo (pRefs last ar f out r) (sizeTwo out + 64 * r.length)
  | 0, _, _, _ => by rw [pRefs]; exact Wei.err
  | f + 1, out, r, h => by
    rw [pRefs]
    refine Wei.ite (fun hi => ?_) (fun _ => Wei.ok (Nat.le_refl _) h)
    refine Wei.bind fun u s e => ?_
    obtain ⟨a1, h1⟩ := wei_mark last _ r h u s e
    refine Wei.bind fun q s' e' => ?_
    obtain ⟨a2, h2⟩ := wei_ref last s h1 q s' e'
    refine (wei_refs last ar f (out ++ [q]) s' h2).mono ?_
    dsimp only at a1 a2
    rw [two_app, two_one]; omega
theorem sizeS_mk (k : Int) (n : ByteArray) (rs al : List Two) (b : List Stm) : sizeS (.mk k n rs al b) = n.size + sizeTwo rs + sizeTwo al + sizeL b + 1 := by rw [sizeS]
theorem wei_chain (last : Int) (ar : List UInt8) (r : List Tok) (h : ∀ t ∈ r, okT t) : Wei sizeS (pChain last ar r) (64 * r.length) := by
  unfold pChain
  refine Wei.bind fun n s e => ?_
  obtain ⟨a1, h1⟩ := wei_name last r h n s e
  refine Wei.ite (fun _ => ?_) (fun _ => ?_)
  · refine Wei.bind fun a s' e' => ?_
    obtain ⟨a2, h2⟩ := wei_opt last s h1 a s' e'
    refine Wei.ok ?_ h2
    rw [sizeS_mk, sizeTwo, sizeL_nil]; dsimp only at a1 a2; omega
  · refine Wei.bind fun q s' e' => ?_
    obtain ⟨a2, h2⟩ := wei_port last n s h1 q s' e'
    refine Wei.bind fun rs s2 e2 => ?_
    obtain ⟨a3, h3⟩ := wei_refs last ar _ [q] s' h2 rs s2 e2
    refine Wei.bind fun a s3 e3 => ?_
    obtain ⟨a4, h4⟩ := wei_opt last s2 h3 a s3 e3
    refine Wei.ok ?_ h4
    rw [two_one] at a3
    rw [sizeS_mk, sizeL_nil]; dsimp only at a1 a2 a3 a4
    have : ByteArray.size ⟨#[]⟩ = 0 := rfl
    omega
theorem wei_set (last : Int) (r : List Tok) (h : ∀ t ∈ r, okT t) : Wei sizeS (pSet last r) (64 * r.length) := by
  unfold pSet
  refine Wei.bind fun n s e => ?_
  obtain ⟨a1, h1⟩ := wei_name last r h n s e
  refine Wei.bind fun u s1 e => ?_
  obtain ⟨a2, h2⟩ := wei_mark last _ s h1 u s1 e
  refine Wei.bind fun v s2 e => ?_
  obtain ⟨a3, h3⟩ := wei_val last s1 h2 v s2 e
  refine Wei.bind fun u' s3 e => ?_
  obtain ⟨a4, h4⟩ := wei_mark last _ s2 h3 u' s3 e
  refine Wei.ok ?_ h4
  rw [sizeS_mk, two_one, sizeL_nil, sizeTwo]
  dsimp only at a1 a2 a3 a4 ⊢
  have : ByteArray.size ⟨#[]⟩ = 0 := rfl
  omega
theorem wei_def (last : Int) (x : List UInt8) (hx : x.length ≤ 32) (r : List Tok) (h : ∀ t ∈ r, okT t) : Wei sizeS (pDef last x r) (64 * r.length + 64) := by
  unfold pDef
  refine Wei.bind fun a s e => ?_
  obtain ⟨a1, h1⟩ := wei_attrsB last r h a s e
  refine Wei.bind fun u s1 e => ?_
  obtain ⟨a2, h2⟩ := wei_mark last _ s h1 u s1 e
  refine Wei.ok ?_ h2
  rw [sizeS_mk, sizeL_nil, sizeTwo, size_mk]
  dsimp only at a1 a2
  omega
theorem text_len (r : List Tok) (h : ∀ t ∈ r, okT t) : (textOf r).length ≤ 32 := by
  cases r with
  | nil => show ([] : List UInt8).length ≤ 32; simp
  | cons t r => exact (h t (by simp)).1
theorem sizeL_app : ∀ (a b : List Stm), sizeL (a ++ b) = sizeL a + sizeL b
  | [], b => by rw [List.nil_append, sizeL_nil]; omega
  | x :: a, b => by rw [List.cons_append, sizeL_cons, sizeL_cons, sizeL_app a b]; omega
theorem wei_all (last : Int) (ar : List UInt8) : ∀ f : Nat, (∀ dep r, (∀ t ∈ r, okT t) → Wei sizeS (pStm last ar f dep r) (64 * r.length)) ∧
    (∀ dep r, (∀ t ∈ r, okT t) → Wei sizeL (pBlock last ar f dep r) (64 * r.length)) ∧ ∀ dep out r, (∀ t ∈ r, okT t) → Wei sizeL (pStms last ar f dep out r) (sizeL out + 64 * r.length)
  | 0 => by
    refine ⟨fun _ _ _ => ?_, fun _ _ _ => ?_, fun _ _ _ _ => ?_⟩
    · rw [pStm]; exact Wei.err
    · rw [pBlock]; exact Wei.err
    · rw [pStms]; exact Wei.err
  | f + 1 => by
    obtain ⟨h1, h2, h3⟩ := wei_all last ar f
    refine ⟨fun dep r h => ?_, fun dep r h => ?_, fun dep out r h => ?_⟩
    · rw [pStm]
      refine Wei.ite (fun hi => ?_) (fun _ => Wei.ite (fun hi => ?_) (fun _ => Wei.ite (fun hi => ?_) (fun _ => wei_chain last ar r h)))
      · have hl : r.tail.length + 1 = r.length := by
          rcases Bool.or_eq_true _ _ |>.mp hi with hi | hi <;> exact isT_len hi
        exact (wei_def last _ (text_len r h) r.tail (tail_ok h)).mono (by omega)
      · have := isT_len hi
        exact (wei_set last r.tail (tail_ok h)).mono (by omega)
      · have hl := isT_len hi
        refine Wei.bind fun n s e => ?_
        obtain ⟨a1, g1⟩ := wei_name last r.tail (tail_ok h) n s e
        refine Wei.bind fun b s' e' => ?_
        obtain ⟨a2, g2⟩ := h2 _ s g1 b s' e'
        refine Wei.ok ?_ g2
        rw [sizeS_mk, sizeTwo]; dsimp only at a1; omega
    · rw [pBlock]
      refine Wei.ite (fun _ => Wei.err) (fun _ => ?_)
      refine Wei.bind fun u s e => ?_
      obtain ⟨a1, g1⟩ := wei_mark last _ r h u s e
      refine (h3 dep [] s g1).mono ?_
      rw [sizeL_nil]; omega
    · rw [pStms]
      refine Wei.ite (fun hi => ?_) (fun _ => ?_)
      · have := isT_len hi
        exact Wei.ok (by omega) (tail_ok h)
      refine Wei.bind fun x s e => ?_
      obtain ⟨a1, g1⟩ := h1 dep r h x s e
      refine (h3 dep (out ++ [x]) s g1).mono ?_
      rw [sizeL_app, sizeL_cons, sizeL_nil]; omega
theorem wei_tree (last : Int) (f : Nat) (r : List Tok) (h : ∀ t ∈ r, okT t) : Wei (fun t => t.2.1.size + sizeL t.2.2) (pTree last f r) (64 * r.length) := by
  unfold pTree
  refine Wei.ite (fun hi => ?_) (fun _ => Wei.ite (fun hi => ?_) (fun _ => Wei.err))
  all_goals
    have hl := isT_len hi
    refine Wei.bind fun n s e => ?_
    obtain ⟨a1, g1⟩ := wei_name last r.tail (tail_ok h) n s e
    refine Wei.bind fun b s' e' => ?_
    obtain ⟨a2, g2⟩ := (wei_all last _ f).2.1 _ s g1 b s' e'
    refine Wei.ok ?_ g2
    dsimp only at a1 ⊢; omega
end Go.Proofs.YtmallladeidkpaaGreatDoor.Pa
