/- Packed texts: FixParseR, LexOne, LexRefA -/
import Derived.Test.YtmallladeidkpaaGreatDoorPw26
import Derived.Test.YtmallladeidkpaaGreatDoorPw27
import Derived.Handy
import Derived.Test.YtmallladeidkpaaGreatDoorPw01
import Derived.Test.YtmallladeidkpaaGreatDoorPw06
set_option linter.unusedVariables false
set_option linter.unusedSimpArgs false
/- What the document's Parse returns: the value of a text, or its error, for every text of a length that an int holds. -/
namespace Go.Proofs.YtmallladeidkpaaGreatDoor.Fx
open Go.RowKit Go.Sort Go.Lib Go.Shelf

theorem form_empty (s : ByteArray) (w : World) (h : s.size = 0) :
    Calls Tryz.prog 78 #[.string s] w fun e w' => e = .returned (formV (form s.data.toList)) ∧ w = w' := by
  have e : s.data.toList = [] := List.eq_nil_of_length_eq_zero (by rw [← size_len]; exact h)
  obtain rfl : s = ⟨#[]⟩ := by cases s; rename_i d; cases d; simp at e; subst e; rfl
  go_enter Tryz.func78, Tryz.ntmps78
  go_wp2_with fail
  refine wp_loop_rounds 1 ?_
  rw [rounds_succ]
  go_wp2
  go_returns
  exact ⟨rfl, rfl⟩
theorem form_any (s : ByteArray) (w : World) (hs : s.size ≤ 9223372036854775807) :
    Calls Tryz.prog 78 #[.string s] w fun e w' => e = .returned (formV (form s.data.toList)) ∧ w = w' := by
  rcases head_ways s with ⟨hp, ⟨h0, ht⟩, hw⟩ | ⟨hp, ⟨h0, ht⟩, hw⟩ | ⟨hp, hw⟩
  · exact form_minus s w hs hp h0 ht hw
  · exact form_plus s w hs hp h0 ht hw
  · exact form_empty s w hp
theorem form_none (s : ByteArray) (w : World) (hs : s.size ≤ 9223372036854775807) (h : form s.data.toList = none) :
    Calls Tryz.prog 78 #[.string s] w fun e w' => e = .returned (.tuple #[.bool false, .string ⟨#[]⟩, .string ⟨#[]⟩, .bool false]) ∧ w = w' := by
  have := form_any s w hs
  rw [h] at this; exact this
theorem form_some (s a b : ByteArray) (m : Bool) (w : World) (hs : s.size ≤ 9223372036854775807) (h : form s.data.toList = some (m, a.data.toList, b.data.toList)) :
    Calls Tryz.prog 78 #[.string s] w fun e w' => e = .returned (.tuple #[.bool m, .string a, .string b, .bool true]) ∧ w = w' := by
  have := form_any s w hs
  rw [h] at this; exact this
theorem form_len (s : List UInt8) (m : Bool) (w p : List UInt8) (h : form s = some (m, w, p)) : w.length ≤ s.length ∧ p.length ≤ 3 ∧ w.all isD = true ∧ p.all isD = true ∧ w ≠ [] := by
  unfold form at h
  generalize hm : hasPrefix s [45] = mm at h
  have h1 := splitDot_le (trimPrefix s [45])
  have h2 : (trimPrefix s [45]).length ≤ s.length := by unfold trimPrefix; split <;> simp
  have h3 := splitDot_none (trimPrefix s [45])
  generalize (splitDot (trimPrefix s [45])).2.2 = pt at h h3
  generalize (splitDot (trimPrefix s [45])).1 = W at h h1
  generalize (splitDot (trimPrefix s [45])).2.1 = P at h h1 h3
  unfold form3 partOk at h
  split at h
  · cases h
  · rename_i c1
    split at h
    · cases h
    · rename_i c2
      split at h
      · cases h
      · rename_i c3
        simp only [Option.some.injEq, Prod.mk.injEq] at h
        obtain ⟨rfl, rfl, rfl⟩ := h
        have c1' : W.all isD = true ∧ P.all isD = true := by simpa using c1
        refine ⟨by omega, ?_, c1'.1, c1'.2, ?_⟩
        · cases pt
          · rw [h3 rfl]; simp
          · simp at c2; exact c2.1.2
        · intro e; subst e; simp at c3

theorem valL_snoc : ∀ (l : List UInt8) (b : UInt8) (a : Nat), valL a (l ++ [b]) = match valL a l with | none => none | some n => if 268435456 < 10 * n + (b.toNat - 48) then none else some (10 * n + (b.toNat - 48))
  | [], b, a => by simp [valL]
  | c :: r, b, a => by
    show (if 268435456 < 10 * a + (c.toNat - 48) then none else valL (10 * a + (c.toNat - 48)) (r ++ [b])) = match (if 268435456 < 10 * a + (c.toNat - 48) then none else valL (10 * a + (c.toNat - 48)) r) with | none => none | some n => if 268435456 < 10 * n + (b.toNat - 48) then none else some (10 * n + (b.toNat - 48))
    split
    · rfl
    · exact valL_snoc r b _
theorem valL_none : ∀ (l q : List UInt8) (a : Nat), valL a l = none → valL a (l ++ q) = none
  | [], _, _, h => by cases h
  | c :: r, q, a, h => by
    have h' : (if 268435456 < 10 * a + (c.toNat - 48) then none else valL (10 * a + (c.toNat - 48)) r) = none := h
    show (if 268435456 < 10 * a + (c.toNat - 48) then none else valL (10 * a + (c.toNat - 48)) (r ++ q)) = none
    split
    · rfl
    · rename_i hc; rw [if_neg hc] at h'; exact valL_none r q _ h'
theorem valL_le : ∀ (l : List UInt8) (a n : Nat), a ≤ 268435456 → valL a l = some n → n ≤ 268435456
  | [], a, n, ha, h => by cases h; exact ha
  | c :: r, a, n, ha, h => by
    have h' : (if 268435456 < 10 * a + (c.toNat - 48) then none else valL (10 * a + (c.toNat - 48)) r) = some n := h
    split at h'
    · cases h'
    · exact valL_le r _ n (by omega) h'

theorem pad_snoc (b : List UInt8) (h : b.length < 3) : pad3 (b ++ [48]) = pad3 b := by
  unfold pad3
  have e : 3 - b.length = (3 - (b ++ [48]).length) + 1 := by simp; omega
  rw [e, List.replicate_succ, List.append_assoc]; rfl
theorem pad_full (b : List UInt8) (h : 3 ≤ b.length) : pad3 b = b := by
  unfold pad3; rw [show 3 - b.length = 0 by omega]; simp
theorem take_succ_b (t : ByteArray) (k : Nat) (hk : k < t.size) : t.data.toList.take (k + 1) = t.data.toList.take k ++ [t[k]] := by
  have hk' : k < t.data.toList.length := by rw [← size_len]; exact hk
  rw [List.take_succ_eq_append_getElem hk']; rfl
theorem isD_at (t : ByteArray) (k : Nat) (hk : k < t.size) (h : t.data.toList.all isD = true) : 48 ≤ t[k].toNat ∧ t[k].toNat ≤ 57 := by
  have hk' : k < t.data.toList.length := by rw [← size_len]; exact hk
  have := List.all_eq_true.1 h t[k] (by show t.data.toList[k] ∈ _; exact List.getElem_mem hk')
  unfold isD at this; simpa using this

set_option maxHeartbeats 3200000 in
theorem parseR_any (s : ByteArray) (w : World) (hs : s.size ≤ 4294967280) :
    Calls Tryz.prog 60 #[.string s] w fun e w' => e = .returned (.tuple #[.int .i64 (parse s.data.toList).1, .int .i64 (parse s.data.toList).2]) ∧ w = w' := by
  rw [parse_eq]
  unfold parseR
  cases hF : form s.data.toList with
  | none =>
    have HF := Lib.hid hF; clear hF
    go_enter Tryz.func60, Tryz.ntmps60
    go_wp2_with (go_at_call 78; refine (form_none s _ (by omega) HF.out).mono ?_; rintro e w ⟨rfl, rfl⟩)
    go_ret2
    exact ⟨rfl, rfl⟩
  | some f =>
    obtain ⟨m, W, P⟩ := f
    obtain ⟨l1, l2, l3, l4, l5⟩ := form_len _ _ _ _ hF
    obtain ⟨a, ha⟩ : ∃ a : ByteArray, a.data.toList = W := ⟨⟨W.toArray⟩, rfl⟩
    obtain ⟨b, hb⟩ : ∃ b : ByteArray, b.data.toList = P := ⟨⟨P.toArray⟩, rfl⟩
    subst ha; subst hb
    rw [← size_len] at l1 l2
    rw [← size_len] at l1
    have HF := Lib.hid hF; clear hF
    have HD := Lib.hid (show (a.data.toList ++ pad3 b.data.toList).all isD = true by
      rw [List.all_append, l3, Bool.true_and]; unfold pad3; rw [List.all_append, l4, Bool.true_and, List.all_eq_true]
      intro x hx; rw [(List.mem_replicate.1 hx).2]; rfl)
    obtain ⟨L, hL⟩ : ∃ L, a.data.toList ++ pad3 b.data.toList = L := ⟨_, rfl⟩
    have HV : Hid (valR (some (m, a.data.toList, b.data.toList)) = match valL 0 L with | none => (0, 16) | some n => (if m then -(n : Int) else n, 0)) := by rw [← hL]; rfl
    rw [hL] at HD
    have HL := Lib.hid hL
    clear l3 l4 l5 hL
    go_enter Tryz.func60, Tryz.ntmps60
    go_wp2_with (go_at_call 78; refine (form_some s a b m _ (by omega) HF.out).mono ?_; rintro e w ⟨rfl, rfl⟩)
    go_loop [6] (fun p' => ∃ c : ByteArray, c.size ≤ 3 ∧ pad3 c.data.toList = pad3 b.data.toList ∧ p' = .string c) (fun p' => 3 - Lib.strSize p')
    case atStart => exact ⟨b, l2, rfl, rfl⟩
    case round =>
      obtain ⟨c, hc3, hcp, rfl⟩ := hrel
      by_cases hlt : c.size < 3
      · have hn : pad3 (c ++ ⟨#[48]⟩).data.toList = pad3 b.data.toList := by
          rw [data_app, ← hcp]; exact pad_snoc _ (by rw [← size_len]; exact hlt)
        have HN := Lib.hid hn; clear hn hcp
        go_wp2
        go_round
        case rel => exact ⟨_, by rw [ByteArray.size_append']; show c.size + 1 ≤ 3; omega, HN.out, rfl⟩
        case measure => show 3 - (c ++ ⟨#[48]⟩ : ByteArray).size < 3 - c.size; rw [ByteArray.size_append']; show 3 - (c.size + 1) < _; omega
      · have hall : (a ++ c).data.toList = L := by
          rw [data_app, ← HL.out, ← hcp, pad_full _ (by rw [← size_len]; omega)]
        obtain ⟨t, ht⟩ : ∃ t, a ++ c = t := ⟨_, rfl⟩
        rw [ht] at hall
        have htl : t.size ≤ 4294967283 := by rw [← ht, ByteArray.size_append']; omega
        have HT := Lib.hid hall
        clear hcp hall
        go_wp2_with fail
        go_loop [8, 10] (fun n' i' => ∃ (k n : Nat), k ≤ t.size ∧ n ≤ 268435456 ∧ valL 0 (t.data.toList.take k) = some n ∧ n' = .int .i64 n ∧ i' = .int .i64 k) (fun _ i' => t.size - (RowKit.intOf i').toNat)
        case atStart => exact ⟨0, 0, by omega, by omega, rfl, rfl, rfl⟩
        case round =>
          obtain ⟨k, n, hk, hn, hv, rfl, rfl⟩ := hrel
          by_cases hkl : k < t.size
          · have hD := isD_at t k hkl (by rw [HT.out]; exact HD.out)
            obtain ⟨d, hd⟩ : ∃ d : Nat, t[k].toNat = d + 48 := ⟨t[k].toNat - 48, by omega⟩
            have hst := valL_snoc (t.data.toList.take k) t[k] 0
            rw [← take_succ_b t k hkl, hv] at hst
            have hst2 : valL 0 (t.data.toList.take (k + 1)) = if 268435456 < 10 * n + (t[k].toNat - 48) then none else some (10 * n + (t[k].toNat - 48)) := hst
            rw [show t[k].toNat - 48 = d by omega] at hst2
            have d9 : d ≤ 9 := by omega
            have hdi : (t[k].toNat : Int) = (d : Int) + 48 := by omega
            have HS := Lib.hid hst2
            clear hst hst2 hv hd hD
            by_cases hbig : 268435456 < 10 * n + d
            · have hno := HS.out
              rw [if_pos hbig] at hno
              have hLn : valL 0 L = none := by
                have := valL_none _ (t.data.toList.drop (k + 1)) 0 hno
                rw [List.take_append_drop, HT.out] at this; exact this
              have HLN := Lib.hid hLn
              clear hno hLn
              go_wp2
              go_ret2
              exact ⟨ret_pair (by rw [HV.out, HLN.out]) (by rw [HV.out, HLN.out]), rfl⟩
            · have hyes := HS.out
              rw [if_neg hbig] at hyes
              have HY := Lib.hid hyes
              clear hyes
              go_wp2
              go_round
              case rel => exact ⟨k + 1, 10 * n + d, by omega, by omega, HY.out, by go_num, by go_num⟩
              case measure => simp [RowKit.intOf]; omega
          · have hfin : valL 0 L = some n := by
              rw [List.take_of_length_le (by rw [← size_len]; omega), HT.out] at hv; exact hv
            have HF2 := Lib.hid hfin
            clear hfin hv
            cases m
            all_goals
              go_wp2
              go_ret2
              exact ⟨ret_pair (by rw [HV.out, HF2.out]; rfl) (by rw [HV.out, HF2.out]), rfl⟩
end Go.Proofs.YtmallladeidkpaaGreatDoor.Fx

/- The document's token at the head of a text, as a plain function, and that it is the program's; no program in sight. -/
namespace Go.Proofs.YtmallladeidkpaaGreatDoor.Lx
open Go.Lib Fx

def isM (l : List UInt8) : Bool := l == [123] || l == [125] || l == [91] || l == [93] || l == [59] || l == [44] || l == [61] || l == [58] || l == [45, 62] || l == [45, 45]
def numR (s : List UInt8) : Nat := if isD (bt s 0) || (bt s 0 == 45 && decide (1 < s.length) && isD (bt s 1)) then numN s else 0
def oneR (s : List UInt8) : Tok × Nat × Int :=
  if 0 < wordN s then
    if kw (s.take (wordN s)) then (⟨2, s.take (wordN s), 0, 0⟩, wordN s, 0)
    else if 16 < wordN s then (⟨0, [], 0, 0⟩, 0, 2)
    else (⟨1, s.take (wordN s), 0, 0⟩, wordN s, 0)
  else if 0 < numR s then (⟨3, [], (parse (s.take (numR s))).1, 0⟩, numR s, (parse (s.take (numR s))).2)
  else if bt s 0 == 34 then
    (⟨4, (contents false [] 0 (s.drop 1)).1, 0, 0⟩, if (contents false [] 0 (s.drop 1)).2.2 = 0 then (contents false [] 0 (s.drop 1)).2.1 + 1 else (contents false [] 0 (s.drop 1)).2.1, (contents false [] 0 (s.drop 1)).2.2)
  else if decide (1 < s.length) && isM (s.take 2) then (⟨5, s.take 2, 0, 0⟩, 2, 0)
  else if isM (s.take 1) then (⟨5, s.take 1, 0, 0⟩, 1, 0)
  else (⟨0, [], 0, 0⟩, 0, 4)

theorem mark_ref (s : List UInt8) (h : 0 < s.length) : (match markOf s marks with | some m => ((⟨5, m, 0, 0⟩ : Tok), m.length, (0 : Int)) | none => (⟨0, [], 0, 0⟩, 0, 4)) =
    if decide (1 < s.length) && isM (s.take 2) then (⟨5, s.take 2, 0, 0⟩, 2, 0) else if isM (s.take 1) then (⟨5, s.take 1, 0, 0⟩, 1, 0) else (⟨0, [], 0, 0⟩, 0, 4) := by
  have single : ∀ (a : UInt8) (r : List UInt8), (∀ y, y = 62 ∨ y = 45 → ([45, y] : List UInt8).isPrefixOf (a :: r) = false) →
      (match markOf (a :: r) marks with | some m => ((⟨5, m, 0, 0⟩ : Tok), m.length, (0 : Int)) | none => (⟨0, [], 0, 0⟩, 0, 4)) = if isM [a] then (⟨5, [a], 0, 0⟩, 1, 0) else (⟨0, [], 0, 0⟩, 0, 4) := by
    intro a r h2
    have e1 := h2 62 (.inl rfl)
    have e2 := h2 45 (.inr rfl)
    have e3 : ∀ b : UInt8, ([b] : List UInt8).isPrefixOf (a :: r) = (b == a) := fun b => by simp [List.isPrefixOf]
    simp only [markOf, marks, e1, e2, e3]
    by_cases c1 : a = 123
    · subst c1; rfl
    by_cases c2 : a = 125
    · subst c2; rfl
    by_cases c3 : a = 91
    · subst c3; rfl
    by_cases c4 : a = 93
    · subst c4; rfl
    by_cases c5 : a = 59
    · subst c5; rfl
    by_cases c6 : a = 44
    · subst c6; rfl
    by_cases c7 : a = 61
    · subst c7; rfl
    by_cases c8 : a = 58
    · subst c8; rfl
    have n : ∀ k : UInt8, a ≠ k → (k == a) = false := fun k hk => by rw [beq_eq_false_iff_ne]; exact fun e => hk e.symm
    simp [isM, n 123 c1, n 125 c2, n 91 c3, n 93 c4, n 59 c5, n 44 c6, n 61 c7, n 58 c8, c1, c2, c3, c4, c5, c6, c7, c8]
  match s, h with
  | [a], _ =>
    rw [single a [] (fun y _ => by simp [List.isPrefixOf])]
    rfl
  | a :: b :: r, _ =>
    show _ = (if decide (1 < (a :: b :: r).length) && isM [a, b] then ((⟨5, [a, b], 0, 0⟩ : Tok), (2 : Nat), (0 : Int)) else if isM [a] then ((⟨5, [a], 0, 0⟩ : Tok), (1 : Nat), (0 : Int)) else ((⟨0, [], 0, 0⟩ : Tok), (0 : Nat), (4 : Int)))
    rw [decide_eq_true (show 1 < (a :: b :: r).length by simp), Bool.true_and]
    by_cases h45 : a = 45
    · subst h45
      by_cases hb : b = 62
      · subst hb; rfl
      by_cases hb2 : b = 45
      · subst hb2; rfl
      have hm : isM [45, b] = false := by simp [isM, hb, hb2]
      rw [hm, single 45 (b :: r) (fun y hy => by
        simp only [List.isPrefixOf, beq_self_eq_true, Bool.true_and, Bool.and_true]
        rcases hy with rfl | rfl
        · rw [beq_eq_false_iff_ne]; exact fun e => hb e.symm
        · rw [beq_eq_false_iff_ne]; exact fun e => hb2 e.symm)]
      rfl
    · have hm : isM [a, b] = false := by simp [isM, h45]
      rw [hm, single a (b :: r) (fun y _ => by
        have : ((45 : UInt8) == a) = false := by rw [beq_eq_false_iff_ne]; exact fun e => h45 e.symm
        simp [List.isPrefixOf, this])]
      rfl
theorem numR_pos (s : List UInt8) : (0 < numR s ↔ (isD (bt s 0) || (bt s 0 == 45 && decide (1 < s.length) && isD (bt s 1))) = true) ∧ (0 < numR s → numR s = numN s) := by
  have h := scan_ge (okN s) (s.length - 1) 1
  unfold numR numN
  constructor
  · constructor
    · intro h1
      split at h1
      · assumption
      · omega
    · intro h1
      rw [if_pos h1]; omega
  · intro h1
    split at h1
    · rename_i h2; rw [if_pos h2]
    · omega
/-- The document's token and the program's: the same error, and without an error the same. -/
theorem oneR_next (s : List UInt8) (h : 0 < s.length) : (oneR s).2.2 = (next s).2.2 ∧ ((next s).2.2 = 0 → oneR s = next s) := by
  unfold oneR next
  rw [← mark_ref s h]
  by_cases h1 : 0 < wordN s
  · rw [if_pos h1, if_pos h1]; exact ⟨rfl, fun _ => rfl⟩
  rw [if_neg h1, if_neg h1]
  by_cases h2 : (isD (bt s 0) || (bt s 0 == 45 && decide (1 < s.length) && isD (bt s 1))) = true
  · have h3 := (numR_pos s).1.2 h2
    rw [if_pos h3, if_pos h2, (numR_pos s).2 h3]
    by_cases h4 : (parse (s.take (numN s))).2 = 0
    · rw [if_pos h4]
      exact ⟨h4, fun _ => by rw [h4]⟩
    · rw [if_neg h4]
      exact ⟨rfl, fun x => absurd x h4⟩
  rw [if_neg (fun x => h2 ((numR_pos s).1.1 x)), if_neg h2]
  by_cases h3 : (bt s 0 == 34) = true
  · rw [if_pos h3, if_pos h3]
    by_cases h4 : (contents false [] 0 (s.drop 1)).2.2 = 0
    · rw [if_pos h4, if_pos h4]
      exact ⟨h4, fun _ => by rw [h4]⟩
    · rw [if_neg h4, if_neg h4]
      exact ⟨rfl, fun x => absurd x h4⟩
  rw [if_neg h3, if_neg h3]
  exact ⟨rfl, fun _ => rfl⟩
end Go.Proofs.YtmallladeidkpaaGreatDoor.Lx

/- What the document's IsMark, number and text return. -/
namespace Go.Proofs.YtmallladeidkpaaGreatDoor.Lx
open Go.RowKit Go.Sort Go.Lib Go.Shelf Fx


theorem extract_one (s : ByteArray) (k : Nat) (hk : k < s.size) : (s.extract k (k + 1)).data.toList = [s[k]] := by
  have h : k < s.data.toList.length := by rw [← size_len]; exact hk
  rw [ByteArray.data_extract, Array.toList_extract, List.extract_eq_take_drop, show k + 1 - k = 1 by omega, List.drop_eq_getElem_cons h]
  rfl
theorem app_one (o s : ByteArray) (k : Nat) (hk : k < s.size) : (o ++ s.extract k (k + 1)).data.toList = o.data.toList ++ [s[k]] := by
  rw [data_app, extract_one s k hk]
theorem app_size (o s : ByteArray) (k : Nat) (hk : k < s.size) : (o ++ s.extract k (k + 1)).size = o.size + 1 := by
  rw [size_len, app_one o s k hk, size_len]; simp

theorem slice_one (s : ByteArray) (k : Nat) (a b : Int) (ha : a = k) (hb : b = (k : Int) + 1) (hk : k < s.size) (W : World) : (Instr.slice 9 (.string s) (some (.int .i64 a)) (some (.int .i64 b)) none).run Tryz.prog W = .ok (.string (s.extract k (k + 1))) W := by
  subst ha; subst hb
  rw [run_slice_string W _ _ .i64 .i64 k ((k : Int) + 1) Tryz.underlying9 (by omega) (by omega) (by omega)]
  rw [Int.toNat_natCast, show ((k : Int) + 1).toNat = k + 1 by omega]

def textV (T : List UInt8 × Nat × Int) : Value := .tuple #[.string ⟨T.1.toArray⟩, .int .i64 (if T.2.2 = 0 then (T.2.1 : Int) + 1 else T.2.1), .int .i64 T.2.2]

theorem textV_ok (o : ByteArray) (i : Nat) : textV (o.data.toList, i + 1, 0) = .tuple #[.string o, .int .i64 ((i : Int) + 1 + 1), .int .i64 0] := by
  unfold textV; cases o; simp

end Go.Proofs.YtmallladeidkpaaGreatDoor.Lx
