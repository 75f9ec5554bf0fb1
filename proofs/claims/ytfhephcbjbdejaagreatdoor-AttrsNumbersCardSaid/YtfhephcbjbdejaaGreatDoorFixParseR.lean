/- What the document's Parse returns: the value of a text, or its error, for every text of a length that an int holds. -/
import Derived.Test.YtfhephcbjbdejaaGreatDoorFixFormM
import Derived.Test.YtfhephcbjbdejaaGreatDoorFixFormP
import Derived.Handy
namespace Go.Proofs.YtfhephcbjbdejaaGreatDoor.Fx
open Go.RowKit Go.Sort Go.Lib Go.Shelf

theorem form_empty (s : ByteArray) (w : World) (h : s.size = 0) :
    Calls Tryz.prog 83 #[.string s] w fun e w' => e = .returned (formV (form s.data.toList)) ∧ w = w' := by
  have e : s.data.toList = [] := List.eq_nil_of_length_eq_zero (by rw [← size_len]; exact h)
  obtain rfl : s = ⟨#[]⟩ := by cases s; rename_i d; cases d; simp at e; subst e; rfl
  go_enter Tryz.func83, Tryz.ntmps83
  go_wp2_with fail
  refine wp_loop_rounds 1 ?_
  rw [rounds_succ]
  go_wp2
  go_returns
  exact ⟨rfl, rfl⟩
theorem form_any (s : ByteArray) (w : World) (hs : s.size ≤ 9223372036854775807) :
    Calls Tryz.prog 83 #[.string s] w fun e w' => e = .returned (formV (form s.data.toList)) ∧ w = w' := by
  rcases head_ways s with ⟨hp, ⟨h0, ht⟩, hw⟩ | ⟨hp, ⟨h0, ht⟩, hw⟩ | ⟨hp, hw⟩
  · exact form_minus s w hs hp h0 ht hw
  · exact form_plus s w hs hp h0 ht hw
  · exact form_empty s w hp
theorem form_none (s : ByteArray) (w : World) (hs : s.size ≤ 9223372036854775807) (h : form s.data.toList = none) :
    Calls Tryz.prog 83 #[.string s] w fun e w' => e = .returned (.tuple #[.bool false, .string ⟨#[]⟩, .string ⟨#[]⟩, .bool false]) ∧ w = w' := by
  have := form_any s w hs
  rw [h] at this; exact this
theorem form_some (s a b : ByteArray) (m : Bool) (w : World) (hs : s.size ≤ 9223372036854775807) (h : form s.data.toList = some (m, a.data.toList, b.data.toList)) :
    Calls Tryz.prog 83 #[.string s] w fun e w' => e = .returned (.tuple #[.bool m, .string a, .string b, .bool true]) ∧ w = w' := by
  have := form_any s w hs
  rw [h] at this; exact this
theorem form_len (s : List UInt8) (m : Bool) (w p : List UInt8) (h : form s = some (m, w, p)) : w.length ≤ s.length ∧ p.length ≤ 3 ∧ w.all isD = true ∧ p.all isD = true ∧ w ≠ [] := by
  unfold form at h
  generalize hm : hasPrefix s [45] = mm at h
  have h1 := splitDot_le (trimPrefix s [45])
  have h2 : (trimPrefix s [45]).length ≤ s.length := by unfold trimPrefix; split <;> simp
  have h3 := splitDot_none (trimPrefix s [45])
  generalize (splitDot (trimPrefix s [45])).2.2 = pt at h h3
  generalize (splitDot (trimPrefix s [45])).1 = W at h h1
  generalize (splitDot (trimPrefix s [45])).2.1 = P at h h1 h3
  unfold form3 partOk at h
  split at h
  · cases h
  · rename_i c1
    split at h
    · cases h
    · rename_i c2
      split at h
      · cases h
      · rename_i c3
        simp only [Option.some.injEq, Prod.mk.injEq] at h
        obtain ⟨rfl, rfl, rfl⟩ := h
        have c1' : W.all isD = true ∧ P.all isD = true := by simpa using c1
        refine ⟨by omega, ?_, c1'.1, c1'.2, ?_⟩
        · cases pt
          · rw [h3 rfl]; simp
          · simp at c2; exact c2.1.2
        · intro e; subst e; simp at c3

theorem valL_snoc : ∀ (l : List UInt8) (b : UInt8) (a : Nat), valL a (l ++ [b]) = match valL a l with | none => none | some n => if 268435456 < 10 * n + (b.toNat - 48) then none else some (10 * n + (b.toNat - 48))
  | [], b, a => by simp [valL]
  | c :: r, b, a => by
    show (if 268435456 < 10 * a + (c.toNat - 48) then none else valL (10 * a + (c.toNat - 48)) (r ++ [b])) = match (if 268435456 < 10 * a + (c.toNat - 48) then none else valL (10 * a + (c.toNat - 48)) r) with | none => none | some n => if 268435456 < 10 * n + (b.toNat - 48) then none else some (10 * n + (b.toNat - 48))
    split
    · rfl
    · exact valL_snoc r b _
theorem valL_none : ∀ (l q : List UInt8) (a : Nat), valL a l = none → valL a (l ++ q) = none
  | [], _, _, h => by cases h
  | c :: r, q, a, h => by
    have h' : (if 268435456 < 10 * a + (c.toNat - 48) then none else valL (10 * a + (c.toNat - 48)) r) = none := h
    show (if 268435456 < 10 * a + (c.toNat - 48) then none else valL (10 * a + (c.toNat - 48)) (r ++ q)) = none
    split
    · rfl
    · rename_i hc; rw [if_neg hc] at h'; exact valL_none r q _ h'
theorem valL_le : ∀ (l : List UInt8) (a n : Nat), a ≤ 268435456 → valL a l = some n → n ≤ 268435456
  | [], a, n, ha, h => by cases h; exact ha
  | c :: r, a, n, ha, h => by
    have h' : (if 268435456 < 10 * a + (c.toNat - 48) then none else valL (10 * a + (c.toNat - 48)) r) = some n := h
    split at h'
    · cases h'
    · exact valL_le r _ n (by omega) h'

theorem pad_snoc (b : List UInt8) (h : b.length < 3) : pad3 (b ++ [48]) = pad3 b := by
  unfold pad3
  have e : 3 - b.length = (3 - (b ++ [48]).length) + 1 := by simp; omega
  rw [e, List.replicate_succ, List.append_assoc]; rfl
theorem pad_full (b : List UInt8) (h : 3 ≤ b.length) : pad3 b = b := by
  unfold pad3; rw [show 3 - b.length = 0 by omega]; simp
theorem take_succ_b (t : ByteArray) (k : Nat) (hk : k < t.size) : t.data.toList.take (k + 1) = t.data.toList.take k ++ [t[k]] := by
  have hk' : k < t.data.toList.length := by rw [← size_len]; exact hk
  rw [List.take_succ_eq_append_getElem hk']; rfl
theorem isD_at (t : ByteArray) (k : Nat) (hk : k < t.size) (h : t.data.toList.all isD = true) : 48 ≤ t[k].toNat ∧ t[k].toNat ≤ 57 := by
  have hk' : k < t.data.toList.length := by rw [← size_len]; exact hk
  have := List.all_eq_true.1 h t[k] (by show t.data.toList[k] ∈ _; exact List.getElem_mem hk')
  unfold isD at this; simpa using this

set_option maxHeartbeats 3200000 in
theorem parseR_any (s : ByteArray) (w : World) (hs : s.size ≤ 4294967280) :
    Calls Tryz.prog 62 #[.string s] w fun e w' => e = .returned (.tuple #[.int .i64 (parse s.data.toList).1, .int .i64 (parse s.data.toList).2]) ∧ w = w' := by
  rw [parse_eq]
  unfold parseR
  cases hF : form s.data.toList with
  | none =>
    have HF := Lib.hid hF; clear hF
    go_enter Tryz.func62, Tryz.ntmps62
    go_wp2_with (go_at_call 83; refine (form_none s _ (by omega) HF.out).mono ?_; rintro e w ⟨rfl, rfl⟩)
    go_ret2
    exact ⟨rfl, rfl⟩
  | some f =>
    obtain ⟨m, W, P⟩ := f
    obtain ⟨l1, l2, l3, l4, l5⟩ := form_len _ _ _ _ hF
    obtain ⟨a, ha⟩ : ∃ a : ByteArray, a.data.toList = W := ⟨⟨W.toArray⟩, rfl⟩
    obtain ⟨b, hb⟩ : ∃ b : ByteArray, b.data.toList = P := ⟨⟨P.toArray⟩, rfl⟩
    subst ha; subst hb
    rw [← size_len] at l1 l2
    rw [← size_len] at l1
    have HF := Lib.hid hF; clear hF
    have HD := Lib.hid (show (a.data.toList ++ pad3 b.data.toList).all isD = true by
      rw [List.all_append, l3, Bool.true_and]; unfold pad3; rw [List.all_append, l4, Bool.true_and, List.all_eq_true]
      intro x hx; rw [(List.mem_replicate.1 hx).2]; rfl)
    obtain ⟨L, hL⟩ : ∃ L, a.data.toList ++ pad3 b.data.toList = L := ⟨_, rfl⟩
    have HV : Hid (valR (some (m, a.data.toList, b.data.toList)) = match valL 0 L with | none => (0, 16) | some n => (if m then -(n : Int) else n, 0)) := by rw [← hL]; rfl
    rw [hL] at HD
    have HL := Lib.hid hL
    clear l3 l4 l5 hL
    go_enter Tryz.func62, Tryz.ntmps62
    go_wp2_with (go_at_call 83; refine (form_some s a b m _ (by omega) HF.out).mono ?_; rintro e w ⟨rfl, rfl⟩)
    go_loop [6] (fun p' => ∃ c : ByteArray, c.size ≤ 3 ∧ pad3 c.data.toList = pad3 b.data.toList ∧ p' = .string c) (fun p' => 3 - Lib.strSize p')
    case atStart => exact ⟨b, l2, rfl, rfl⟩
    case round =>
      obtain ⟨c, hc3, hcp, rfl⟩ := hrel
      by_cases hlt : c.size < 3
      · have hn : pad3 (c ++ ⟨#[48]⟩).data.toList = pad3 b.data.toList := by
          rw [data_app, ← hcp]; exact pad_snoc _ (by rw [← size_len]; exact hlt)
        have HN := Lib.hid hn; clear hn hcp
        go_wp2
        go_round
        case rel => exact ⟨_, by rw [ByteArray.size_append']; show c.size + 1 ≤ 3; omega, HN.out, rfl⟩
        case measure => show 3 - (c ++ ⟨#[48]⟩ : ByteArray).size < 3 - c.size; rw [ByteArray.size_append']; show 3 - (c.size + 1) < _; omega
      · have hall : (a ++ c).data.toList = L := by
          rw [data_app, ← HL.out, ← hcp, pad_full _ (by rw [← size_len]; omega)]
        obtain ⟨t, ht⟩ : ∃ t, a ++ c = t := ⟨_, rfl⟩
        rw [ht] at hall
        have htl : t.size ≤ 4294967283 := by rw [← ht, ByteArray.size_append']; omega
        have HT := Lib.hid hall
        clear hcp hall
        go_wp2_with fail
        go_loop [8, 10] (fun n' i' => ∃ (k n : Nat), k ≤ t.size ∧ n ≤ 268435456 ∧ valL 0 (t.data.toList.take k) = some n ∧ n' = .int .i64 n ∧ i' = .int .i64 k) (fun _ i' => t.size - (RowKit.intOf i').toNat)
        case atStart => exact ⟨0, 0, by omega, by omega, rfl, rfl, rfl⟩
        case round =>
          obtain ⟨k, n, hk, hn, hv, rfl, rfl⟩ := hrel
          by_cases hkl : k < t.size
          · have hD := isD_at t k hkl (by rw [HT.out]; exact HD.out)
            obtain ⟨d, hd⟩ : ∃ d : Nat, t[k].toNat = d + 48 := ⟨t[k].toNat - 48, by omega⟩
            have hst := valL_snoc (t.data.toList.take k) t[k] 0
            rw [← take_succ_b t k hkl, hv] at hst
            have hst2 : valL 0 (t.data.toList.take (k + 1)) = if 268435456 < 10 * n + (t[k].toNat - 48) then none else some (10 * n + (t[k].toNat - 48)) := hst
            rw [show t[k].toNat - 48 = d by omega] at hst2
            have d9 : d ≤ 9 := by omega
            have hdi : (t[k].toNat : Int) = (d : Int) + 48 := by omega
            have HS := Lib.hid hst2
            clear hst hst2 hv hd hD
            by_cases hbig : 268435456 < 10 * n + d
            · have hno := HS.out
              rw [if_pos hbig] at hno
              have hLn : valL 0 L = none := by
                have := valL_none _ (t.data.toList.drop (k + 1)) 0 hno
                rw [List.take_append_drop, HT.out] at this; exact this
              have HLN := Lib.hid hLn
              clear hno hLn
              go_wp2
              go_ret2
              exact ⟨ret_pair (by rw [HV.out, HLN.out]) (by rw [HV.out, HLN.out]), rfl⟩
            · have hyes := HS.out
              rw [if_neg hbig] at hyes
              have HY := Lib.hid hyes
              clear hyes
              go_wp2
              go_round
              case rel => exact ⟨k + 1, 10 * n + d, by omega, by omega, HY.out, by go_num, by go_num⟩
              case measure => simp [RowKit.intOf]; omega
          · have hfin : valL 0 L = some n := by
              rw [List.take_of_length_le (by rw [← size_len]; omega), HT.out] at hv; exact hv
            have HF2 := Lib.hid hfin
            clear hfin hv
            cases m
            all_goals
              go_wp2
              go_ret2
              exact ⟨ret_pair (by rw [HV.out, HF2.out]; rfl) (by rw [HV.out, HF2.out]), rfl⟩
end Go.Proofs.YtfhephcbjbdejaaGreatDoor.Fx
