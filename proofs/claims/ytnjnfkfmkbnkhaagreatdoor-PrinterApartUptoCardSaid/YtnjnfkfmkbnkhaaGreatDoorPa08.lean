/- Packed texts: FixParseR, QuoOnce, QuoBuild -/
import Derived.Test.YtnjnfkfmkbnkhaaGreatDoorPa06
import Derived.Test.YtnjnfkfmkbnkhaaGreatDoorPa07
import Derived.Handy
import Derived.Test.YtnjnfkfmkbnkhaaGreatDoorPa02
import Derived.Tactics
import Derived.Tactics2
import Derived.Defers
import Derived.Laws.Pointers
import Derived.Laws.LoneSync
import Derived.RegionTactic
import Derived.RegionCalls
import Derived.ChangeAlike
import Derived.Test.YtnjnfkfmkbnkhaaGreatDoorShelf
import Derived.Lib.SlBytesConst
import Derived.Laws.IdiomStrings
import Derived.Deep.WholeRow
import Derived.WalkSpells
import Derived.WalkLawsBesides
import Derived.Lib.OwnKind
import Derived.Maps.AppendAt
import Derived.Deep.AppendLies
set_option linter.unusedVariables false
set_option linter.unusedSimpArgs false
/- What the document's Parse returns: the value of a text, or its error, for every text of a length that an int holds. -/
namespace Go.Proofs.YtnjnfkfmkbnkhaaGreatDoor.Fx
open Go.RowKit Go.Sort Go.Lib Go.Shelf

theorem form_empty (s : ByteArray) (w : World) (h : s.size = 0) :
    Calls Tryz.prog 89 #[.string s] w fun e w' => e = .returned (formV (form s.data.toList)) ∧ w = w' := by
  have e : s.data.toList = [] := List.eq_nil_of_length_eq_zero (by rw [← size_len]; exact h)
  obtain rfl : s = ⟨#[]⟩ := by cases s; rename_i d; cases d; simp at e; subst e; rfl
  go_enter Tryz.func89, Tryz.ntmps89
  go_wp2_with fail
  refine wp_loop_rounds 1 ?_
  rw [rounds_succ]
  go_wp2
  go_returns
  exact ⟨rfl, rfl⟩
theorem form_any (s : ByteArray) (w : World) (hs : s.size ≤ 9223372036854775807) :
    Calls Tryz.prog 89 #[.string s] w fun e w' => e = .returned (formV (form s.data.toList)) ∧ w = w' := by
  rcases head_ways s with ⟨hp, ⟨h0, ht⟩, hw⟩ | ⟨hp, ⟨h0, ht⟩, hw⟩ | ⟨hp, hw⟩
  · exact form_minus s w hs hp h0 ht hw
  · exact form_plus s w hs hp h0 ht hw
  · exact form_empty s w hp
theorem form_none (s : ByteArray) (w : World) (hs : s.size ≤ 9223372036854775807) (h : form s.data.toList = none) :
    Calls Tryz.prog 89 #[.string s] w fun e w' => e = .returned (.tuple #[.bool false, .string ⟨#[]⟩, .string ⟨#[]⟩, .bool false]) ∧ w = w' := by
  have := form_any s w hs
  rw [h] at this; exact this
theorem form_some (s a b : ByteArray) (m : Bool) (w : World) (hs : s.size ≤ 9223372036854775807) (h : form s.data.toList = some (m, a.data.toList, b.data.toList)) :
    Calls Tryz.prog 89 #[.string s] w fun e w' => e = .returned (.tuple #[.bool m, .string a, .string b, .bool true]) ∧ w = w' := by
  have := form_any s w hs
  rw [h] at this; exact this
theorem form_len (s : List UInt8) (m : Bool) (w p : List UInt8) (h : form s = some (m, w, p)) : w.length ≤ s.length ∧ p.length ≤ 3 ∧ w.all isD = true ∧ p.all isD = true ∧ w ≠ [] := by
  unfold form at h
  generalize hm : hasPrefix s [45] = mm at h
  have h1 := splitDot_le (trimPrefix s [45])
  have h2 : (trimPrefix s [45]).length ≤ s.length := by unfold trimPrefix; split <;> simp
  have h3 := splitDot_none (trimPrefix s [45])
  generalize (splitDot (trimPrefix s [45])).2.2 = pt at h h3
  generalize (splitDot (trimPrefix s [45])).1 = W at h h1
  generalize (splitDot (trimPrefix s [45])).2.1 = P at h h1 h3
  unfold form3 partOk at h
  split at h
  · cases h
  · rename_i c1
    split at h
    · cases h
    · rename_i c2
      split at h
      · cases h
      · rename_i c3
        simp only [Option.some.injEq, Prod.mk.injEq] at h
        obtain ⟨rfl, rfl, rfl⟩ := h
        have c1' : W.all isD = true ∧ P.all isD = true := by simpa using c1
        refine ⟨by omega, ?_, c1'.1, c1'.2, ?_⟩
        · cases pt
          · rw [h3 rfl]; simp
          · simp at c2; exact c2.1.2
        · intro e; subst e; simp at c3

theorem valL_snoc : ∀ (l : List UInt8) (b : UInt8) (a : Nat), valL a (l ++ [b]) = match valL a l with | none => none | some n => if 268435456 < 10 * n + (b.toNat - 48) then none else some (10 * n + (b.toNat - 48))
  | [], b, a => by simp [valL]
  | c :: r, b, a => by
    show (if 268435456 < 10 * a + (c.toNat - 48) then none else valL (10 * a + (c.toNat - 48)) (r ++ [b])) = match (if 268435456 < 10 * a + (c.toNat - 48) then none else valL (10 * a + (c.toNat - 48)) r) with | none => none | some n => if 268435456 < 10 * n + (b.toNat - 48) then none else some (10 * n + (b.toNat - 48))
    split
    · rfl
    · exact valL_snoc r b _
theorem valL_none : ∀ (l q : List UInt8) (a : Nat), valL a l = none → valL a (l ++ q) = none
  | [], _, _, h => by cases h
  | c :: r, q, a, h => by
    have h' : (if 268435456 < 10 * a + (c.toNat - 48) then none else valL (10 * a + (c.toNat - 48)) r) = none := h
    show (if 268435456 < 10 * a + (c.toNat - 48) then none else valL (10 * a + (c.toNat - 48)) (r ++ q)) = none
    split
    · rfl
    · rename_i hc; rw [if_neg hc] at h'; exact valL_none r q _ h'
theorem valL_le : ∀ (l : List UInt8) (a n : Nat), a ≤ 268435456 → valL a l = some n → n ≤ 268435456
  | [], a, n, ha, h => by cases h; exact ha
  | c :: r, a, n, ha, h => by
    have h' : (if 268435456 < 10 * a + (c.toNat - 48) then none else valL (10 * a + (c.toNat - 48)) r) = some n := h
    split at h'
    · cases h'
    · exact valL_le r _ n (by omega) h'

theorem pad_snoc (b : List UInt8) (h : b.length < 3) : pad3 (b ++ [48]) = pad3 b := by
  unfold pad3
  have e : 3 - b.length = (3 - (b ++ [48]).length) + 1 := by simp; omega
  rw [e, List.replicate_succ, List.append_assoc]; rfl
theorem pad_full (b : List UInt8) (h : 3 ≤ b.length) : pad3 b = b := by
  unfold pad3; rw [show 3 - b.length = 0 by omega]; simp
theorem take_succ_b (t : ByteArray) (k : Nat) (hk : k < t.size) : t.data.toList.take (k + 1) = t.data.toList.take k ++ [t[k]] := by
  have hk' : k < t.data.toList.length := by rw [← size_len]; exact hk
  rw [List.take_succ_eq_append_getElem hk']; rfl
theorem isD_at (t : ByteArray) (k : Nat) (hk : k < t.size) (h : t.data.toList.all isD = true) : 48 ≤ t[k].toNat ∧ t[k].toNat ≤ 57 := by
  have hk' : k < t.data.toList.length := by rw [← size_len]; exact hk
  have := List.all_eq_true.1 h t[k] (by show t.data.toList[k] ∈ _; exact List.getElem_mem hk')
  unfold isD at this; simpa using this

set_option maxHeartbeats 3200000 in
theorem parseR_any (s : ByteArray) (w : World) (hs : s.size ≤ 4294967280) :
    Calls Tryz.prog 61 #[.string s] w fun e w' => e = .returned (.tuple #[.int .i64 (parse s.data.toList).1, .int .i64 (parse s.data.toList).2]) ∧ w = w' := by
  rw [parse_eq]
  unfold parseR
  cases hF : form s.data.toList with
  | none =>
    have HF := Lib.hid hF; clear hF
    go_enter Tryz.func61, Tryz.ntmps61
    go_wp2_with (go_at_call 89; refine (form_none s _ (by omega) HF.out).mono ?_; rintro e w ⟨rfl, rfl⟩)
    go_ret2
    exact ⟨rfl, rfl⟩
  | some f =>
    obtain ⟨m, W, P⟩ := f
    obtain ⟨l1, l2, l3, l4, l5⟩ := form_len _ _ _ _ hF
    obtain ⟨a, ha⟩ : ∃ a : ByteArray, a.data.toList = W := ⟨⟨W.toArray⟩, rfl⟩
    obtain ⟨b, hb⟩ : ∃ b : ByteArray, b.data.toList = P := ⟨⟨P.toArray⟩, rfl⟩
    subst ha; subst hb
    rw [← size_len] at l1 l2
    rw [← size_len] at l1
    have HF := Lib.hid hF; clear hF
    have HD := Lib.hid (show (a.data.toList ++ pad3 b.data.toList).all isD = true by
      rw [List.all_append, l3, Bool.true_and]; unfold pad3; rw [List.all_append, l4, Bool.true_and, List.all_eq_true]
      intro x hx; rw [(List.mem_replicate.1 hx).2]; rfl)
    obtain ⟨L, hL⟩ : ∃ L, a.data.toList ++ pad3 b.data.toList = L := ⟨_, rfl⟩
    have HV : Hid (valR (some (m, a.data.toList, b.data.toList)) = match valL 0 L with | none => (0, 16) | some n => (if m then -(n : Int) else n, 0)) := by rw [← hL]; rfl
    rw [hL] at HD
    have HL := Lib.hid hL
    clear l3 l4 l5 hL
    go_enter Tryz.func61, Tryz.ntmps61
    go_wp2_with (go_at_call 89; refine (form_some s a b m _ (by omega) HF.out).mono ?_; rintro e w ⟨rfl, rfl⟩)
    go_loop [6] (fun p' => ∃ c : ByteArray, c.size ≤ 3 ∧ pad3 c.data.toList = pad3 b.data.toList ∧ p' = .string c) (fun p' => 3 - Lib.strSize p')
    case atStart => exact ⟨b, l2, rfl, rfl⟩
    case round =>
      obtain ⟨c, hc3, hcp, rfl⟩ := hrel
      by_cases hlt : c.size < 3
      · have hn : pad3 (c ++ ⟨#[48]⟩).data.toList = pad3 b.data.toList := by
          rw [data_app, ← hcp]; exact pad_snoc _ (by rw [← size_len]; exact hlt)
        have HN := Lib.hid hn; clear hn hcp
        go_wp2
        go_round
        case rel => exact ⟨_, by rw [ByteArray.size_append']; show c.size + 1 ≤ 3; omega, HN.out, rfl⟩
        case measure => show 3 - (c ++ ⟨#[48]⟩ : ByteArray).size < 3 - c.size; rw [ByteArray.size_append']; show 3 - (c.size + 1) < _; omega
      · have hall : (a ++ c).data.toList = L := by
          rw [data_app, ← HL.out, ← hcp, pad_full _ (by rw [← size_len]; omega)]
        obtain ⟨t, ht⟩ : ∃ t, a ++ c = t := ⟨_, rfl⟩
        rw [ht] at hall
        have htl : t.size ≤ 4294967283 := by rw [← ht, ByteArray.size_append']; omega
        have HT := Lib.hid hall
        clear hcp hall
        go_wp2_with fail
        go_loop [8, 10] (fun n' i' => ∃ (k n : Nat), k ≤ t.size ∧ n ≤ 268435456 ∧ valL 0 (t.data.toList.take k) = some n ∧ n' = .int .i64 n ∧ i' = .int .i64 k) (fun _ i' => t.size - (RowKit.intOf i').toNat)
        case atStart => exact ⟨0, 0, by omega, by omega, rfl, rfl, rfl⟩
        case round =>
          obtain ⟨k, n, hk, hn, hv, rfl, rfl⟩ := hrel
          by_cases hkl : k < t.size
          · have hD := isD_at t k hkl (by rw [HT.out]; exact HD.out)
            obtain ⟨d, hd⟩ : ∃ d : Nat, t[k].toNat = d + 48 := ⟨t[k].toNat - 48, by omega⟩
            have hst := valL_snoc (t.data.toList.take k) t[k] 0
            rw [← take_succ_b t k hkl, hv] at hst
            have hst2 : valL 0 (t.data.toList.take (k + 1)) = if 268435456 < 10 * n + (t[k].toNat - 48) then none else some (10 * n + (t[k].toNat - 48)) := hst
            rw [show t[k].toNat - 48 = d by omega] at hst2
            have d9 : d ≤ 9 := by omega
            have hdi : (t[k].toNat : Int) = (d : Int) + 48 := by omega
            have HS := Lib.hid hst2
            clear hst hst2 hv hd hD
            by_cases hbig : 268435456 < 10 * n + d
            · have hno := HS.out
              rw [if_pos hbig] at hno
              have hLn : valL 0 L = none := by
                have := valL_none _ (t.data.toList.drop (k + 1)) 0 hno
                rw [List.take_append_drop, HT.out] at this; exact this
              have HLN := Lib.hid hLn
              clear hno hLn
              go_wp2
              go_ret2
              exact ⟨ret_pair (by rw [HV.out, HLN.out]) (by rw [HV.out, HLN.out]), rfl⟩
            · have hyes := HS.out
              rw [if_neg hbig] at hyes
              have HY := Lib.hid hyes
              clear hyes
              go_wp2
              go_round
              case rel => exact ⟨k + 1, 10 * n + d, by omega, by omega, HY.out, by go_num, by go_num⟩
              case measure => simp [RowKit.intOf]; omega
          · have hfin : valL 0 L = some n := by
              rw [List.take_of_length_le (by rw [← size_len]; omega), HT.out] at hv; exact hv
            have HF2 := Lib.hid hfin
            clear hfin hv
            cases m
            all_goals
              go_wp2
              go_ret2
              exact ⟨ret_pair (by rw [HV.out, HF2.out]; rfl) (by rw [HV.out, HF2.out]), rfl⟩
end Go.Proofs.YtnjnfkfmkbnkhaaGreatDoor.Fx

/- sync.Once's Do as the replacer meets it: not yet done, the lock free; the function that it calls by a contract of the caller's. -/
namespace Go.Proofs.YtnjnfkfmkbnkhaaGreatDoor.Qo
open Go.RowKit

theorem disable (w : World) : (callFunc 141 #[]).run Tryz.prog w = .ok (.value (.tuple #[])) w := run_call_mark0 Tryz.func141 (by kernel_rfl) (by kernel_rfl) (by kernel_rfl) .disable (by kernel_rfl) w
theorem enable (w : World) : (callFunc 143 #[]).run Tryz.prog w = .ok (.value (.tuple #[])) w := run_call_mark0 Tryz.func143 (by kernel_rfl) (by kernel_rfl) (by kernel_rfl) .enable (by kernel_rfl) w
theorem acquire (a : Addr) (w : World) : (callFunc 144 #[.pointer (some a)]).run Tryz.prog w = .ok (.value (.tuple #[])) w := run_call_marked Tryz.func144 (by kernel_rfl) (by kernel_rfl) (by kernel_rfl) .acquire (by kernel_rfl) a w
theorem releaseMerge (a : Addr) (w : World) : (callFunc 146 #[.pointer (some a)]).run Tryz.prog w = .ok (.value (.tuple #[])) w := run_call_marked Tryz.func146 (by kernel_rfl) (by kernel_rfl) (by kernel_rfl) .releaseMerge (by kernel_rfl) a w

set_option maxRecDepth 100000 in
/-- '(*sync/atomic.Bool).Store(true)', entered as a deferred call: the cell holds 1. -/
theorem store_deferred (a : Addr) (x : Value) (u : FrameMode) (w : World) (hc : w.cell? a = some x) (hz : w.frozen? a = false) :
    CallsD Tryz.prog 128 #[.pointer (some a), .bool true] u w fun e u' w' => u' = u ∧ (e = .returned (.tuple #[]) ∧ w' = w.drew.setCell a (.int .u32 1)) := by
  have hc' : w.drew.cell? a = some x := by go_simp
  have hz' : w.drew.frozen? a = false := by go_simp
  have hst := run_call_store (P := Tryz.prog) Tryz.func136 (by kernel_rfl) (by kernel_rfl) (by kernel_rfl) (by kernel_rfl) (k := .u32) (y := 1) hc' hz'
  go_enter_d Tryz.func128, Tryz.ntmps128
  go_wp2
  go_region_calls
  all_goals (go_end0; exact ⟨rfl, rfl⟩)

set_option maxRecDepth 100000 in
/-- '(*internal/sync.Mutex).Unlock', the lock held and nobody waiting. -/
theorem unlock_held (a : Addr) (w : World) (hc : w.cell? a = some (.int .i32 1)) (hz : w.frozen? a = false) :
    Calls Tryz.prog 135 #[.pointer (some a)] w fun e w' => e = .returned (.tuple #[]) ∧ w' = w.setCell a (.int .i32 0) := by
  have hd := disable
  have he := enable
  have hr := releaseMerge
  have hadd := run_call_add (P := Tryz.prog) Tryz.func147 (by kernel_rfl) (by kernel_rfl) (by kernel_rfl) .i32 (by kernel_rfl) (y := -1) (s := 0) hc hz (by simp [go_sem]; rfl)
  have hcv := run_convert_to_unsafe (P := Tryz.prog) (src := 190) (dst := 119) Tryz.underlying190 Tryz.underlying119 (by kernel_rfl) hc
  go_enter Tryz.func135, Tryz.ntmps135
  go_wp2
  go_end0
  exact ⟨rfl, rfl⟩

/-- '(*sync.Mutex).Unlock', entered as a deferred call. -/
theorem unlock_deferred (a : Addr) (u : FrameMode) (w : World) (hc : w.cell? a = some (.int .i32 1)) (hz : w.frozen? a = false) :
    CallsD Tryz.prog 127 #[.pointer (some a)] u w fun e u' w' => u' = u ∧ (e = .returned (.tuple #[]) ∧ w' = w.setCell a (.int .i32 0)) := by
  go_enter_d Tryz.func127, Tryz.ntmps127
  go_wp2_with (go_at_call 135; refine (unlock_held a _ hc hz).mono ?_; rintro e w' ⟨rfl, rfl⟩)
  go_end0
  exact ⟨rfl, rfl⟩

set_option maxRecDepth 100000 in
/-- '(*internal/sync.Mutex).Lock', the lock free. -/
theorem lock_inner (a : Addr) (w : World) (hc : w.cell? a = some (.int .i32 0)) (hz : w.frozen? a = false) :
    Calls Tryz.prog 134 #[.pointer (some a)] w fun e w' => e = .returned (.tuple #[]) ∧ w' = w.setCell a (.int .i32 1) := by
  have hd := disable
  have he := enable
  have ha := acquire
  have hcas := run_call_cas_hit (P := Tryz.prog) Tryz.func142 (by kernel_rfl) (by kernel_rfl) (by kernel_rfl) .i32 (by kernel_rfl) (y := 1) hc hz
  have hc' : (w.setCell a (.int .i32 1)).cell? a = some (.int .i32 1) := World.cell?_setCell_same w a _ hc
  have hcv := run_convert_to_unsafe (P := Tryz.prog) (src := 190) (dst := 119) Tryz.underlying190 Tryz.underlying119 (by kernel_rfl) hc'
  go_enter Tryz.func134, Tryz.ntmps134
  go_wp2
  first | go_end0 | (simp only [Exit.inBlock, Exit.then]; refine bodyPost_ret (results_none rfl _ _ _) rfl ?_) | refine bodyPost_ret (results_none rfl _ _ _) rfl ?_
  exact ⟨rfl, rfl⟩

/-- '(*sync.Mutex).Lock', the lock free. -/
theorem lock_free (a : Addr) (w : World) (hc : w.cell? a = some (.int .i32 0)) (hz : w.frozen? a = false) :
    Calls Tryz.prog 126 #[.pointer (some a)] w fun e w' => e = .returned (.tuple #[]) ∧ w' = w.setCell a (.int .i32 1) := by
  go_enter Tryz.func126, Tryz.ntmps126
  go_wp2_with (go_at_call 134; refine (lock_inner a _ hc hz).mono ?_; rintro e w' ⟨rfl, rfl⟩)
  go_end0
  exact ⟨rfl, rfl⟩

/-- What Do leaves: the function's own world, the once done, the lock free. -/
def DoneOf (b : Nat) (Q : World → Prop) (w' : World) : Prop := ∃ wq, Q wq ∧ w' = (wq.drew.setCell ⟨b, 0, none⟩ (.int .u32 1)).setCell ⟨b, 1, none⟩ (.int .i32 0)

set_option maxRecDepth 100000 in
set_option maxHeartbeats 1600000 in
theorem slow_any (b : Nat) (r : Value) (w : World) (Q : World → Prop)
    (h0 : w.cell? ⟨b, 0, none⟩ = some (.int .u32 0)) (h1 : w.cell? ⟨b, 1, none⟩ = some (.int .i32 0)) (f0 : w.frozen? ⟨b, 0, none⟩ = false) (f1 : w.frozen? ⟨b, 1, none⟩ = false)
    (hf : Calls Tryz.prog 109 #[r] (w.setCell ⟨b, 1, none⟩ (.int .i32 1)) fun e w' => e = .returned (.tuple #[]) ∧ Q w')
    (hQ : ∀ w', Q w' → w'.cell? ⟨b, 0, none⟩ = some (.int .u32 0) ∧ w'.cell? ⟨b, 1, none⟩ = some (.int .i32 1) ∧ w'.frozen? ⟨b, 0, none⟩ = false ∧ w'.frozen? ⟨b, 1, none⟩ = false) :
    Calls Tryz.prog 119 #[.pointer (some ⟨b, 0, none⟩), .func (.func 109) #[r] #[]] w fun e w' => e = .returned (.tuple #[]) ∧ DoneOf b Q w' := by
  have hl := run_call_load (P := Tryz.prog) Tryz.func125 (by kernel_rfl) (by kernel_rfl) (by kernel_rfl) .u32 (by kernel_rfl) (w := w.setCell ⟨b, 1, none⟩ (.int .i32 1)) (a := ⟨b, 0, none⟩) (x := 0) ((World.cell?_setCell_other _ ⟨b, 1, none⟩ ⟨b, 0, none⟩ _ (by simp)).trans h0)
  have hnot : ∀ (x : Bool) (w : World), (Op.unary .not (.bool x)).run Tryz.prog w = .ok (.bool (!x)) w := fun _ _ => rfl
  have HQ := Lib.hid hQ
  clear hQ
  go_enter_defers Tryz.func119, Tryz.ntmps119
  go_wp2_with (first | (go_at_call 126; refine (lock_free ⟨b, 1, none⟩ _ (by go_simp) (by go_simp)).mono ?_; rintro e w' ⟨rfl, rfl⟩) | (go_at_call 118; go_in))
  refine hf.mono ?_
  rintro e w' ⟨rfl, hq⟩
  obtain ⟨q0, q1, g0, g1⟩ := HQ.out w' hq
  have HQ2 := Lib.hid hq
  clear hq hf
  go_wp2
  -- the door: two deferred calls, the last laid first
  refine leaves_cons (f := 128) (args := #[.pointer (some ⟨b, 0, none⟩), .bool true]) (by simp) (by simp [go_sem]) ?_
  refine (store_deferred ⟨b, 0, none⟩ (.int .u32 0) .returning _ q0 g0).mono ?_
  rintro e u' w'' ⟨rfl, rfl, rfl⟩
  refine leaves_cons (f := 127) (args := #[.pointer (some ⟨b, 1, none⟩)]) (by simp [settle]) (by simp [go_sem]) ?_
  refine (unlock_deferred ⟨b, 1, none⟩ _ _ ?_ (by simp [g1])).mono ?_
  · refine (World.cell?_setCell_other _ ⟨b, 0, none⟩ ⟨b, 1, none⟩ _ (by simp)).trans ?_
    rw [World.cell?_drew]
    exact q1
  rintro e u' w'' ⟨rfl, rfl, rfl⟩
  simp [Leaves, settle, results, Tryz.results119]
  exact ⟨_, HQ2.out, rfl⟩

set_option maxRecDepth 100000 in
set_option maxHeartbeats 1600000 in
/-- '(*sync.Once).Do', not yet done, the lock free. -/
theorem do_first (b : Nat) (r : Value) (w : World) (Q : World → Prop)
    (h0 : w.cell? ⟨b, 0, none⟩ = some (.int .u32 0)) (h1 : w.cell? ⟨b, 1, none⟩ = some (.int .i32 0)) (f0 : w.frozen? ⟨b, 0, none⟩ = false) (f1 : w.frozen? ⟨b, 1, none⟩ = false)
    (hf : Calls Tryz.prog 109 #[r] (w.setCell ⟨b, 1, none⟩ (.int .i32 1)) fun e w' => e = .returned (.tuple #[]) ∧ Q w')
    (hQ : ∀ w', Q w' → w'.cell? ⟨b, 0, none⟩ = some (.int .u32 0) ∧ w'.cell? ⟨b, 1, none⟩ = some (.int .i32 1) ∧ w'.frozen? ⟨b, 0, none⟩ = false ∧ w'.frozen? ⟨b, 1, none⟩ = false) :
    Calls Tryz.prog 108 #[.pointer (some ⟨b, 0, none⟩), .func (.func 109) #[r] #[]] w fun e w' => e = .returned (.tuple #[]) ∧ DoneOf b Q w' := by
  have hs := slow_any b r w Q h0 h1 f0 f1 hf hQ
  clear hf hQ
  have hl := run_call_load (P := Tryz.prog) Tryz.func125 (by kernel_rfl) (by kernel_rfl) (by kernel_rfl) .u32 (by kernel_rfl) h0
  have hnot : ∀ (x : Bool) (w : World), (Op.unary .not (.bool x)).run Tryz.prog w = .ok (.bool (!x)) w := fun _ _ => rfl
  go_enter Tryz.func108, Tryz.ntmps108
  go_wp2_with (first | (go_at_call 119; refine hs.mono ?_; rintro e w' ⟨rfl, hq⟩) | (go_at_call 118; go_in))
  go_end0
  exact ⟨rfl, hq⟩
end Go.Proofs.YtnjnfkfmkbnkhaaGreatDoor.Qo

/- What the replacer's build lays at the four texts of Quote: a byteStringReplacer. -/
namespace Go.Proofs.YtnjnfkfmkbnkhaaGreatDoor.Qo
open Go.RowKit Go.Lib Fx

/-- The cells of a byteStringReplacer. -/
def repC (s34 s92 v : Value) : Array Value := (((Array.replicate 256 (.slice none 0 0)).setIfInBounds 34 s34).setIfInBounds 92 s92).push v
theorem repC_size (a b c : Value) : (repC a b c).size = 257 := by simp [repC]
theorem build_run (a : Addr) (w : World) : (Instr.build 169 #[(1, .slice (some a) 0 2)]).run Tryz.prog w = .ok (.agg (repC (.slice none 0 0) (.slice none 0 0) (.slice (some a) 0 2))) w := by kernel_rfl
theorem zero_run (w : World) : (zeroValue 169).run Tryz.prog w = .ok (.agg (repC (.slice none 0 0) (.slice none 0 0) (.slice none 0 0))) w := by kernel_rfl
theorem rep_info : (Tryz.prog.info? 169).map (·.size) = some 257 := by kernel_rfl
theorem make2 (w : World) : (Instr.makeSlice 37 (.int .i64 0) (.int .i64 2)).run Tryz.prog w = .ok (.slice (some ⟨w.heap.size, 0, none⟩) 0 2) (w.alloc (.cells #[.string ⟨#[]⟩, .string ⟨#[]⟩] 9)) := by kernel_rfl
theorem repC_cells (a b c : Value) (ha : a.oneCell' = true) (hb : b.oneCell' = true) (hc : c.oneCell' = true) : (repC a b c).all (·.oneCell') = true := by
  rw [Array.all_eq_true]
  intro i hi
  have hi' : i < ((((Array.replicate 256 (Value.slice none 0 0)).setIfInBounds 34 a).setIfInBounds 92 b).push c).size := hi
  show ((((Array.replicate 256 (Value.slice none 0 0)).setIfInBounds 34 a).setIfInBounds 92 b).push c)[i].oneCell' = true
  rw [Array.getElem_push]
  split
  · rw [Array.getElem_setIfInBounds]
    split
    · exact hb
    · rw [Array.getElem_setIfInBounds]
      split
      · exact ha
      · rw [Array.getElem_replicate]; rfl
      · simp at *; omega
    · simp at *; omega
  · exact hc
theorem repC_256 (a b c c' : Value) : (repC a b c).setIfInBounds 256 c' = repC a b c' := by kernel_rfl
theorem repC_34 (a b c a' : Value) : (repC a b c).setIfInBounds 34 a' = repC a' b c := by kernel_rfl
theorem repC_92 (a b c b' : Value) : (repC a b c).setIfInBounds 92 b' = repC a b' c := by kernel_rfl
theorem repC_at256 (a b c : Value) : (repC a b c)[256]? = some c := by kernel_rfl
theorem repC_at34 (a b c : Value) : (repC a b c)[34]? = some a := by kernel_rfl
theorem repC_at92 (a b c : Value) : (repC a b c)[92]? = some b := by kernel_rfl
theorem repC_else (a b c : Value) (i : Nat) (hi : i < 256) (h1 : i ≠ 34) (h2 : i ≠ 92) : (repC a b c)[i]? = some (.slice none 0 0) := by
  have hi' : i < ((((Array.replicate 256 (Value.slice none 0 0)).setIfInBounds 34 a).setIfInBounds 92 b).push c).size := by simp; omega
  show ((((Array.replicate 256 (Value.slice none 0 0)).setIfInBounds 34 a).setIfInBounds 92 b).push c)[i]? = _
  rw [Array.getElem?_eq_getElem hi', Array.getElem_push_lt (by simpa using hi), Array.getElem_setIfInBounds_ne (by simpa using hi) (fun e => h2 e.symm), Array.getElem_setIfInBounds_ne (by simpa using hi) (fun e => h1 e.symm), Array.getElem_replicate]

/-- A slice of bytes in a block of its own. -/
def BytesAt (w : World) (s : Value) (l : List UInt8) : Prop :=
  ∃ (p c : Nat) (C : Array Value) (fz : Nat × Nat), s = .slice (some ⟨p, 0, none⟩) l.length c ∧ w.heap[p]? = some (.cells C 5 fz) ∧ ∀ (j : Nat) (b : UInt8), l[j]? = some b → C[j]? = some (Value.int .u8 b.toNat)
theorem BytesAt.kept {w w' : World} {s : Value} {l : List UInt8} (h : BytesAt w s l) (hk : ∀ (p : Nat) (C : Array Value) (fz : Nat × Nat), w.heap[p]? = some (.cells C 5 fz) → w'.heap[p]? = some (.cells C 5 fz)) : BytesAt w' s l := by
  obtain ⟨p, c, C, fz, hs, hh, hc⟩ := h
  exact ⟨p, c, C, fz, hs, hk p C fz hh, hc⟩
theorem BytesAt.ext {w w' : World} {s : Value} {l : List UInt8} (h : BytesAt w s l) (x : Ext w w') : BytesAt w' s l :=
  h.kept fun p _ _ hp => (x.block p (Array.getElem?_eq_some_iff.1 hp).1).trans hp
/-- A byteStringReplacer whose first texts are xs. -/
structure RB (B k : Nat) (s34 s92 v : Value) (xs : List Value) (w : World) : Prop where
  blk : w.heap[k]? = some (.cells (repC s34 s92 v) 169 (0, 0))
  own : w.ownsRow B 9 1 v xs.length xs

theorem ownsRow_type {w : World} {B : Nat} {e : TypeId} {size : Nat} {v : Value} {n : Nat} {xs : List Value} (h : w.ownsRow B e size v n xs) : ∀ g, v.ownBlock = some g → ∃ c fz, w.heap[g]? = some (.cells c e fz) := ownsRow_kind h
theorem RB.ne {B k : Nat} {s34 s92 v : Value} {xs : List Value} {w : World} (h : RB B k s34 s92 v xs w) : v.ownBlock ≠ some k := by
  have hb := h.blk
  rcases h.own.2 with ⟨rfl, _⟩ | ⟨g', cap, cur, rfl, _, hh, _⟩
  · simp [Value.ownBlock]
  · intro he
    have e : g' = k := by simpa [Value.ownBlock] using he
    subst e
    rw [hh] at hb
    injection hb with hb
    injection hb with _ ht
    exact absurd ht (by decide)
theorem cell_of_blk {w : World} {k : Nat} {C : Array Value} {T : TypeId} {fz : Nat × Nat} (h : w.heap[k]? = some (.cells C T fz)) (i : Nat) : w.cell? ⟨k, i, none⟩ = C[i]? := by rw [Lib.cell_of_heap h]
theorem frozen_of_blk {w : World} {k : Nat} {C : Array Value} {T : TypeId} (h : w.heap[k]? = some (.cells C T (0, 0))) (i : Nat) : w.frozen? ⟨k, i, none⟩ = false := Lib.frozen_of_heap h i
theorem info_str : (Tryz.prog.info? 9).map (fun i => (i.zero, i.size, i.bytes)) = some (some (.string ⟨#[]⟩), 1, 16) := by kernel_rfl
def strsV (l : List (List UInt8)) : List Value := l.map fun s => .string ⟨s.toArray⟩

/-- The replacer of Quote at block k. -/
def RepAt (w : World) (k : Nat) : Prop := ∃ B s34 s92 v, RB B k s34 s92 v (strsV [[34], [92]]) w ∧ BytesAt w s34 [92, 34] ∧ BytesAt w s92 [92, 92]
/-- What a round's two stores and the new row leave. -/
theorem round_world {B k q cp n i : Nat} {C : Array Value} {T : TypeId} {s : Value} {xs : List Value} {w2 : World} (O : Obj) (hb : w2.heap[k]? = some (.cells C T (0, 0))) (hT : T ≠ 9)
    (hown : w2.ownsRow B 9 1 (.slice (some ⟨q, 0, none⟩) n cp) n xs) (h0 : 0 < n) :
    ((((w2.setCell ⟨k, 256, none⟩ (.slice (some ⟨q, 0, none⟩) n cp)).setCell ⟨k, i, none⟩ s).alloc O).drew).heap[k]? = some (.cells ((C.setIfInBounds 256 (.slice (some ⟨q, 0, none⟩) n cp)).setIfInBounds i s) T (0, 0)) ∧
    ((((w2.setCell ⟨k, 256, none⟩ (.slice (some ⟨q, 0, none⟩) n cp)).setCell ⟨k, i, none⟩ s).alloc O).drew).ownsRow B 9 1 (.slice (some ⟨q, 0, none⟩) n cp) n xs ∧
    ((((w2.setCell ⟨k, 256, none⟩ (.slice (some ⟨q, 0, none⟩) n cp)).setCell ⟨k, i, none⟩ s).alloc O).drew).heap[w2.heap.size]? = some O ∧
    ∀ p, p ≠ k → p < w2.heap.size → ((((w2.setCell ⟨k, 256, none⟩ (.slice (some ⟨q, 0, none⟩) n cp)).setCell ⟨k, i, none⟩ s).alloc O).drew).heap[p]? = w2.heap[p]? := by
  have hk := (Array.getElem?_eq_some_iff.1 hb).1
  have hne : (Value.slice (some ⟨q, 0, none⟩) n cp).ownBlock ≠ some k := by
    rcases hown.2 with ⟨h1, _⟩ | ⟨g', cap, cur, h1, _, hh, _⟩
    · cases h1
    · intro he
      have e1 : q = k := by simpa [Value.ownBlock] using he
      have e2 : q = g' := by injection h1 with h1; injection h1 with h1; injection h1
      subst e2; subst e1
      rw [hh] at hb
      injection hb with hb
      injection hb with _ ht
      exact hT ht.symm
  refine ⟨?_, ?_, ?_, ?_⟩
  · rw [heap_drew, Lib.alloc_old _ _ _ (by simpa [World.setCell] using hk), heap_setCell_same _ k i _ T s (heap_setCell_same w2 k 256 C T _ hb)]
  · exact (ownsRow_setCell_other (a := ⟨k, i, none⟩) (ownsRow_setCell_other (a := ⟨k, 256, none⟩) hown hne _) hne _).alloc _
  · rw [heap_drew]
    have h := heap_alloc_new ((w2.setCell ⟨k, 256, none⟩ (.slice (some ⟨q, 0, none⟩) n cp)).setCell ⟨k, i, none⟩ s) O
    have e : ((w2.setCell ⟨k, 256, none⟩ (.slice (some ⟨q, 0, none⟩) n cp)).setCell ⟨k, i, none⟩ s).heap.size = w2.heap.size := by simp [World.setCell]
    rw [e] at h; exact h
  · intro p hp hlt
    rw [heap_drew, Lib.alloc_old _ _ _ (by simpa [World.setCell] using hlt), heap_setCell_other _ ⟨k, i, none⟩ p _ hp, heap_setCell_other _ ⟨k, 256, none⟩ p _ hp]
theorem bytesRow_at (s : ByteArray) (cap j : Nat) (b : UInt8) (h : s.data.toList[j]? = some b) : (bytesRow s cap)[j]? = some (Value.int .u8 b.toNat) := by
  unfold bytesRow
  have hj : j < s.data.size := by
    have := (List.getElem?_eq_some_iff.1 h).1
    simpa using this
  rw [Array.getElem?_append_left (by simpa using hj)]
  rw [Array.getElem?_map]
  have : s.data[j]? = some b := by simpa using h
  rw [this]; rfl

set_option maxHeartbeats 1600000 in
set_option maxRecDepth 100000 in
theorem build_any (rb g cap : Nat) (w : World) (h4 : w.cell? ⟨rb, 4, none⟩ = some (.slice (some ⟨g, 0, none⟩) 4 cap))
    (g0 : w.cell? ⟨g, 0, none⟩ = some (.string ⟨#[92]⟩)) (g1 : w.cell? ⟨g, 1, none⟩ = some (.string ⟨#[92, 92]⟩)) (g2 : w.cell? ⟨g, 2, none⟩ = some (.string ⟨#[34]⟩)) (g3 : w.cell? ⟨g, 3, none⟩ = some (.string ⟨#[92, 34]⟩)) :
    Calls Tryz.prog 120 #[.pointer (some ⟨rb, 0, none⟩)] w fun e w' => (∃ k, e = .returned (.iface 170 (.pointer (some ⟨k, 0, none⟩))) ∧ w.heap.size ≤ k ∧ RepAt w' k) ∧ Ext w w' := by
  have hmk := make2
  have hbr := build_run
  have hzr := zero_run
  have hst : ∀ v : Value, v.oneCell' = true → (storeCells ⟨w.heap.size + 1, 0, none⟩ ((repC (.slice none 0 0) (.slice none 0 0) (.slice none 0 0)).toList.set 256 v)).run Tryz.prog
      ((w.alloc (.cells #[.string ⟨#[]⟩, .string ⟨#[]⟩] 9)).alloc (.cells (repC (.slice none 0 0) (.slice none 0 0) (.slice none 0 0)) 169)) = .ok ()
      ((w.alloc (.cells #[.string ⟨#[]⟩, .string ⟨#[]⟩] 9)).alloc (.cells (repC (.slice none 0 0) (.slice none 0 0) v) 169)) := fun v hv => by
    have h := run_storeCells_new (P := Tryz.prog) (w.alloc (.cells #[.string ⟨#[]⟩, .string ⟨#[]⟩] 9)) 169 (repC (.slice none 0 0) (.slice none 0 0) (.slice none 0 0)) (repC (.slice none 0 0) (.slice none 0 0) v) (by rw [rep_info, repC_size]) (by rw [repC_size, repC_size]) (repC_cells _ _ _ rfl rfl hv)
    rw [World.size_alloc] at h
    exact h
  have hst1 := hst (.slice (some ⟨w.heap.size, 0, none⟩) 0 2) rfl
  clear hst
  obtain ⟨i0, hi, hz0, hz1, hz2⟩ := info_parts info_str
  go_enter Tryz.func120, Tryz.ntmps120
  go_wp2_with fail
  refine wp_loop_rounds 3 ?_
  rw [rounds_succ]
  go_wp2_with fail
  rw [rounds_succ]
  go_wp2_with fail
  rw [rounds_succ]
  go_wp2_with fail
  go_loopw [12] (fun i' wr => (∃ v, i' = .int .i64 2 ∧ RB w.heap.size (w.heap.size + 1) (.slice none 0 0) (.slice none 0 0) v [] wr ∧ Ext w wr) ∨
      (∃ s34 v, i' = .int .i64 0 ∧ RB w.heap.size (w.heap.size + 1) s34 (.slice none 0 0) v (strsV [[34]]) wr ∧ BytesAt wr s34 [92, 34] ∧ Ext w wr) ∨
      (∃ s34 s92 v, i' = .int .i64 (-2) ∧ RB w.heap.size (w.heap.size + 1) s34 s92 v (strsV [[34], [92]]) wr ∧ BytesAt wr s34 [92, 34] ∧ BytesAt wr s92 [92, 92] ∧ Ext w wr))
    (fun i' _ => (RowKit.intOf i' + 2).toNat)
  case atStart =>
    refine .inl ⟨.slice (some ⟨w.heap.size, 0, none⟩) 0 2, rfl, ⟨?_, ?_⟩, ((Ext.refl _).alloc _).alloc _⟩
    · have h := heap_alloc_new (w.alloc (.cells #[.string ⟨#[]⟩, .string ⟨#[]⟩] 9)) (.cells (repC (.slice none 0 0) (.slice none 0 0) (.slice (some ⟨w.heap.size, 0, none⟩) 0 2)) 169)
      rw [World.size_alloc] at h
      exact h
    · refine ⟨rfl, .inr ⟨w.heap.size, 2, #[.string ⟨#[]⟩, .string ⟨#[]⟩], rfl, Nat.le_refl _, ?_, ?_⟩⟩
      · exact heap_alloc2_old w _ _
      · simp [maxLen]
  case round =>
    clear hst1 hmk hbr hzr
    rcases hrel with ⟨v, rfl, hr, hx⟩ | ⟨s34, v, rfl, hr, hb34, hx⟩ | ⟨s34, s92, v, rfl, hr, hb34, hb92, hx⟩
    · have r2 := hx.cell g2; have r3 := hx.cell g3
      have k34 := (cell_of_blk hr.blk 34).trans (repC_at34 _ _ _)
      have k256 := (cell_of_blk hr.blk 256).trans (repC_at256 _ _ _)
      have hsz := (Array.getElem?_eq_some_iff.1 hr.blk).1
      have hcb : (convert 54 9 (.slice (some ⟨wr.heap.size, 0, none⟩) 1 1)).run Tryz.prog (wr.alloc (.cells #[.int .u8 34] 5)) = .ok (.string ⟨#[34]⟩) (wr.alloc (.cells #[.int .u8 34] 5)) := run_convert_bytes_back (P := Tryz.prog) (wr.alloc (.cells #[.int .u8 34] 5)) 54 9 5 ⟨wr.heap.size, 0, none⟩ 1 [34] Tryz.underlying54 Tryz.underlying5 Tryz.underlying9 (fun j hj => by
        simp at hj; subst hj; simp [Addr.add])
      have e34 : ((⟨#[34]⟩ : ByteArray)[0]'(by decide)).toNat = 34 := rfl
      have hen := fun w => Lib.run_eql_slice_nil (P := Tryz.prog) w 54 5 none 0 0 0 0 Tryz.underlying54
      have hne := hr.ne
      have hown := hr.own
      have HB := Lib.hid hr.blk
      have hxs := hx.size
      clear hr
      go_wp2_with (at_builtin; refine wpList_append_own _ rfl _ _ 37 rfl w.heap.size 9 i0 (.string ⟨#[]⟩) 1 16 Tryz.underlying37 hi hz0 hz1 hz2 rfl (by decide) _ _ _ rfl ((hown.alloc _).alloc _) ⟨wr.heap.size + 1, 0, none⟩ 1 1 [.string ⟨#[34]⟩] rfl rfl ?c1 ?c2 ?c3 ?c4 ?c5 ?_)
      case c1 =>
        intro j u hj
        match j, hj with
        | 0, hj => simp at hj; subst hj; simp [Addr.add]
      case c2 => intro u hu; simp at hu; subst hu; rfl
      case c3 => unfold maxLen; simp [strsV]
      case c4 => simp [strsV]
      case c5 => simp; omega
      intro v' w2 hown' hgrow _
      have hb2 : w2.heap[w.heap.size + 1]? = some (.cells (repC (.slice none 0 0) (.slice none 0 0) v) 169 (0, 0)) := by
        rw [hgrow.block _ (by simp; omega) (fun e => hne e.symm), Lib.alloc_old _ _ _ (by simp; omega), Lib.alloc_old _ _ _ hsz]
        exact HB.out
      have hx2 : Ext w w2 := Below.grown ((hx.alloc _).alloc _) hgrow (by simp; omega) (fun k hk => (hown.lt k hk).1)
      have d34 := (cell_of_blk hb2 34).trans (repC_at34 _ _ _)
      have d256 := (cell_of_blk hb2 256).trans (repC_at256 _ _ _)
      have f34 := frozen_of_blk hb2 34
      have f256 := frozen_of_blk hb2 256
      have hlt2 := (Array.getElem?_eq_some_iff.1 hb2).1
      obtain ⟨q, cp, rfl⟩ : ∃ q cp, v' = .slice (some ⟨q, 0, none⟩) 1 cp := by
        rcases hown'.2 with ⟨_, h0⟩ | ⟨q, cp, cur, hv, _⟩
        · simp [strsV] at h0
        · exact ⟨q, cp, by simpa [strsV] using hv⟩
      have HO := Lib.hid hown'
      have HB2 := Lib.hid hb2
      have HG := Lib.hid hgrow
      clear hown' hb2 hgrow
      have hsb := fun w => run_bytes_of_string (P := Tryz.prog) w 9 54 5 ⟨#[92, 34]⟩ Tryz.underlying9 Tryz.underlying54 Tryz.underlying5
      go_wp2_with fail
      go_roundw
      case rel =>
        obtain ⟨q1, q2, q3, q4⟩ := round_world (i := 34) (s := .slice (some ⟨w2.heap.size, 0, none⟩) 2 (grownCap (w2.setCell ⟨w.heap.size + 1, 256, none⟩ (.slice (some ⟨q, 0, none⟩) 1 cp)) 2 0 5)) _ HB2.out (by decide) HO.out (by decide)
        rw [repC_256, repC_34] at q1
        exact .inr (.inl ⟨_, _, rfl, ⟨q1, q2⟩, ⟨_, _, _, _, rfl, q3, fun j b hb => bytesRow_at _ _ _ _ hb⟩, (((hx2.setCell (p := ⟨w.heap.size + 1, 256, none⟩) (by simp) _).setCell (p := ⟨w.heap.size + 1, 34, none⟩) (by simp) _).alloc _).drew⟩)
      case measure => simp [RowKit.intOf]
    · have r2 := hx.cell g0; have r3 := hx.cell g1
      have k34 := (cell_of_blk hr.blk 92).trans (repC_at92 _ _ _)
      have k256 := (cell_of_blk hr.blk 256).trans (repC_at256 _ _ _)
      have hsz := (Array.getElem?_eq_some_iff.1 hr.blk).1
      have hcb : (convert 54 9 (.slice (some ⟨wr.heap.size, 0, none⟩) 1 1)).run Tryz.prog (wr.alloc (.cells #[.int .u8 92] 5)) = .ok (.string ⟨#[92]⟩) (wr.alloc (.cells #[.int .u8 92] 5)) := run_convert_bytes_back (P := Tryz.prog) (wr.alloc (.cells #[.int .u8 92] 5)) 54 9 5 ⟨wr.heap.size, 0, none⟩ 1 [92] Tryz.underlying54 Tryz.underlying5 Tryz.underlying9 (fun j hj => by
        simp at hj; subst hj; simp [Addr.add])
      have e34 : ((⟨#[92]⟩ : ByteArray)[0]'(by decide)).toNat = 92 := rfl
      have hen := fun w => Lib.run_eql_slice_nil (P := Tryz.prog) w 54 5 none 0 0 0 0 Tryz.underlying54
      have hne := hr.ne
      have hown := hr.own
      have HOW := Lib.hid hr.own
      have HB34 := Lib.hid hb34
      clear hb34
      have HB := Lib.hid hr.blk
      have hxs := hx.size
      clear hr
      go_wp2_with (at_builtin; refine wpList_append_own _ rfl _ _ 37 rfl w.heap.size 9 i0 (.string ⟨#[]⟩) 1 16 Tryz.underlying37 hi hz0 hz1 hz2 rfl (by decide) _ _ _ rfl ((hown.alloc _).alloc _) ⟨wr.heap.size + 1, 0, none⟩ 1 1 [.string ⟨#[92]⟩] rfl rfl ?c1 ?c2 ?c3 ?c4 ?c5 ?_)
      case c1 =>
        intro j u hj
        match j, hj with
        | 0, hj => simp at hj; subst hj; simp [Addr.add]
      case c2 => intro u hu; simp at hu; subst hu; rfl
      case c3 => unfold maxLen; simp [strsV]
      case c4 => simp [strsV]
      case c5 => simp; omega
      intro v' w2 hown' hgrow _
      have hb2 : w2.heap[w.heap.size + 1]? = some (.cells (repC s34 (.slice none 0 0) v) 169 (0, 0)) := by
        rw [hgrow.block _ (by simp; omega) (fun e => hne e.symm), Lib.alloc_old _ _ _ (by simp; omega), Lib.alloc_old _ _ _ hsz]
        exact HB.out
      have hx2 : Ext w w2 := Below.grown ((hx.alloc _).alloc _) hgrow (by simp; omega) (fun k hk => (hown.lt k hk).1)
      have d34 := (cell_of_blk hb2 92).trans (repC_at92 _ _ _)
      have d256 := (cell_of_blk hb2 256).trans (repC_at256 _ _ _)
      have f34 := frozen_of_blk hb2 92
      have f256 := frozen_of_blk hb2 256
      have hlt2 := (Array.getElem?_eq_some_iff.1 hb2).1
      obtain ⟨q, cp, rfl⟩ : ∃ q cp, v' = .slice (some ⟨q, 0, none⟩) 2 cp := by
        rcases hown'.2 with ⟨_, h0⟩ | ⟨q, cp, cur, hv, _⟩
        · simp [strsV] at h0
        · exact ⟨q, cp, by simpa [strsV] using hv⟩
      have HO := Lib.hid hown'
      have HB2 := Lib.hid hb2
      have HG := Lib.hid hgrow
      clear hown' hb2 hgrow
      have hsb := fun w => run_bytes_of_string (P := Tryz.prog) w 9 54 5 ⟨#[92, 92]⟩ Tryz.underlying9 Tryz.underlying54 Tryz.underlying5
      go_wp2_with fail
      go_roundw
      case rel =>
        obtain ⟨q1, q2, q3, q4⟩ := round_world (i := 92) (s := .slice (some ⟨w2.heap.size, 0, none⟩) 2 (grownCap (w2.setCell ⟨w.heap.size + 1, 256, none⟩ (.slice (some ⟨q, 0, none⟩) 2 cp)) 2 0 5)) _ HB2.out (by decide) HO.out (by decide)
        rw [repC_256, repC_92] at q1
        refine .inr (.inr ⟨_, _, _, rfl, ⟨q1, q2⟩, ?_, ⟨_, _, _, _, rfl, q3, fun j b hb => bytesRow_at _ _ _ _ hb⟩, (((hx2.setCell (p := ⟨w.heap.size + 1, 256, none⟩) (by simp) _).setCell (p := ⟨w.heap.size + 1, 92, none⟩) (by simp) _).alloc _).drew⟩)
        exact HB34.out.kept fun p C fz hp => by
          have hlp := (Array.getElem?_eq_some_iff.1 hp).1
          have e1 : w2.heap[p]? = wr.heap[p]? := by
            rw [HG.out.block p (by simp; omega) (fun e => ?_), Lib.alloc_old _ _ _ (by simp; omega), Lib.alloc_old _ _ _ hlp]
            obtain ⟨c, f, hc⟩ := ownsRow_type HOW.out _ e.symm
            rw [hp] at hc
            injection hc with hc
            injection hc with _ ht
            exact absurd ht (by decide)
          rw [q4 p (fun e => ?_) (by have := HG.out.size; simp at this; omega), e1]
          · exact hp
          · subst e
            rw [HB.out] at hp
            injection hp with hp
            injection hp with _ ht
            exact absurd ht (by decide)
      case measure => simp [RowKit.intOf]
    · have HR := Lib.hid (show RepAt wr (w.heap.size + 1) from ⟨_, _, _, _, hr, hb34, hb92⟩)
      clear hr hb34 hb92
      go_wp2_with fail
      go_ret
      exact ⟨⟨_, rfl, by omega, HR.out⟩, hx⟩
end Go.Proofs.YtnjnfkfmkbnkhaaGreatDoor.Qo
