/- Packed texts: FixForm, LexWalkA, AttMem, AttPorts -/
import Derived.Test.YtjaeedbjknejdaaGreatDoorPt05
import Derived.Handy
import Derived.Lib.Builder
set_option linter.unusedVariables false
set_option linter.unusedSimpArgs false
set_option maxHeartbeats 16000000
set_option maxRecDepth 100000
namespace Go.Proofs.YtjaeedbjknejdaaGreatDoor.Fx
open Go.RowKit Go.Sort Go.Lib Go.Shelf
theorem tl_nil (a : ByteArray) (h : a.size = 0) : a.toList = [] /\ a.toList.isEmpty = true /\ a.data.toList = [] := by
  have e : a.data.toList = [] := List.eq_nil_of_length_eq_zero (by rw [<- size_len]; exact h)
  rw [ByteArray.toList_eq, e]; exact ⟨rfl, rfl, rfl⟩
theorem tl_cons (a : ByteArray) (h : 0 < a.size) : ¬ a.toList = [] /\ a.toList.isEmpty = false /\ a.data.toList ≠ [] := by
  have e : a.data.toList ≠ [] := fun e => by have := size_len a; rw [e] at this; simp only [List.length_nil] at this; omega
  rw [ByteArray.toList_eq]; exact ⟨e, by simpa using e, e⟩
theorem ret_val {a b : Value} (h : a = b) : Ending.returned a = .returned b := by rw [h]
end Go.Proofs.YtjaeedbjknejdaaGreatDoor.Fx

namespace Go.Proofs.YtjaeedbjknejdaaGreatDoor.Lx
open Go.RowKit Go.Sort Go.Lib Go.Shelf Fx
theorem letter_any (b : UInt8) (w : World) : Calls Tryz.prog 175 #[.int .u8 b.toNat] w fun e w' => e = .returned (.bool (isL b)) /\ w = w' := by
  go_enter Tryz.func175, Tryz.ntmps175
  go_wp2
  all_goals
    go_ret
    exact ⟨ret_bool (by rw [Bool.eq_iff_iff]; unfold isL; simp only [Bool.or_eq_true, decide_eq_true_eq, beq_iff_eq, true_iff]; omega), rfl⟩
theorem letterR_any (b : UInt8) (w : World) : Calls Tryz.prog 193 #[.int .u8 b.toNat] w fun e w' => e = .returned (.bool (isL b)) /\ w = w' := by
  go_enter Tryz.func193, Tryz.ntmps193
  go_wp2
  all_goals
    go_ret
    exact ⟨ret_bool (by rw [Bool.eq_iff_iff]; unfold isL; simp only [Bool.or_eq_true, decide_eq_true_eq, beq_iff_eq, true_iff]; omega), rfl⟩
theorem digit_any (b : UInt8) (w : World) : Calls Tryz.prog 176 #[.int .u8 b.toNat] w fun e w' => e = .returned (.bool (isD b)) /\ w = w' := by
  go_enter Tryz.func176, Tryz.ntmps176
  go_wp2
  all_goals
    go_ret
    exact ⟨ret_bool (by rw [Bool.eq_iff_iff]; unfold isD; simp only [decide_eq_true_eq, false_iff, Bool.false_eq_true]; omega), rfl⟩
theorem digitR_any (b : UInt8) (w : World) : Calls Tryz.prog 194 #[.int .u8 b.toNat] w fun e w' => e = .returned (.bool (isD b)) /\ w = w' := by
  go_enter Tryz.func194, Tryz.ntmps194
  go_wp2
  all_goals
    go_ret
    exact ⟨ret_bool (by rw [Bool.eq_iff_iff]; unfold isD; simp only [decide_eq_true_eq, false_iff, Bool.false_eq_true]; omega), rfl⟩
theorem isKeyword_any (s : ByteArray) (w : World) : Calls Tryz.prog 119 #[.string s] w fun e w' => e = .returned (.bool (kw s.data.toList)) /\ w = w' := by
  go_enter Tryz.func119, Tryz.ntmps119
  go_wp2
  all_goals
    go_ret
    exact ⟨ret_bool (by rw [<- ByteArray.toList_eq]; unfold kw; simp_all), rfl⟩
theorem isKeywordR_any (s : ByteArray) (w : World) : Calls Tryz.prog 139 #[.string s] w fun e w' => e = .returned (.bool (kw s.data.toList)) /\ w = w' := by
  go_enter Tryz.func139, Tryz.ntmps139
  go_wp2
  all_goals
    go_ret
    exact ⟨ret_bool (by rw [<- ByteArray.toList_eq]; unfold kw; simp_all), rfl⟩
theorem bt_at (s : ByteArray) (k : Nat) (hk : k < s.size) : bt s.data.toList k = s[k] := by
  unfold bt
  have h : k < s.data.toList.length := by rw [<- size_len]; exact hk
  rw [List.getElem?_eq_getElem h]; rfl
theorem scan_step (p : Nat -> Bool) (l k : Nat) (hk : k < l) : scan p (l - k) k = if p k then scan p (l - (k + 1)) (k + 1) else k := by
  rw [show l - k = (l - (k + 1)) + 1 by omega]; rfl
theorem word_any (s : ByteArray) (hs : s.size <= 9223372036854775807) (w : World) :
    Calls Tryz.prog 118 #[.string s] w fun e w' => e = .returned (.int .i64 (wordN s.data.toList)) /\ w = w' := by
  obtain ⟨N, hN⟩ : ∃ N, N = wordN s.data.toList := ⟨_, rfl⟩
  have HN : Hid (N = scan (okW s.data.toList) (s.size - 0) 0) := Lib.hid (by rw [hN]; unfold wordN; rw [<- size_len]; rfl)
  rw [<- hN]; clear hN
  go_enter Tryz.func118, Tryz.ntmps118
  go_wp2_with fail
  go_loop [3] (fun n => ∃ k : Nat, k <= s.size /\ Hid (N = scan (okW s.data.toList) (s.size - k) k) /\ n = .int .i64 k) (fun n => s.size - (RowKit.intOf n).toNat)
  case atStart => exact ⟨0, by omega, HN, rfl⟩
  obtain ⟨k, hk, ha, rfl⟩ := hrel
  clear HN
  by_cases hlt : k < s.size
  · have hst := ha.out
    rw [scan_step _ _ _ hlt] at hst
    have hok : okW s.data.toList k = (isL s[k] || (decide (0 < k) && isD s[k])) := by unfold okW; rw [bt_at s k hlt]
    rw [hok] at hst
    have HS := Lib.hid hst; clear hst hok ha
    by_cases c1 : isL s[k] = true
    · have HF : Hid (N = scan (okW s.data.toList) (s.size - (k + 1)) (k + 1)) := Lib.hid (by rw [HS.out, c1]; rfl)
      clear HS
      go_wp2_with fail
      refine (letter_any s[k] _).mono ?_
      rintro e w1 ⟨rfl, rfl⟩
      go_wp2
      go_round
      case rel => exact ⟨k + 1, by omega, HF, by go_num⟩
      case measure => simp [RowKit.intOf]; omega
    have c1' : isL s[k] = false := by simpa using c1
    clear c1
    by_cases c2 : 0 < k
    · by_cases c3 : isD s[k] = true
      · have HF : Hid (N = scan (okW s.data.toList) (s.size - (k + 1)) (k + 1)) := Lib.hid (by rw [HS.out, c1', c3]; simp [c2])
        clear HS
        go_wp2_with fail
        refine (letter_any s[k] _).mono ?_
        rintro e w1 ⟨rfl, rfl⟩
        go_wp2_with fail
        refine (digit_any s[k] _).mono ?_
        rintro e w1 ⟨rfl, rfl⟩
        go_wp2
        go_round
        case rel => exact ⟨k + 1, by omega, HF, by go_num⟩
        case measure => simp [RowKit.intOf]; omega
      have c3' : isD s[k] = false := by simpa using c3
      have HF : Hid (N = k) := Lib.hid (by rw [HS.out, c1', c3']; simp)
      clear HS c3
      go_wp2_with fail
      refine (letter_any s[k] _).mono ?_
      rintro e w1 ⟨rfl, rfl⟩
      go_wp2_with fail
      refine (digit_any s[k] _).mono ?_
      rintro e w1 ⟨rfl, rfl⟩
      go_wp2
      go_ret
      exact ⟨ret_int (by rw [HF.out]), rfl⟩
    have HF : Hid (N = k) := Lib.hid (by rw [HS.out, c1']; simp [c2])
    clear HS
    go_wp2_with fail
    refine (letter_any s[k] _).mono ?_
    rintro e w1 ⟨rfl, rfl⟩
    go_wp2
    go_ret
    exact ⟨ret_int (by rw [HF.out]), rfl⟩
  have HF : Hid (N = k) := Lib.hid (by rw [ha.out, show s.size - k = 0 by omega]; rfl)
  clear ha
  go_wp2
  go_ret
  exact ⟨ret_int (by rw [HF.out]), rfl⟩
theorem wordR_any (s : ByteArray) (hs : s.size <= 9223372036854775807) (w : World) :
    Calls Tryz.prog 138 #[.string s] w fun e w' => e = .returned (.int .i64 (wordN s.data.toList)) /\ w = w' := by
  obtain ⟨N, hN⟩ : ∃ N, N = wordN s.data.toList := ⟨_, rfl⟩
  have HN : Hid (N = scan (okW s.data.toList) (s.size - 0) 0) := Lib.hid (by rw [hN]; unfold wordN; rw [<- size_len]; rfl)
  rw [<- hN]; clear hN
  go_enter Tryz.func138, Tryz.ntmps138
  go_wp2_with fail
  go_loop [3] (fun n => ∃ k : Nat, k <= s.size /\ Hid (N = scan (okW s.data.toList) (s.size - k) k) /\ n = .int .i64 k) (fun n => s.size - (RowKit.intOf n).toNat)
  case atStart => exact ⟨0, by omega, HN, rfl⟩
  obtain ⟨k, hk, ha, rfl⟩ := hrel
  clear HN
  by_cases hlt : k < s.size
  · have hst := ha.out
    rw [scan_step _ _ _ hlt] at hst
    have hok : okW s.data.toList k = (isL s[k] || (decide (0 < k) && isD s[k])) := by unfold okW; rw [bt_at s k hlt]
    rw [hok] at hst
    have HS := Lib.hid hst; clear hst hok ha
    by_cases c1 : isL s[k] = true
    · have HF : Hid (N = scan (okW s.data.toList) (s.size - (k + 1)) (k + 1)) := Lib.hid (by rw [HS.out, c1]; rfl)
      clear HS
      go_wp2_with fail
      refine (letterR_any s[k] _).mono ?_
      rintro e w1 ⟨rfl, rfl⟩
      go_wp2
      go_round
      case rel => exact ⟨k + 1, by omega, HF, by go_num⟩
      case measure => simp [RowKit.intOf]; omega
    have c1' : isL s[k] = false := by simpa using c1
    clear c1
    by_cases c2 : 0 < k
    · by_cases c3 : isD s[k] = true
      · have HF : Hid (N = scan (okW s.data.toList) (s.size - (k + 1)) (k + 1)) := Lib.hid (by rw [HS.out, c1', c3]; simp [c2])
        clear HS
        go_wp2_with fail
        refine (letterR_any s[k] _).mono ?_
        rintro e w1 ⟨rfl, rfl⟩
        go_wp2_with fail
        refine (digitR_any s[k] _).mono ?_
        rintro e w1 ⟨rfl, rfl⟩
        go_wp2
        go_round
        case rel => exact ⟨k + 1, by omega, HF, by go_num⟩
        case measure => simp [RowKit.intOf]; omega
      have c3' : isD s[k] = false := by simpa using c3
      have HF : Hid (N = k) := Lib.hid (by rw [HS.out, c1', c3']; simp)
      clear HS c3
      go_wp2_with fail
      refine (letterR_any s[k] _).mono ?_
      rintro e w1 ⟨rfl, rfl⟩
      go_wp2_with fail
      refine (digitR_any s[k] _).mono ?_
      rintro e w1 ⟨rfl, rfl⟩
      go_wp2
      go_ret
      exact ⟨ret_int (by rw [HF.out]), rfl⟩
    have HF : Hid (N = k) := Lib.hid (by rw [HS.out, c1']; simp [c2])
    clear HS
    go_wp2_with fail
    refine (letterR_any s[k] _).mono ?_
    rintro e w1 ⟨rfl, rfl⟩
    go_wp2
    go_ret
    exact ⟨ret_int (by rw [HF.out]), rfl⟩
  have HF : Hid (N = k) := Lib.hid (by rw [ha.out, show s.size - k = 0 by omega]; rfl)
  clear ha
  go_wp2
  go_ret
  exact ⟨ret_int (by rw [HF.out]), rfl⟩
theorem isName_any (s : ByteArray) (hs : s.size <= 9223372036854775807) (w : World) : Calls Tryz.prog 58 #[.string s] w fun e w' => e = .returned (.bool (nameB s.data.toList)) /\ w = w' := by
  have hsz := size_len s
  rcases Nat.eq_zero_or_pos s.size with h0 | h0
  · obtain ⟨e1, e2, e3⟩ := tl_nil s h0
    go_enter Tryz.func58, Tryz.ntmps58
    go_wp2
    go_ret
    exact ⟨ret_bool (by rw [e3]; rfl), rfl⟩
  obtain ⟨e1, e2, e3⟩ := tl_cons s h0
  have HB : Hid (nameB s.data.toList = (decide (s.size <= 16) && decide (wordN s.data.toList = s.size) && !kw s.data.toList)) := Lib.hid (by have e4 := e2; rw [ByteArray.toList_eq] at e4; unfold nameB; rw [<- hsz, e4]; rfl)
  clear hsz e3
  generalize nameB s.data.toList = NB at HB ⊢
  go_enter Tryz.func58, Tryz.ntmps58
  go_wp2_with (first | (go_at_call 118; refine (word_any s hs _).mono ?_; rintro e w1 ⟨rfl, rfl⟩) | (go_at_call 119; refine (isKeyword_any s _).mono ?_; rintro e w1 ⟨rfl, rfl⟩))
  all_goals
    go_ret
    refine ⟨ret_bool ?_, rfl⟩
    rw [HB.out]
    first
      | (rw [decide_eq_true (show s.size <= 16 by omega), decide_eq_true (show wordN s.data.toList = s.size by omega)]; rfl)
      | (rw [decide_eq_false (show ¬ wordN s.data.toList = s.size by omega)]; simp)
      | (rw [decide_eq_false (show ¬ s.size <= 16 by omega)]; simp)
theorem isNameR_any (s : ByteArray) (hs : s.size <= 9223372036854775807) (w : World) : Calls Tryz.prog 72 #[.string s] w fun e w' => e = .returned (.bool (nameB s.data.toList)) /\ w = w' := by
  have hsz := size_len s
  rcases Nat.eq_zero_or_pos s.size with h0 | h0
  · obtain ⟨e1, e2, e3⟩ := tl_nil s h0
    go_enter Tryz.func72, Tryz.ntmps72
    go_wp2
    go_ret
    exact ⟨ret_bool (by rw [e3]; rfl), rfl⟩
  obtain ⟨e1, e2, e3⟩ := tl_cons s h0
  have HB : Hid (nameB s.data.toList = (decide (s.size <= 16) && decide (wordN s.data.toList = s.size) && !kw s.data.toList)) := Lib.hid (by have e4 := e2; rw [ByteArray.toList_eq] at e4; unfold nameB; rw [<- hsz, e4]; rfl)
  clear hsz e3
  generalize nameB s.data.toList = NB at HB ⊢
  go_enter Tryz.func72, Tryz.ntmps72
  go_wp2_with (first | (go_at_call 138; refine (wordR_any s hs _).mono ?_; rintro e w1 ⟨rfl, rfl⟩) | (go_at_call 139; refine (isKeywordR_any s _).mono ?_; rintro e w1 ⟨rfl, rfl⟩))
  all_goals
    go_ret
    refine ⟨ret_bool ?_, rfl⟩
    rw [HB.out]
    first
      | (rw [decide_eq_true (show s.size <= 16 by omega), decide_eq_true (show wordN s.data.toList = s.size by omega)]; rfl)
      | (rw [decide_eq_false (show ¬ wordN s.data.toList = s.size by omega)]; simp)
      | (rw [decide_eq_false (show ¬ s.size <= 16 by omega)]; simp)
end Go.Proofs.YtjaeedbjknejdaaGreatDoor.Lx

namespace Go.Proofs.YtjaeedbjknejdaaGreatDoor.At
open Go.RowKit Go.Sort Go.Lib Go.Shelf Fx Lx
def PrtIn (w : World) (a : Option Addr) (L : List Prt) : Prop :=
  ∀ k (h : k < L.length), ∃ g o, a = some ⟨g, o, none⟩ /\ w.cell? ⟨g, o + k * 2, none⟩ = some (.string L[k].1) /\ w.cell? ⟨g, o + k * 2 + 1, none⟩ = some (.int .i64 L[k].2)
theorem PrtIn.ext {w w' : World} {a : Option Addr} {L : List Prt} (h : PrtIn w a L) (x : Ext w w') : PrtIn w' a L := fun k hk => by
  obtain ⟨g, o, ha, h0, h1⟩ := h k hk
  exact ⟨g, o, ha, x.cell h0, x.cell h1⟩
theorem beqs (n x : ByteArray) : (n.toList == x.toList) = decide (n = x) := by
  rw [ByteArray.toList_eq, ByteArray.toList_eq, Bool.eq_iff_iff, beq_iff_eq, decide_eq_true_eq]
  exact ⟨fun h => ByteArray.ext (Array.toList_inj.1 h), fun h => by rw [h]⟩
end Go.Proofs.YtjaeedbjknejdaaGreatDoor.At

namespace Go.Proofs.YtjaeedbjknejdaaGreatDoor.At
open Go.RowKit Go.Sort Go.Lib Go.Shelf Fx Lx
theorem own_base {w : World} {B B' n : Nat} {e : TypeId} {v : Value} {size : Nat} {xs : List Value} (h : w.ownsRow B e size v n xs) (hb : B' <= B) : w.ownsRow B' e size v n xs := by
  refine ⟨h.1, ?_⟩
  rcases h.2 with h1 | ⟨g, cap, cur, hv, hg0, r⟩
  · exact .inl h1
  exact .inr ⟨g, cap, cur, hv, by omega, r⟩
theorem own_ext {w w' : World} {B n : Nat} {e : TypeId} {v : Value} {size : Nat} {xs : List Value} (h : w.ownsRow B e size v n xs) (x : Ext w w') : w'.ownsRow B e size v n xs := by
  refine ⟨h.1, ?_⟩
  rcases h.2 with h1 | ⟨g, cap, cur, hv, hb, hg, r⟩
  · exact .inl h1
  refine .inr ⟨g, cap, cur, hv, hb, ?_, r⟩
  rw [x.block g (Array.getElem?_eq_some_iff.1 hg).1]; exact hg
theorem cell_new1 (w : World) (l : List Value) (T : TypeId) (j : Nat) (u : Value) (h : l[j]? = some u) :
    (w.alloc (.cells l.toArray T)).cell? ((⟨w.heap.size, 0, none⟩ : Addr).add j) = some u := by
  have hb := heap_alloc_new w (.cells l.toArray T)
  have e : (⟨w.heap.size, 0, none⟩ : Addr).add j = ⟨w.heap.size, j, none⟩ := by simp [Addr.add]; exact fun h => h.symm
  rw [e, Lib.cell_of_heap hb]
  simpa using h
end Go.Proofs.YtjaeedbjknejdaaGreatDoor.At
