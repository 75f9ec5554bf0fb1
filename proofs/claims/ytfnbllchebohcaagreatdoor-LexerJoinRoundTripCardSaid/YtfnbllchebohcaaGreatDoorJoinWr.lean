/- What written returns of a token. -/
import Derived.Test.YtfnbllchebohcaaGreatDoorQuoQuote
import Derived.Test.YtfnbllchebohcaaGreatDoorLexJoinB
import Derived.Test.YtfnbllchebohcaaGreatDoorLexStr
import Derived.Test.YtfnbllchebohcaaGreatDoorFixFormat
import Derived.Deep.QuietTactic
import Derived.BigQuiet
import Derived.Deep.RegionWith
import Derived.Deep.RegionHeld3
namespace Go.Proofs.YtfnbllchebohcaaGreatDoor.Qo
open Go.RowKit Go.Lib Fx Lx

theorem quiet_l {P : Program} {f : FuncId} {args : Array Value} {w : World} {n : Nat} {v : Value}
    (h : Calls P f args (w.drewN n) fun e w' => e = .returned v ∧ w.drewN n = w') : Calls P f args (w.drewN n) fun e w' => e = .returned v ∧ ∃ m, w' = w.drewN m :=
  h.mono fun _ _ ⟨he, hm⟩ => ⟨he, n, hm.symm⟩
def writtenV (t : Tok) : Value := .tuple #[.string ⟨(Lx.written t).1.toArray⟩, .bool (Lx.written t).2]
def tokV' (k n l : Int) (x : ByteArray) : Value := .agg #[.int .i64 k, .string x, .int .i64 n, .int .i64 l]
theorem mk_data' (s : ByteArray) : (⟨s.data.toList.toArray⟩ : ByteArray) = s := by cases s; simp

set_option maxHeartbeats 4000000 in
set_option maxRecDepth 1000000 in
theorem written_name (x : ByteArray) (n l : Int) (w : World) (hs : x.size ≤ 9223372036854775807) :
    Calls Tryz.prog 21 #[tokV' 1 n l x] w fun e w' => e = .returned (writtenV ⟨1, x.data.toList, n, l⟩) ∧ Ext w w' := by
  have hv : writtenV ⟨1, x.data.toList, n, l⟩ = .tuple #[.string x, .bool (decide (n = 0) && nameB x.data.toList)] := by
    unfold writtenV Lx.written; rw [if_pos rfl, mk_data']
  rw [hv]
  unfold tokV'
  have hn := fun w => isName_any x hs w
  by_cases h0 : n = 0
  · subst h0
    have HN := Lib.hid hn
    clear hn hv
    simp only [decide_true, Bool.true_and]
    go_enter Tryz.func21, Tryz.ntmps21
    go_wp2_with fail
    go_quiet ((go_at_call 18; exact quiet_l (HN.out _)))
    go_wp2_with fail
    go_returns
    exact ⟨rfl, ((Ext.refl _).alloc _).drewN _⟩
  · rw [decide_eq_false h0, Bool.false_and]
    have hd : (n == 0) = false := by simpa using h0
    clear hn hv h0
    go_enter Tryz.func21, Tryz.ntmps21
    go_wp2_with fail
    go_quiet (fail)
    go_wp2_with fail
    go_returns
    exact ⟨rfl, ((Ext.refl _).alloc _).drewN _⟩

set_option maxHeartbeats 4000000 in
set_option maxRecDepth 1000000 in
theorem written_kw (x : ByteArray) (n l : Int) (w : World) (hs : x.size ≤ 9223372036854775807) :
    Calls Tryz.prog 21 #[tokV' 2 n l x] w fun e w' => e = .returned (writtenV ⟨2, x.data.toList, n, l⟩) ∧ Ext w w' := by
  have hv : writtenV ⟨2, x.data.toList, n, l⟩ = .tuple #[.string x, .bool (decide (n = 0) && kw x.data.toList)] := by
    unfold writtenV Lx.written; rw [if_neg (by dsimp only; decide), if_pos rfl, mk_data']
  rw [hv]
  unfold tokV'
  have hn := fun w => isKeyword_any x w
  by_cases h0 : n = 0
  · subst h0
    have HN := Lib.hid hn
    clear hn hv
    simp only [decide_true, Bool.true_and]
    go_enter Tryz.func21, Tryz.ntmps21
    go_wp2_with fail
    go_quiet ((go_at_call 31; exact quiet_l (HN.out _)))
    go_wp2_with fail
    go_returns
    exact ⟨rfl, ((Ext.refl _).alloc _).drewN _⟩
  · rw [decide_eq_false h0, Bool.false_and]
    have hd : (n == 0) = false := by simpa using h0
    clear hn hv h0
    go_enter Tryz.func21, Tryz.ntmps21
    go_wp2_with fail
    go_quiet (fail)
    go_wp2_with fail
    go_returns
    exact ⟨rfl, ((Ext.refl _).alloc _).drewN _⟩

theorem written_5 (x : List UInt8) (n l : Int) : Lx.written ⟨5, x, n, l⟩ = (x, decide (n = 0) && marks.contains x) := by
  unfold Lx.written; rw [if_neg (by dsimp only; decide), if_neg (by dsimp only; decide), if_neg (by dsimp only; decide), if_neg (by dsimp only; decide), if_pos rfl]
theorem written_4 (x : List UInt8) (n l : Int) : Lx.written ⟨4, x, n, l⟩ = ((quote x).1, decide (n = 0) && decide ((quote x).2 = 0)) := by
  unfold Lx.written; rw [if_neg (by dsimp only; decide), if_neg (by dsimp only; decide), if_neg (by dsimp only; decide), if_pos rfl]
theorem written_3 (x : List UInt8) (n l : Int) : Lx.written ⟨3, x, n, l⟩ = (fmt n, x.isEmpty && decide (-268435456 ≤ n) && decide (n ≤ 268435456)) := by
  unfold Lx.written; rw [if_neg (by dsimp only; decide), if_neg (by dsimp only; decide), if_pos rfl]
theorem written_else (k : Int) (x : List UInt8) (n l : Int) (h1 : k ≠ 1) (h2 : k ≠ 2) (h3 : k ≠ 3) (h4 : k ≠ 4) (h5 : k ≠ 5) : Lx.written ⟨k, x, n, l⟩ = ([], false) := by
  unfold Lx.written; rw [if_neg h1, if_neg h2, if_neg h3, if_neg h4, if_neg h5]

set_option maxHeartbeats 4000000 in
set_option maxRecDepth 1000000 in
theorem written_other (k : Int) (x : ByteArray) (n l : Int) (w : World) (h1 : k ≠ 1) (h2 : k ≠ 2) (h3 : k ≠ 3) (h4 : k ≠ 4) (h5 : k ≠ 5) :
    Calls Tryz.prog 21 #[tokV' k n l x] w fun e w' => e = .returned (writtenV ⟨k, x.data.toList, n, l⟩) ∧ Ext w w' := by
  have hv : writtenV ⟨k, x.data.toList, n, l⟩ = .tuple #[.string ⟨#[]⟩, .bool false] := by unfold writtenV; rw [written_else k _ n l h1 h2 h3 h4 h5]
  rw [hv]
  unfold tokV'
  have e1 : (k == 1) = false := by simpa using h1
  have e2 : (k == 2) = false := by simpa using h2
  have e3 : (k == 3) = false := by simpa using h3
  have e4 : (k == 4) = false := by simpa using h4
  have e5 : (k == 5) = false := by simpa using h5
  clear hv h1 h2 h3 h4 h5
  go_enter Tryz.func21, Tryz.ntmps21
  go_wp2_with fail
  go_returns
  exact ⟨rfl, (Ext.refl _).alloc _⟩

set_option maxHeartbeats 4000000 in
set_option maxRecDepth 1000000 in
theorem written_str (x : ByteArray) (n l : Int) (w : World) (hs : x.size ≤ 9223372036854775807) :
    Calls Tryz.prog 21 #[tokV' 4 n l x] w fun e w' => e = .returned (writtenV ⟨4, x.data.toList, n, l⟩) ∧ Ext w w' := by
  have hq := fun w => quote_any x w hs
  unfold quoteV at hq
  obtain ⟨X, c, hc⟩ : ∃ X c, quote x.data.toList = (X, c) := ⟨_, _, rfl⟩
  have hv : writtenV ⟨4, x.data.toList, n, l⟩ = .tuple #[.string ⟨X.toArray⟩, .bool (decide (n = 0) && decide (c = 0))] := by unfold writtenV; rw [written_4, hc]
  rw [hv]
  rw [hc] at hq
  unfold tokV'
  have HQ := Lib.hid hq
  clear hq hv hc
  generalize (⟨X.toArray⟩ : ByteArray) = Y at HQ ⊢
  by_cases h0 : n = 0
  · by_cases h1 : c = 0
    · subst h0; subst h1
      simp only [decide_true, Bool.true_and]
      go_enter Tryz.func21, Tryz.ntmps21
      go_wp2_with fail
      refine (HQ.out _).mono ?_
      rintro e w1 ⟨rfl, x1⟩
      have d2 : w1.cell? ⟨w.heap.size, 2, none⟩ = some (.int .i64 0) := x1.cell (cell_of_blk (heap_alloc_new w _) 2)
      go_wp2_with fail
      go_returns
      exact ⟨rfl, ((Ext.refl _).alloc _).trans x1⟩
    · subst h0
      have hd : (c == 0) = false := by simpa using h1
      rw [decide_eq_false h1, Bool.and_false]
      clear h1
      go_enter Tryz.func21, Tryz.ntmps21
      go_wp2_with fail
      refine (HQ.out _).mono ?_
      rintro e w1 ⟨rfl, x1⟩
      have d2 : w1.cell? ⟨w.heap.size, 2, none⟩ = some (.int .i64 0) := x1.cell (cell_of_blk (heap_alloc_new w _) 2)
      go_wp2_with fail
      go_returns
      exact ⟨rfl, ((Ext.refl _).alloc _).trans x1⟩
  · have hd : (n == 0) = false := by simpa using h0
    rw [decide_eq_false h0, Bool.false_and]
    clear h0
    go_enter Tryz.func21, Tryz.ntmps21
    go_wp2_with fail
    refine (HQ.out _).mono ?_
    rintro e w1 ⟨rfl, x1⟩
    have d2 : w1.cell? ⟨w.heap.size, 2, none⟩ = some (.int .i64 n) := x1.cell (cell_of_blk (heap_alloc_new w _) 2)
    go_wp2_with fail
    go_returns
    exact ⟨rfl, ((Ext.refl _).alloc _).trans x1⟩
end Go.Proofs.YtfnbllchebohcaaGreatDoor.Qo
