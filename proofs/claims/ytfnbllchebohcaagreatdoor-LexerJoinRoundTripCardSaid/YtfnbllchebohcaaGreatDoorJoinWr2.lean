/- What written returns of numbers and marks. -/
import Derived.Test.YtfnbllchebohcaaGreatDoorJoinWr
import Derived.Test.YtfnbllchebohcaaGreatDoorFixPost
import Derived.Lib.QuietBelow

namespace Go.Proofs.YtfnbllchebohcaaGreatDoor.Qo
open Go.RowKit Go.Lib Fx Lx Go.Sort

set_option maxHeartbeats 4000000 in
set_option maxRecDepth 1000000 in
theorem written_num (x : ByteArray) (n l : Int) (w : World) (h0 : -9223372036854775808 ≤ n) (h1 : n ≤ 9223372036854775807) (he : Env w) :
    Calls Tryz.prog 21 #[tokV' 3 n l x] w fun e w' => e = .returned (writtenV ⟨3, x.data.toList, n, l⟩) ∧ Ext w w' := by
  have hf := fun w (he : Env w) => format_any n w h0 h1 he.1
  have hv : writtenV ⟨3, x.data.toList, n, l⟩ = .tuple #[.string ⟨(fmt n).toArray⟩, .bool (x.data.toList.isEmpty && decide (-268435456 ≤ n) && decide (n ≤ 268435456))] := by unfold writtenV; rw [written_3]
  rw [hv]
  generalize (⟨(fmt n).toArray⟩ : ByteArray) = Y at hf ⊢
  unfold tokV'
  have HF := Lib.hid hf
  have HE := Lib.hid he
  clear hf hv he
  have c1 : (w.alloc (.cells #[.int .i64 3, .string x, .int .i64 n, .int .i64 l] 31)).cell? ⟨w.heap.size, 1, none⟩ = some (.string x) := cell_of_blk (heap_alloc_new w _) 1
  have c2 : (w.alloc (.cells #[.int .i64 3, .string x, .int .i64 n, .int .i64 l] 31)).cell? ⟨w.heap.size, 2, none⟩ = some (.int .i64 n) := cell_of_blk (heap_alloc_new w _) 2
  have k1 := cell_regrown c1
  have k2 := cell_regrown c2
  have cF : ∀ d os, Calls Tryz.prog 39 #[.int .i64 n] (grow (redrawn (w.alloc (.cells #[.int .i64 3, .string x, .int .i64 n, .int .i64 l] 31)) d) os) fun e w'' => e = .returned (.string Y) ∧ ∃ p : Regrown, w'' = grow (redrawn (w.alloc (.cells #[.int .i64 3, .string x, .int .i64 n, .int .i64 l] 31)) p.d) p.os :=
    fun d os => Calls.regrown_of (HF.out _ (HE.out.ext (((Ext.refl _).alloc _).trans (below_regrown _ d os))))
  have CF := Lib.hid cF
  have hb : ∀ dq osq, Ext w (grow (redrawn (w.alloc (.cells #[.int .i64 3, .string x, .int .i64 n, .int .i64 l] 31)) dq) osq) := fun dq osq => ((Ext.refl w).alloc _).trans (below_regrown _ dq osq)
  have HB := Lib.hid hb
  clear cF hb c1 c2
  by_cases hx : x.size = 0
  · obtain rfl : x = ⟨#[]⟩ := by
      apply ByteArray.ext; exact Array.eq_empty_of_size_eq_zero hx
    clear hx
    simp only [List.isEmpty_nil, Bool.true_and]
    by_cases hlo : -268435456 ≤ n
    · rw [decide_eq_true hlo, Bool.true_and]
      have g1 : decide ((-268435456 : Int) ≤ n) = true := decide_eq_true hlo
      go_enter Tryz.func21, Tryz.ntmps21
      go_wp2_with fail
      refine wp_region_quiet_below (by kernel_rfl) (by kernel_rfl) ?_
      repeat (go_big_quiet_step ((go_at_call 39; exact CF.out _ _)))
      refine wpQuiet_nil ?_
      intro _ hw'
      obtain ⟨⟨dq, osq⟩, hw''⟩ := hw'
      subst hw''
      go_wp2_with fail
      go_returns
      exact ⟨rfl, HB.out _ _⟩
    · rw [decide_eq_false hlo, Bool.false_and]
      have g1 : decide ((-268435456 : Int) ≤ n) = false := decide_eq_false hlo
      clear hlo
      go_enter Tryz.func21, Tryz.ntmps21
      go_wp2_with fail
      refine wp_region_quiet_below (by kernel_rfl) (by kernel_rfl) ?_
      repeat (go_big_quiet_step ((go_at_call 39; exact CF.out _ _)))
      refine wpQuiet_nil ?_
      intro _ hw'
      obtain ⟨⟨dq, osq⟩, hw''⟩ := hw'
      subst hw''
      go_wp2_with fail
      go_returns
      exact ⟨rfl, HB.out _ _⟩
  · have hem : x.data.toList.isEmpty = false := by
      rw [List.isEmpty_eq_false_iff]
      intro e
      rw [size_len, e] at hx
      exact hx rfl
    rw [hem, Bool.false_and, Bool.false_and]
    have g0 : x.toList.isEmpty = false := by rw [ByteArray.toList_eq]; exact hem
    clear hx
    go_enter Tryz.func21, Tryz.ntmps21
    go_wp2_with fail
    refine wp_region_quiet_below (by kernel_rfl) (by kernel_rfl) ?_
    repeat (go_big_quiet_step ((go_at_call 39; exact CF.out _ _)))
    refine wpQuiet_nil ?_
    intro _ hw'
    obtain ⟨⟨dq, osq⟩, hw''⟩ := hw'
    subst hw''
    go_wp2_with fail
    go_returns
    exact ⟨rfl, HB.out _ _⟩
end Go.Proofs.YtfnbllchebohcaaGreatDoor.Qo
