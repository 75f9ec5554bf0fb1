/- What written returns of a mark; and of any token. -/
import Derived.Test.YtfnbllchebohcaaGreatDoorJoinWr2
namespace Go.Proofs.YtfnbllchebohcaaGreatDoor.Qo
open Go.RowKit Go.Lib Fx Lx

def marksS : List ByteArray := [⟨#[45, 62]⟩, ⟨#[45, 45]⟩, ⟨#[123]⟩, ⟨#[125]⟩, ⟨#[91]⟩, ⟨#[93]⟩, ⟨#[59]⟩, ⟨#[44]⟩, ⟨#[61]⟩, ⟨#[58]⟩]
theorem marksS_contains (x : ByteArray) : Lib.containsS (marksS.take 10) x = marks.contains x.data.toList := by
  rw [Bool.eq_iff_iff, Lib.containsS_iff, List.contains_iff_mem]
  have e : marksS.take 10 = marks.map fun m => (⟨m.toArray⟩ : ByteArray) := rfl
  rw [e, List.mem_map]
  constructor
  · rintro ⟨m, hm, rfl⟩; simpa using hm
  · intro h; exact ⟨_, h, mk_data' x⟩
theorem contains_any (g c : Nat) (x : ByteArray) (w : World) (hg : w.heap[g]? = some (.cells marksV 9 (0, 0))) :
    Calls Tryz.prog 40 #[.slice (some ⟨g, 0, none⟩) 10 c, .string x] w fun e w' => e = .returned (.bool (marks.contains x.data.toList)) ∧ w' = w := by
  have h := Tryz.slices_Contains_string g 0 10 c marksS x w (by decide) (by decide) (fun j hj => by
    rw [Nat.zero_add, cell_of_blk hg]
    have : j = 0 ∨ j = 1 ∨ j = 2 ∨ j = 3 ∨ j = 4 ∨ j = 5 ∨ j = 6 ∨ j = 7 ∨ j = 8 ∨ j = 9 := by simp [marksS] at hj; omega
    rcases this with rfl | rfl | rfl | rfl | rfl | rfl | rfl | rfl | rfl | rfl <;> rfl)
  rw [marksS_contains] at h
  exact h

set_option maxHeartbeats 4000000 in
set_option maxRecDepth 1000000 in
theorem written_mark (x : ByteArray) (n l : Int) (w : World) :
    Calls Tryz.prog 21 #[tokV' 5 n l x] w fun e w' => e = .returned (writtenV ⟨5, x.data.toList, n, l⟩) ∧ Ext w w' := by
  have hv : writtenV ⟨5, x.data.toList, n, l⟩ = .tuple #[.string x, .bool (decide (n = 0) && marks.contains x.data.toList)] := by
    unfold writtenV; rw [written_5, mk_data']
  rw [hv]
  unfold tokV'
  by_cases h0 : n = 0
  · subst h0
    clear hv
    simp only [decide_true, Bool.true_and]
    have hc := fun g c w hg => contains_any g c x w hg
    generalize marks.contains x.data.toList = M at hc ⊢
    have HC := Lib.hid hc
    clear hc
    have c1 : (w.alloc (.cells #[.int .i64 5, .string x, .int .i64 0, .int .i64 l] 31)).cell? ⟨w.heap.size, 1, none⟩ = some (.string x) := cell_of_blk (heap_alloc_new w _) 1
    have c2 : (w.alloc (.cells #[.int .i64 5, .string x, .int .i64 0, .int .i64 l] 31)).cell? ⟨w.heap.size, 2, none⟩ = some (.int .i64 0) := cell_of_blk (heap_alloc_new w _) 2
    have hmk : ((w.alloc (.cells #[.int .i64 5, .string x, .int .i64 0, .int .i64 l] 31)).drew.alloc (.cells marksV 9)).heap[w.heap.size + 1]? = some (.cells marksV 9 (0, 0)) := by
      have h := heap_alloc_new (w.alloc (.cells #[.int .i64 5, .string x, .int .i64 0, .int .i64 l] 31)).drew (.cells marksV 9)
      have e : (w.alloc (.cells #[.int .i64 5, .string x, .int .i64 0, .int .i64 l] 31)).drew.heap.size = w.heap.size + 1 := World.size_alloc _ _
      rw [e] at h; exact h
    have d1 : ((w.alloc (.cells #[.int .i64 5, .string x, .int .i64 0, .int .i64 l] 31)).drew.alloc (.cells marksV 9)).cell? ⟨w.heap.size, 1, none⟩ = some (.string x) := ((Ext.refl _).alloc _).cell (w := (w.alloc (.cells #[.int .i64 5, .string x, .int .i64 0, .int .i64 l] 31)).drew) c1
    have d2 : ((w.alloc (.cells #[.int .i64 5, .string x, .int .i64 0, .int .i64 l] 31)).drew.alloc (.cells marksV 9)).cell? ⟨w.heap.size, 2, none⟩ = some (.int .i64 0) := ((Ext.refl _).alloc _).cell (w := (w.alloc (.cells #[.int .i64 5, .string x, .int .i64 0, .int .i64 l] 31)).drew) c2
    go_enter Tryz.func21, Tryz.ntmps21
    go_wp2_with fail
    go_region_held3 (fun w' => w'.cell? ⟨w.heap.size, 1, none⟩ = some (.string x) ∧ w'.cell? ⟨w.heap.size, 2, none⟩ = some (.int .i64 0)) (first | exact ⟨c1, c2⟩ | exact ⟨d1, d2⟩) (first | (go_at_call 37; refine (marks_any _).mono ?_; rintro e w' ⟨rfl, rfl⟩) | (go_at_call 40; refine (HC.out _ _ _ hmk).mono ?_; rintro e w' ⟨rfl, rfl⟩))
    go_wp2_with fail
    go_returns
    exact ⟨rfl, ((((Ext.refl _).alloc _).drew).alloc _)⟩
  · rw [decide_eq_false h0, Bool.false_and]
    have hd : (n == 0) = false := by simpa using h0
    clear hv h0
    go_enter Tryz.func21, Tryz.ntmps21
    go_wp2_with fail
    go_quiet (fail)
    go_wp2_with fail
    go_returns
    exact ⟨rfl, ((Ext.refl _).alloc _).drewN _⟩
end Go.Proofs.YtfnbllchebohcaaGreatDoor.Qo
