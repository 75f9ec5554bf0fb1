/- Packed texts: TreVisV, TreValid -/
import Derived.Test.YtnancphlkbfglaaGreatDoorPb35
import Derived.Test.YtnancphlkbfglaaGreatDoorPb25
set_option linter.unusedVariables false
set_option linter.unusedSimpArgs false
namespace Go.Proofs.YtnancphlkbfglaaGreatDoor.Tr
open Go.RowKit Go.Sort Go.Lib Go.Shelf Fx Lx
theorem ChkIn.ext {kind : Int} {nm : ByteArray} {rs al : List Two} {body : List Stm} {r a b : Option Addr} {rc ac bc : Nat} {w w' : World} (h : ChkIn kind nm rs al body r a b rc ac bc w) (x : Ext w w') : ChkIn kind nm rs al body r a b rc ac bc w' :=
  ⟨h.hr.ext x, h.ha.ext x, h.hac, h.hrl, h.hn, h.hs, h.ht⟩
set_option maxHeartbeats 4000000 in
theorem closV_any (kind : Int) (nm : ByteArray) (rs al : List Two) (body : List Stm) (r a b : Option Addr) (rc ac bc lev : Nat) (acc : Int) (c : Nat) (T : TypeId) (w : World) (h : w.heap[c]? = some (.cells #[.int .i64 acc] T (0, 0))) (hk : ChkIn kind nm rs al body r a b rc ac bc w) :
    Calls Tryz.prog 53 #[.agg #[.int .i64 kind, .string nm, .slice r rs.length rc, .slice a al.length ac, .slice b body.length bc], .int .i64 lev, .pointer (some ⟨c, 0, none⟩)] w fun e w' => e = .returned (.bool (stepV acc (.mk kind nm rs al body, lev)).2) ∧ w'.heap[c]? = some (.cells #[.int .i64 (stepV acc (.mk kind nm rs al body, lev)).1] T (0, 0)) ∧ But c w w' := by
  have hcw : c < w.heap.size := (Array.getElem?_eq_some_iff.1 h).1
  have hx0 : ∀ o, Ext w (w.alloc o) := fun o => (Ext.refl w).alloc o
  have h1 : ∀ o w1, Ext (w.alloc o) w1 → w1.heap[c]? = some (.cells #[.int .i64 acc] T (0, 0)) := fun o w1 x => (x.block c (by simp; omega)).trans ((Lib.alloc_old w o c hcw).trans h)
  have hch := fun o => check_any kind nm rs al body r a b rc ac bc lev _ (hk.ext (hx0 o))
  unfold stepV
  dsimp only
  generalize stmE (.mk kind nm rs al body, lev) = E at *
  generalize rs.length = R at *
  generalize al.length = A at *
  generalize body.length = B at *
  have HCH := Lib.hid hch
  have H1 := Lib.hid h1
  clear hk hch h1 h hcw
  go_enter Tryz.func53, Tryz.ntmps53
  go_wp2_with (go_at_call 54; refine (HCH.out _).mono ?_; rintro e w1 ⟨rfl, x1⟩; have q0 : w1.cell? ⟨c, 0, none⟩ = some (.int .i64 acc) := (by rw [Lib.cell_of_heap (H1.out _ _ x1)]; rfl); have q1 : w1.frozen? ⟨c, 0, none⟩ = false := Lib.frozen_of_heap (H1.out _ _ x1) 0; have q2 : ∀ v, (w1.setCell ⟨c, 0, none⟩ v).cell? ⟨c, 0, none⟩ = some v := fun v => by rw [Lib.cell_of_heap (setOne (H1.out _ _ x1) 0 v)]; rfl)
  go_ret
  exact ⟨ret_bool (by rw [Bool.eq_iff_iff, beq_iff_eq, decide_eq_true_eq]), setOne (H1.out _ _ x1) 0 _, (((But.refl c w).alloc _).ext x1).setCell ⟨c, 0, none⟩ rfl _⟩
end Go.Proofs.YtnancphlkbfglaaGreatDoor.Tr

namespace Go.Proofs.YtnancphlkbfglaaGreatDoor.Tr
open Go.RowKit Go.Sort Go.Lib Go.Shelf Fx Lx
theorem two_new (w : World) (o o' : Obj) : ((w.alloc o).alloc o').heap[w.heap.size + 1]? = some o' := by
  have h := heap_alloc_new (w.alloc o) o'
  rw [show (w.alloc o).heap.size = w.heap.size + 1 by simp] at h
  exact h
end Go.Proofs.YtnancphlkbfglaaGreatDoor.Tr
