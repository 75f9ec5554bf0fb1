/- What strconv.FormatUint returns at base 10, and what both Format functions return: the text of a number of thousandths, for every int. -/
import Derived.Test.YtfhephcbjbdejaaGreatDoorRows
import Derived.Test.YtfhephcbjbdejaaGreatDoorFixWalkA
import Derived.Test.YtfhephcbjbdejaaGreatDoorFixText
import Derived.Test.YtfhephcbjbdejaaGreatDoorShelf
import Derived.WalkKit
import Derived.Lib.Hide
import Derived.Lib.Walk
import Derived.Lib.ItoaMem
import Derived.Lib.ItoaLen
import Derived.BigCall
import Derived.BigGuard
namespace Go.Proofs.YtfhephcbjbdejaaGreatDoor.Fx
open Go.RowKit Go.Sort Go.Lib Go.Shelf

/-- The library's table of powers of ten. -/
def Pows (w : World) : Prop := Lib.TabIs Tryz.prog w "internal/strconv.uint64pow10" .u64 Lib.pow10Tab
theorem Pows.ext {w w' : World} (h : Pows w) (k : Ext w w') : Pows w' := Ext.tab k h

theorem holds_zero0 (w : World) (T : TypeId) (nd : Nat) (hs : nd ≤ 24) : Holds (fun (b : UInt8) => Value.int .u8 (b.toNat : Int)) (w.alloc (.cells zeros24 T)) w.heap.size 0 (Array.replicate nd (0 : UInt8)) := fun j hj => by
  have hj' : j < nd := by simpa using hj
  refine ⟨?_, World.frozen?_alloc_new _ _ _ _⟩
  rw [World.cell?_alloc_new, zeros24_at _ (by omega), getElem!_pos _ j hj]
  simp
theorem fin_pos0 (w : World) (o : Obj) (dk : Array UInt8) (k : Nat) : Ext w ((putRow (fun (b : UInt8) => Value.int .u8 (b.toNat : Int)) (w.alloc o) w.heap.size 0 dk).drewN k) := by
  rw [alloc_eq_grow]
  obtain ⟨os', _, e⟩ := putRow_grow_new (fun (b : UInt8) => Value.int .u8 (b.toNat : Int)) w #[o] w.heap.size 0 dk (Nat.le_refl _)
  rw [e]
  exact ((Ext.refl _).grow _).drewN _

end Go.Proofs.YtfhephcbjbdejaaGreatDoor.Fx
