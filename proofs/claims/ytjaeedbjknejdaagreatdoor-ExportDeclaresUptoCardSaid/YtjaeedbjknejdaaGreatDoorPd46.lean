/- Packed texts: NorBuild -/
import Derived.Test.YtjaeedbjknejdaaGreatDoorPd39
set_option linter.unusedVariables false
set_option linter.unusedSimpArgs false
set_option maxHeartbeats 16000000
set_option maxRecDepth 100000
namespace Go.Proofs.YtjaeedbjknejdaaGreatDoor.Nm
open Go.RowKit Go.Sort Go.Lib Go.Shelf Fx Lx Tr At
theorem box_newG {w w3:World}{o:Obj}{cs:Array Value}{T:TypeId}(x:Ext ((w.alloc (.cells cs T)).alloc o) w3):w3.heap[w.heap.size]? = some (.cells cs T (0,0)) :=
 At.heap_ext (At.heap_ext (heap_alloc_new w (.cells cs T)) ((Ext.refl _).alloc o)) x
theorem two_newG {w w3:World}{o:Obj}{cs:Array Value}{T:TypeId}(x:Ext ((w.alloc o).alloc (.cells cs T)) w3):w3.heap[w.heap.size+1]? = some (.cells cs T (0,0)):=by
 have h:=heap_alloc_new (w.alloc o) (.cells cs T);rw[World.size_alloc] at h;exact At.heap_ext h x
end Go.Proofs.YtjaeedbjknejdaaGreatDoor.Nm
