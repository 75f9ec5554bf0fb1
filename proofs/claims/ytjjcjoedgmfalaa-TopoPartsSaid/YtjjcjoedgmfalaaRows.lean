/-
  No cell of these rows narrows 'for every input' (looked for: loops, veiled, ifaces, maps, wideKeys, modest, calm, conditions, laid).
  DERIVED. THE GIVEN ROWS OF THIS SEAT. 6 by the template 'for every input the law returns true; each argument reads behind the call as it read before'; 0 by the template 'total and deterministic' (their statements: YtjjcjoedgmfalaaTotals.lean).
  GIVEN WITH THE SEED: the statements are not yours to turn. If you find one false, say at which input.
  Laid BY PROGRAM, IN A SANDBOX (cutbox-rows.mjs): the forced cells as the released guide's own fill.sh prints them over the translation 89211f3116e1740b… (all of the seat's roots in one cut). By AI agents, Wed Nov 11 2026. No macro, syntax, notation, axiom, sorry.
-/
import Derived.Test.YtjjcjoedgmfalaaChecked
import GoSem.Claim
import GoSem.ClaimJoined
import GoSem.ClaimMapViews
import Derived.JoinedTies
import Derived.KernelRfl
namespace Go.Proofs.Ytjjcjoedgmfalaa
/- THE CELL 'sum', in the pinned program and in every row, IS THE sha256 OF THE DUMP (.gsa) THAT YtjjcjoedgmfalaaProg.lean LOADS. Nothing in Lean hashes anything: it is a label: what it is worth is what the hold of that sum in a sandbox is worth. -/
noncomputable def Try.pinned : Pinned := { name := "ytjjcjoedgmfalaa", sum := "89211f3116e1740b3c305f66ee43f3a743d286d3e34828ca78fa70f085a55582", checked := Try.checked }
namespace Rows
def none {H : Type} : Left H := { results := [], args := [] }

/-- 'layoutlaw15.TopoReaches': WHATEVER THE INPUT: true; the input reads as it did. -/
def topoReachesSpec : ChangeSpec := { name := "topoReaches", fn := fun _ => fun
  | [d1, d2] => { results := [.lit (.bool true)], args := [d1, d2] }
  | _ => none }
def topoReachesRow : OpenClaim := { program := "ytjjcjoedgmfalaa", sum := "89211f3116e1740b3c305f66ee43f3a743d286d3e34828ca78fa70f085a55582", func := "layout/layoutlaw15.TopoReaches", spec := "topoReaches", unfollowed := true, recurses := true, apart := false }
def TopoReachesSaid : Prop := topoReachesRow.holds Try.pinned (OpenSpec.ofChange topoReachesSpec)

/-- ITS FALSE NEIGHBOUR: 'it returns false'. Refute it at one input. -/
def topoReachesWrong : ChangeSpec := { name := "topoReaches", fn := fun _ => fun
  | [d1, d2] => { results := [.lit (.bool false)], args := [d1, d2] }
  | _ => none }
def TopoReachesWrongFalsely : Prop := topoReachesRow.holds Try.pinned (OpenSpec.ofChange topoReachesWrong)

/-- 'layoutlaw15.TopoStrong': WHATEVER THE INPUT: true; the input reads as it did. -/
def topoStrongSpec : ChangeSpec := { name := "topoStrong", fn := fun _ => fun
  | [d] => { results := [.lit (.bool true)], args := [d] }
  | _ => none }
def topoStrongRow : OpenClaim := { program := "ytjjcjoedgmfalaa", sum := "89211f3116e1740b3c305f66ee43f3a743d286d3e34828ca78fa70f085a55582", func := "layout/layoutlaw15.TopoStrong", spec := "topoStrong", unfollowed := true, recurses := true, apart := false }
def TopoStrongSaid : Prop := topoStrongRow.holds Try.pinned (OpenSpec.ofChange topoStrongSpec)

/-- ITS FALSE NEIGHBOUR: 'it returns false'. Refute it at one input. -/
def topoStrongWrong : ChangeSpec := { name := "topoStrong", fn := fun _ => fun
  | [d] => { results := [.lit (.bool false)], args := [d] }
  | _ => none }
def TopoStrongWrongFalsely : Prop := topoStrongRow.holds Try.pinned (OpenSpec.ofChange topoStrongWrong)

/-- 'layoutlaw15.TopoOrders': WHATEVER THE INPUT: true; the input reads as it did. -/
def topoOrdersSpec : ChangeSpec := { name := "topoOrders", fn := fun _ => fun
  | [d] => { results := [.lit (.bool true)], args := [d] }
  | _ => none }
def topoOrdersRow : OpenClaim := { program := "ytjjcjoedgmfalaa", sum := "89211f3116e1740b3c305f66ee43f3a743d286d3e34828ca78fa70f085a55582", func := "layout/layoutlaw15.TopoOrders", spec := "topoOrders", unfollowed := true, recurses := true, apart := false }
def TopoOrdersSaid : Prop := topoOrdersRow.holds Try.pinned (OpenSpec.ofChange topoOrdersSpec)

/-- ITS FALSE NEIGHBOUR: 'it returns false'. Refute it at one input. -/
def topoOrdersWrong : ChangeSpec := { name := "topoOrders", fn := fun _ => fun
  | [d] => { results := [.lit (.bool false)], args := [d] }
  | _ => none }
def TopoOrdersWrongFalsely : Prop := topoOrdersRow.holds Try.pinned (OpenSpec.ofChange topoOrdersWrong)

/-- 'layoutlaw15.TopoParts': WHATEVER THE INPUT: true; the input reads as it did. -/
def topoPartsSpec : ChangeSpec := { name := "topoParts", fn := fun _ => fun
  | [d] => { results := [.lit (.bool true)], args := [d] }
  | _ => none }
def topoPartsRow : OpenClaim := { program := "ytjjcjoedgmfalaa", sum := "89211f3116e1740b3c305f66ee43f3a743d286d3e34828ca78fa70f085a55582", func := "layout/layoutlaw15.TopoParts", spec := "topoParts", unfollowed := true, recurses := true, apart := false }
def TopoPartsSaid : Prop := topoPartsRow.holds Try.pinned (OpenSpec.ofChange topoPartsSpec)

/-- ITS FALSE NEIGHBOUR: 'it returns false'. Refute it at one input. -/
def topoPartsWrong : ChangeSpec := { name := "topoParts", fn := fun _ => fun
  | [d] => { results := [.lit (.bool false)], args := [d] }
  | _ => none }
def TopoPartsWrongFalsely : Prop := topoPartsRow.holds Try.pinned (OpenSpec.ofChange topoPartsWrong)

/-- 'layoutlaw15.TopoLeast': WHATEVER THE INPUT: true; the input reads as it did. -/
def topoLeastSpec : ChangeSpec := { name := "topoLeast", fn := fun _ => fun
  | [d] => { results := [.lit (.bool true)], args := [d] }
  | _ => none }
def topoLeastRow : OpenClaim := { program := "ytjjcjoedgmfalaa", sum := "89211f3116e1740b3c305f66ee43f3a743d286d3e34828ca78fa70f085a55582", func := "layout/layoutlaw15.TopoLeast", spec := "topoLeast", unfollowed := true, recurses := true, apart := false }
def TopoLeastSaid : Prop := topoLeastRow.holds Try.pinned (OpenSpec.ofChange topoLeastSpec)

/-- ITS FALSE NEIGHBOUR: 'it returns false'. Refute it at one input. -/
def topoLeastWrong : ChangeSpec := { name := "topoLeast", fn := fun _ => fun
  | [d] => { results := [.lit (.bool false)], args := [d] }
  | _ => none }
def TopoLeastWrongFalsely : Prop := topoLeastRow.holds Try.pinned (OpenSpec.ofChange topoLeastWrong)

/-- 'layoutlaw15.TopoRises': WHATEVER THE INPUT: true; the input reads as it did. -/
def topoRisesSpec : ChangeSpec := { name := "topoRises", fn := fun _ => fun
  | [d] => { results := [.lit (.bool true)], args := [d] }
  | _ => none }
def topoRisesRow : OpenClaim := { program := "ytjjcjoedgmfalaa", sum := "89211f3116e1740b3c305f66ee43f3a743d286d3e34828ca78fa70f085a55582", func := "layout/layoutlaw15.TopoRises", spec := "topoRises", unfollowed := true, recurses := true, apart := false }
def TopoRisesSaid : Prop := topoRisesRow.holds Try.pinned (OpenSpec.ofChange topoRisesSpec)

/-- ITS FALSE NEIGHBOUR: 'it returns false'. Refute it at one input. -/
def topoRisesWrong : ChangeSpec := { name := "topoRises", fn := fun _ => fun
  | [d] => { results := [.lit (.bool false)], args := [d] }
  | _ => none }
def TopoRisesWrongFalsely : Prop := topoRisesRow.holds Try.pinned (OpenSpec.ofChange topoRisesWrong)

/- THE SECOND FORM. 'bulk': how many values and letters a reading holds, each counted each time it is reached (what is shared counts as often as it is met; a slice's spare places count too). A statement '..UptoSaid' is the law's where the arguments, and the package variables that the reading takes, are together of bulk at most 1048576: NARROWER than '..Said'. Prove '..Said' where nothing that the law and all that it calls make is longer than what came in: it says more and counts as full. Else prove '..UptoSaid'. A law counts once. -/
mutual
def uptoBulk {H : Type} : DataW H → Nat
  | .lit (.string bytes) => bytes.length + 1
  | .lit _ => 1
  | .nil => 1
  | .ptr d => uptoBulk d + 1
  | .slice elems spare => uptoBulkAll elems + uptoBulkAll spare + 1
  | .agg parts => uptoBulkAll parts + 1
  | .iface _ d => uptoBulk d + 1
  | .map entries => uptoBulkEntries entries + 1
  | .held _ => 1
def uptoBulkAll {H : Type} : List (DataW H) → Nat
  | [] => 0
  | d :: r => uptoBulk d + uptoBulkAll r
def uptoBulkEntries {H : Type} : List (Lit × DataW H) → Nat
  | [] => 0
  | x :: r => uptoBulkEntry x + uptoBulkEntries r
def uptoBulkEntry {H : Type} : Lit × DataW H → Nat
  | (.string bytes, d) => bytes.length + uptoBulk d + 1
  | (_, d) => uptoBulk d + 1
 end
def uptoSmall : (H : Type) → List (DataW H) → Bool := fun _ ds => decide (uptoBulkAll ds ≤ 1048576)
def OpenSpec.upto (s : _root_.Go.ChangeSpec) : _root_.Go.OpenSpec := { _root_.Go.OpenSpec.ofChange s with cond := some uptoSmall }

/-- 'layoutlaw15.TopoReaches', WHERE WHAT IT READS IS OF BULK AT MOST 1048576: true; the input reads as it did. -/
def topoReachesUptoRow : OpenClaim := { program := "ytjjcjoedgmfalaa", sum := "89211f3116e1740b3c305f66ee43f3a743d286d3e34828ca78fa70f085a55582", func := "layout/layoutlaw15.TopoReaches", spec := "topoReaches", unfollowed := true, recurses := true, apart := false, narrowed := true }
def TopoReachesUptoSaid : Prop := topoReachesUptoRow.holds Try.pinned (OpenSpec.upto topoReachesSpec)

/-- 'layoutlaw15.TopoStrong', WHERE WHAT IT READS IS OF BULK AT MOST 1048576: true; the input reads as it did. -/
def topoStrongUptoRow : OpenClaim := { program := "ytjjcjoedgmfalaa", sum := "89211f3116e1740b3c305f66ee43f3a743d286d3e34828ca78fa70f085a55582", func := "layout/layoutlaw15.TopoStrong", spec := "topoStrong", unfollowed := true, recurses := true, apart := false, narrowed := true }
def TopoStrongUptoSaid : Prop := topoStrongUptoRow.holds Try.pinned (OpenSpec.upto topoStrongSpec)

/-- 'layoutlaw15.TopoOrders', WHERE WHAT IT READS IS OF BULK AT MOST 1048576: true; the input reads as it did. -/
def topoOrdersUptoRow : OpenClaim := { program := "ytjjcjoedgmfalaa", sum := "89211f3116e1740b3c305f66ee43f3a743d286d3e34828ca78fa70f085a55582", func := "layout/layoutlaw15.TopoOrders", spec := "topoOrders", unfollowed := true, recurses := true, apart := false, narrowed := true }
def TopoOrdersUptoSaid : Prop := topoOrdersUptoRow.holds Try.pinned (OpenSpec.upto topoOrdersSpec)

/-- 'layoutlaw15.TopoParts', WHERE WHAT IT READS IS OF BULK AT MOST 1048576: true; the input reads as it did. -/
def topoPartsUptoRow : OpenClaim := { program := "ytjjcjoedgmfalaa", sum := "89211f3116e1740b3c305f66ee43f3a743d286d3e34828ca78fa70f085a55582", func := "layout/layoutlaw15.TopoParts", spec := "topoParts", unfollowed := true, recurses := true, apart := false, narrowed := true }
def TopoPartsUptoSaid : Prop := topoPartsUptoRow.holds Try.pinned (OpenSpec.upto topoPartsSpec)

/-- 'layoutlaw15.TopoLeast', WHERE WHAT IT READS IS OF BULK AT MOST 1048576: true; the input reads as it did. -/
def topoLeastUptoRow : OpenClaim := { program := "ytjjcjoedgmfalaa", sum := "89211f3116e1740b3c305f66ee43f3a743d286d3e34828ca78fa70f085a55582", func := "layout/layoutlaw15.TopoLeast", spec := "topoLeast", unfollowed := true, recurses := true, apart := false, narrowed := true }
def TopoLeastUptoSaid : Prop := topoLeastUptoRow.holds Try.pinned (OpenSpec.upto topoLeastSpec)

/-- 'layoutlaw15.TopoRises', WHERE WHAT IT READS IS OF BULK AT MOST 1048576: true; the input reads as it did. -/
def topoRisesUptoRow : OpenClaim := { program := "ytjjcjoedgmfalaa", sum := "89211f3116e1740b3c305f66ee43f3a743d286d3e34828ca78fa70f085a55582", func := "layout/layoutlaw15.TopoRises", spec := "topoRises", unfollowed := true, recurses := true, apart := false, narrowed := true }
def TopoRisesUptoSaid : Prop := topoRisesUptoRow.holds Try.pinned (OpenSpec.upto topoRisesSpec)

end Rows
end Go.Proofs.Ytjjcjoedgmfalaa
