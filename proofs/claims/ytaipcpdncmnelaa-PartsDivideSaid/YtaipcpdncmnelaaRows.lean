/-
  No cell of these rows narrows 'for every input' (looked for: loops, veiled, ifaces, maps, wideKeys, modest, calm, conditions, laid).
  DERIVED. THE GIVEN ROWS OF THIS SEAT. 5 by the template 'for every input the law returns true; each argument reads behind the call as it read before'; 0 by the template 'total and deterministic' (their statements: YtaipcpdncmnelaaTotals.lean).
  GIVEN WITH THE SEED: the statements are not yours to turn. If you find one false, say at which input.
  Laid BY PROGRAM, IN A SANDBOX (cutbox-rows.mjs): the forced cells as the released guide's own fill.sh prints them over the translation 5a15685a9badd444… (all of the seat's roots in one cut). By AI agents, Wed Nov 11 2026. No macro, syntax, notation, axiom, sorry.
-/
import Derived.Test.YtaipcpdncmnelaaChecked
import GoSem.Claim
import GoSem.ClaimJoined
import GoSem.ClaimMapViews
import Derived.JoinedTies
import Derived.KernelRfl
namespace Go.Proofs.Ytaipcpdncmnelaa
/- THE CELL 'sum', in the pinned program and in every row, IS THE sha256 OF THE DUMP (.gsa) THAT YtaipcpdncmnelaaProg.lean LOADS. Nothing in Lean hashes anything: it is a label: what it is worth is what the hold of that sum in a sandbox is worth. -/
noncomputable def Try.pinned : Pinned := { name := "ytaipcpdncmnelaa", sum := "5a15685a9badd4440d65db3cd2e73ad873e6374289c4032e6bf9becd7a68cb5a", checked := Try.checked }
namespace Rows
def none {H : Type} : Left H := { results := [], args := [] }

/-- 'layoutlaw16.PartsComponents': WHATEVER THE INPUT: true; the input reads as it did. -/
def partsComponentsSpec : ChangeSpec := { name := "partsComponents", fn := fun _ => fun
  | [d] => { results := [.lit (.bool true)], args := [d] }
  | _ => none }
def partsComponentsRow : OpenClaim := { program := "ytaipcpdncmnelaa", sum := "5a15685a9badd4440d65db3cd2e73ad873e6374289c4032e6bf9becd7a68cb5a", func := "layout/layoutlaw16.PartsComponents", spec := "partsComponents", unfollowed := true, recurses := true, apart := false }
def PartsComponentsSaid : Prop := partsComponentsRow.holds Try.pinned (OpenSpec.ofChange partsComponentsSpec)

/-- ITS FALSE NEIGHBOUR: 'it returns false'. Refute it at one input. -/
def partsComponentsWrong : ChangeSpec := { name := "partsComponents", fn := fun _ => fun
  | [d] => { results := [.lit (.bool false)], args := [d] }
  | _ => none }
def PartsComponentsWrongFalsely : Prop := partsComponentsRow.holds Try.pinned (OpenSpec.ofChange partsComponentsWrong)

/-- 'layoutlaw16.PartsCuts': WHATEVER THE INPUT: true; the input reads as it did. -/
def partsCutsSpec : ChangeSpec := { name := "partsCuts", fn := fun _ => fun
  | [d] => { results := [.lit (.bool true)], args := [d] }
  | _ => none }
def partsCutsRow : OpenClaim := { program := "ytaipcpdncmnelaa", sum := "5a15685a9badd4440d65db3cd2e73ad873e6374289c4032e6bf9becd7a68cb5a", func := "layout/layoutlaw16.PartsCuts", spec := "partsCuts", unfollowed := true, recurses := true, apart := false }
def PartsCutsSaid : Prop := partsCutsRow.holds Try.pinned (OpenSpec.ofChange partsCutsSpec)

/-- ITS FALSE NEIGHBOUR: 'it returns false'. Refute it at one input. -/
def partsCutsWrong : ChangeSpec := { name := "partsCuts", fn := fun _ => fun
  | [d] => { results := [.lit (.bool false)], args := [d] }
  | _ => none }
def PartsCutsWrongFalsely : Prop := partsCutsRow.holds Try.pinned (OpenSpec.ofChange partsCutsWrong)

/-- 'layoutlaw16.PartsBlocks': WHATEVER THE INPUT: true; the input reads as it did. -/
def partsBlocksSpec : ChangeSpec := { name := "partsBlocks", fn := fun _ => fun
  | [d] => { results := [.lit (.bool true)], args := [d] }
  | _ => none }
def partsBlocksRow : OpenClaim := { program := "ytaipcpdncmnelaa", sum := "5a15685a9badd4440d65db3cd2e73ad873e6374289c4032e6bf9becd7a68cb5a", func := "layout/layoutlaw16.PartsBlocks", spec := "partsBlocks", unfollowed := true, recurses := true, apart := false }
def PartsBlocksSaid : Prop := partsBlocksRow.holds Try.pinned (OpenSpec.ofChange partsBlocksSpec)

/-- ITS FALSE NEIGHBOUR: 'it returns false'. Refute it at one input. -/
def partsBlocksWrong : ChangeSpec := { name := "partsBlocks", fn := fun _ => fun
  | [d] => { results := [.lit (.bool false)], args := [d] }
  | _ => none }
def PartsBlocksWrongFalsely : Prop := partsBlocksRow.holds Try.pinned (OpenSpec.ofChange partsBlocksWrong)

/-- 'layoutlaw16.PartsDivide': WHATEVER THE INPUT: true; the input reads as it did. -/
def partsDivideSpec : ChangeSpec := { name := "partsDivide", fn := fun _ => fun
  | [d] => { results := [.lit (.bool true)], args := [d] }
  | _ => none }
def partsDivideRow : OpenClaim := { program := "ytaipcpdncmnelaa", sum := "5a15685a9badd4440d65db3cd2e73ad873e6374289c4032e6bf9becd7a68cb5a", func := "layout/layoutlaw16.PartsDivide", spec := "partsDivide", unfollowed := true, recurses := true, apart := false }
def PartsDivideSaid : Prop := partsDivideRow.holds Try.pinned (OpenSpec.ofChange partsDivideSpec)

/-- ITS FALSE NEIGHBOUR: 'it returns false'. Refute it at one input. -/
def partsDivideWrong : ChangeSpec := { name := "partsDivide", fn := fun _ => fun
  | [d] => { results := [.lit (.bool false)], args := [d] }
  | _ => none }
def PartsDivideWrongFalsely : Prop := partsDivideRow.holds Try.pinned (OpenSpec.ofChange partsDivideWrong)

/-- 'layoutlaw16.PartsTurns': WHATEVER THE INPUT: true; the input reads as it did. -/
def partsTurnsSpec : ChangeSpec := { name := "partsTurns", fn := fun _ => fun
  | [d1, d2] => { results := [.lit (.bool true)], args := [d1, d2] }
  | _ => none }
def partsTurnsRow : OpenClaim := { program := "ytaipcpdncmnelaa", sum := "5a15685a9badd4440d65db3cd2e73ad873e6374289c4032e6bf9becd7a68cb5a", func := "layout/layoutlaw16.PartsTurns", spec := "partsTurns", unfollowed := true, recurses := true, apart := false }
def PartsTurnsSaid : Prop := partsTurnsRow.holds Try.pinned (OpenSpec.ofChange partsTurnsSpec)

/-- ITS FALSE NEIGHBOUR: 'it returns false'. Refute it at one input. -/
def partsTurnsWrong : ChangeSpec := { name := "partsTurns", fn := fun _ => fun
  | [d1, d2] => { results := [.lit (.bool false)], args := [d1, d2] }
  | _ => none }
def PartsTurnsWrongFalsely : Prop := partsTurnsRow.holds Try.pinned (OpenSpec.ofChange partsTurnsWrong)

/- THE SECOND FORM. 'bulk': how many values and letters a reading holds, each counted each time it is reached (what is shared counts as often as it is met; a slice's spare places count too). A statement '..UptoSaid' is the law's where the arguments, and the package variables that the reading takes, are together of bulk at most 1048576: NARROWER than '..Said'. Prove '..Said' where nothing that the law and all that it calls make is longer than what came in: it says more and counts as full. Else prove '..UptoSaid'. A law counts once. -/
mutual
def uptoBulk {H : Type} : DataW H → Nat
  | .lit (.string bytes) => bytes.length + 1
  | .lit _ => 1
  | .nil => 1
  | .ptr d => uptoBulk d + 1
  | .slice elems spare => uptoBulkAll elems + uptoBulkAll spare + 1
  | .agg parts => uptoBulkAll parts + 1
  | .iface _ d => uptoBulk d + 1
  | .map entries => uptoBulkEntries entries + 1
  | .held _ => 1
def uptoBulkAll {H : Type} : List (DataW H) → Nat
  | [] => 0
  | d :: r => uptoBulk d + uptoBulkAll r
def uptoBulkEntries {H : Type} : List (Lit × DataW H) → Nat
  | [] => 0
  | x :: r => uptoBulkEntry x + uptoBulkEntries r
def uptoBulkEntry {H : Type} : Lit × DataW H → Nat
  | (.string bytes, d) => bytes.length + uptoBulk d + 1
  | (_, d) => uptoBulk d + 1
 end
def uptoSmall : (H : Type) → List (DataW H) → Bool := fun _ ds => decide (uptoBulkAll ds ≤ 1048576)
def OpenSpec.upto (s : _root_.Go.ChangeSpec) : _root_.Go.OpenSpec := { _root_.Go.OpenSpec.ofChange s with cond := some uptoSmall }

/-- 'layoutlaw16.PartsComponents', WHERE WHAT IT READS IS OF BULK AT MOST 1048576: true; the input reads as it did. -/
def partsComponentsUptoRow : OpenClaim := { program := "ytaipcpdncmnelaa", sum := "5a15685a9badd4440d65db3cd2e73ad873e6374289c4032e6bf9becd7a68cb5a", func := "layout/layoutlaw16.PartsComponents", spec := "partsComponents", unfollowed := true, recurses := true, apart := false, narrowed := true }
def PartsComponentsUptoSaid : Prop := partsComponentsUptoRow.holds Try.pinned (OpenSpec.upto partsComponentsSpec)

/-- 'layoutlaw16.PartsCuts', WHERE WHAT IT READS IS OF BULK AT MOST 1048576: true; the input reads as it did. -/
def partsCutsUptoRow : OpenClaim := { program := "ytaipcpdncmnelaa", sum := "5a15685a9badd4440d65db3cd2e73ad873e6374289c4032e6bf9becd7a68cb5a", func := "layout/layoutlaw16.PartsCuts", spec := "partsCuts", unfollowed := true, recurses := true, apart := false, narrowed := true }
def PartsCutsUptoSaid : Prop := partsCutsUptoRow.holds Try.pinned (OpenSpec.upto partsCutsSpec)

/-- 'layoutlaw16.PartsBlocks', WHERE WHAT IT READS IS OF BULK AT MOST 1048576: true; the input reads as it did. -/
def partsBlocksUptoRow : OpenClaim := { program := "ytaipcpdncmnelaa", sum := "5a15685a9badd4440d65db3cd2e73ad873e6374289c4032e6bf9becd7a68cb5a", func := "layout/layoutlaw16.PartsBlocks", spec := "partsBlocks", unfollowed := true, recurses := true, apart := false, narrowed := true }
def PartsBlocksUptoSaid : Prop := partsBlocksUptoRow.holds Try.pinned (OpenSpec.upto partsBlocksSpec)

/-- 'layoutlaw16.PartsDivide', WHERE WHAT IT READS IS OF BULK AT MOST 1048576: true; the input reads as it did. -/
def partsDivideUptoRow : OpenClaim := { program := "ytaipcpdncmnelaa", sum := "5a15685a9badd4440d65db3cd2e73ad873e6374289c4032e6bf9becd7a68cb5a", func := "layout/layoutlaw16.PartsDivide", spec := "partsDivide", unfollowed := true, recurses := true, apart := false, narrowed := true }
def PartsDivideUptoSaid : Prop := partsDivideUptoRow.holds Try.pinned (OpenSpec.upto partsDivideSpec)

/-- 'layoutlaw16.PartsTurns', WHERE WHAT IT READS IS OF BULK AT MOST 1048576: true; the input reads as it did. -/
def partsTurnsUptoRow : OpenClaim := { program := "ytaipcpdncmnelaa", sum := "5a15685a9badd4440d65db3cd2e73ad873e6374289c4032e6bf9becd7a68cb5a", func := "layout/layoutlaw16.PartsTurns", spec := "partsTurns", unfollowed := true, recurses := true, apart := false, narrowed := true }
def PartsTurnsUptoSaid : Prop := partsTurnsUptoRow.holds Try.pinned (OpenSpec.upto partsTurnsSpec)

end Rows
end Go.Proofs.Ytaipcpdncmnelaa
