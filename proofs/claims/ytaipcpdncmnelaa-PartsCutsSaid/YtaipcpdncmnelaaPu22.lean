/- Packed texts: PrtFinA, FixPost -/
import Derived.Test.YtaipcpdncmnelaaPu12
import Derived.Test.YtaipcpdncmnelaaPu21
import Derived.Test.YtaipcpdncmnelaaPu01
import Derived.ProofKit
set_option linter.unusedVariables false
set_option linter.unusedSimpArgs false
/- The laws of Components, Cuts and Blocks. -/
namespace Go.Proofs.Ytaipcpdncmnelaa.Pt
open Go.RowKit Go.Sort Go.Lib Fx Tp

theorem comps_card (g : Value) (w : World) (hg : DigArg w g) : Calls Try.prog 3 #[g] w fun e w' => e = .returned (.bool true) ∧ Ext w w' := comps_walk vis g w hg
theorem cuts_card (g : Value) (w : World) (hg : DigArg w g) : Calls Try.prog 4 #[g] w fun e w' => e = .returned (.bool true) ∧ Ext w w' := cuts_walk vis g w hg
theorem blocks_card (g : Value) (w : World) (hg : DigArg w g) : Calls Try.prog 5 #[g] w fun e w' => e = .returned (.bool true) ∧ Ext w w' := blocks_walk vis g w hg
end Go.Proofs.Ytaipcpdncmnelaa.Pt

/- From a walk that leaves all old memory as it was to what a row asks behind the call. -/
namespace Go.Proofs.Ytaipcpdncmnelaa.Fx
open Go.ChangeShapes Go.WideShapes Go.ChangeAt Go.RowKit
section
variable {H : Type} {enc : TypeId × Value → H} {P : Program}
theorem post_ext {f : Func} {s : ChangeSpec} {apart fresh handsOn again : Bool} {W W' : World} {args : Array Value} {v : Value} {ds gs : List (DataW H)} {places pa pv : List MemPlace}
    (hW : DataW.Whole enc P f.params.toList s.vars apart W args.toList ds gs places)
    (results : ∀ (b : Nat) (sp : Nat → Bool) (hd : Bool), DataW.TrodAll enc P W' b sp hd f.resultTypes.toList (v.resultList f.resultTypes.size) (s.fn H (ds ++ gs)).results [])
    (arguments : ∀ sp : Nat → Bool, (∀ x ∈ places, sp x.block = true) → DataW.TrodAll enc P W' 0 sp true f.params.toList args.toList (s.fn H (ds ++ gs)).args pa)
    (variables : ∀ sp : Nat → Bool, (∀ x ∈ places, sp x.block = true) → DataW.TrodVars enc P W' sp s.vars (s.fn H (ds ++ gs)).vars pv)
    (split : places = pa ++ pv) (ext : Ext W W')
    (ok : ∀ (j : Nat) (t : TypeId) (r : Value), f.resultTypes[j]? = some t → (v.resultList f.resultTypes.size)[j]? = some r → Value.okWide P W' .any 0 t r) :
    s.post enc P f apart fresh handsOn again W args v W' := by
  subst split
  have low : ∀ x ∈ pa ++ pv, x.block < W.heap.size := fun x hx => hW.lt x hx
  have mark : ∀ x ∈ pa ++ pv, (fun b => decide (b < W.heap.size)) x.block = true := fun x hx => decide_eq_true (low x hx)
  have whole := hW
  obtain ⟨_, _, _, _, _, cold, once⟩ := hW
  refine ⟨ds, gs, pa ++ pv, [], pa, pv, whole, results _ _ _, arguments _ mark, variables _ mark, World.keptBut_mono (fun x hx => ⟨hx, by simpa using hx⟩) (Below.frame ext (· ∈ pa ++ pv)), fun _ => ⟨ok, _, _, [] ++ pa ++ pv, ⟨[] ++ pa, pv, trodAll_append (arguments _ fun _ _ => rfl) (results _ _ _), variables _ fun _ _ => rfl, rfl, fun b off hb => ?_, fun ha => ?_⟩, fun x hx _ => ?_⟩⟩
  · have at' : MemPlace.cell b off ∈ pa ++ pv := by simpa using hb
    rw [Below.frozen ext (low _ at')]
    exact cold b off at'
  · have := once ha; simpa using this
  · simpa using hx
end
end Go.Proofs.Ytaipcpdncmnelaa.Fx
