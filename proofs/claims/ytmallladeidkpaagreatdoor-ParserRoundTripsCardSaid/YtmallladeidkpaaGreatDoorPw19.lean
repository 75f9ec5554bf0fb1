/- Packed texts: ParDef -/
import Derived.Test.YtmallladeidkpaaGreatDoorPw15
import Derived.Deep.DeepCutAuto
set_option linter.unusedVariables false
set_option linter.unusedSimpArgs false
/- What stands behind the drawn order of a default's statement. -/
namespace Go.Proofs.YtmallladeidkpaaGreatDoor.Pa
open Go.RowKit Go.Sort Go.Lib Go.Shelf Fx Lx Tr

def zero5 : Obj := .cells #[.int .i64 0, .string ⟨#[]⟩, .slice none 0 0, .slice none 0 0, .slice none 0 0] 44
/-- The statement lies in a block of its own, and its mark is still to come. -/
def DefCut (pb : Nat) (a : Option Addr) (cap : Nat) (T : List Tok) (ar : ByteArray) (dep : Int) (w : World) (x : List UInt8) (X : PR Stm) (s4 : Value) (wx : World) : Prop :=
  ∃ (c : Nat) (L : List Two) (r2 : List Tok) (la : Option Addr) (lc : Nat), s4 = .pointer (some ⟨c, 0, none⟩) ∧ w.heap.size + 1 ≤ c ∧
    wx.heap[c]? = some (.cells #[.int .i64 3, .string ⟨x.toArray⟩, .slice none 0 0, .slice la L.length lc, .slice none 0 0] 44 (0, 0)) ∧ PSt pb a cap T ar dep r2 wx ∧ But pb w wx ∧
    TwoP (w.heap.size + 1 ≤ ·) wx la L ∧ L.length ≤ lc ∧ lc ≤ maxLen ∧ wx.heap[w.heap.size]? = some zero5 ∧
    X = (pMark (lastL T) [59] r2).bind fun _ r => .ok (.mk 3 ⟨x.toArray⟩ [] L []) r
theorem defCut_A {pb : Nat} {a : Option Addr} {cap : Nat} {T : List Tok} {ar : ByteArray} {dep : Int} {w W2 w3 : World} {x : List UInt8} {X : PR Stm} {L : List Two} {r2 : List Tok} {la : Option Addr} {lc : Nat}
    (X02 : But pb w W2) (hp : pb < w.heap.size) (hl : w.heap.size + 1 ≤ W2.heap.size) (hh : W2.heap[w.heap.size]? = some zero5) (x3' : But pb W2.drew w3) (hs3 : PSt pb a cap T ar dep r2 w3) (htp : TwoP (W2.heap.size ≤ ·) w3 la L) (h1 : L.length ≤ lc) (h2 : lc ≤ maxLen)
    (hX : X = (pMark (lastL T) [59] r2).bind fun _ r => .ok (.mk 3 ⟨x.toArray⟩ [] L []) r) :
    DefCut pb a cap T ar dep w x X (.pointer (some ⟨w3.heap.size, 0, none⟩)) (w3.alloc (.cells #[.int .i64 3, .string ⟨x.toArray⟩, .slice none 0 0, .slice la L.length lc, .slice none 0 0] 44)) := by
  have x3 : But pb W2 w3 := (But.of ((Ext.refl W2).drew)).trans x3'
  have hl3 := x3.size
  have xa := (Ext.refl w3).alloc (.cells #[.int .i64 3, .string ⟨x.toArray⟩, .slice none 0 0, .slice la L.length lc, .slice none 0 0] 44)
  exact ⟨w3.heap.size, L, r2, la, lc, rfl, by omega, heap_alloc_new w3 _, hs3.ext xa, (X02.trans x3).ext xa,
    htp.keep (fun g hg hlg => xa.block g hlg) (fun g hg _ => by have hg : W2.heap.size ≤ g := hg; show w.heap.size + 1 ≤ g; omega), h1, h2,
    (xa.block _ (by omega)).trans (but_heap x3 hh (by omega)), hX⟩
theorem defCut_B {pb : Nat} {a : Option Addr} {cap : Nat} {T : List Tok} {ar : ByteArray} {dep : Int} {w W2 w3 : World} {x : List UInt8} {X : PR Stm} {L : List Two} {r2 : List Tok} {la : Option Addr} {lc : Nat}
    (X02 : But pb w W2) (hp : pb < w.heap.size) (hl : w.heap.size + 1 ≤ W2.heap.size) (hh : W2.heap[w.heap.size]? = some zero5) (x3 : But pb (W2.drew.alloc zero5) w3) (hs3 : PSt pb a cap T ar dep r2 w3) (htp : TwoP ((W2.drew.alloc zero5).heap.size ≤ ·) w3 la L) (h1 : L.length ≤ lc) (h2 : lc ≤ maxLen)
    (hX : X = (pMark (lastL T) [59] r2).bind fun _ r => .ok (.mk 3 ⟨x.toArray⟩ [] L []) r) :
    DefCut pb a cap T ar dep w x X (.pointer (some ⟨W2.heap.size, 0, none⟩)) (((((w3.setCell ⟨W2.heap.size, 0, none⟩ (.int .i64 3)).setCell ⟨W2.heap.size, 1, none⟩ (.string ⟨x.toArray⟩)).setCell ⟨W2.heap.size, 2, none⟩ (.slice none 0 0)).setCell ⟨W2.heap.size, 3, none⟩ (.slice la L.length lc)).setCell ⟨W2.heap.size, 4, none⟩ (.slice none 0 0)) := by
  have hl3 := x3.size
  have hsz : (W2.drew.alloc zero5).heap.size = W2.heap.size + 1 := World.size_alloc _ _
  have xd : Ext W2 (W2.drew.alloc zero5) := ((Ext.refl W2).drew).alloc _
  have k4 := but_heap x3 (heap_alloc_new W2.drew zero5) (by show W2.heap.size ≠ pb; omega)
  have X03 := (X02.ext xd).trans x3
  obtain ⟨F1, F2, F3⟩ := fin_five hs3 X03 W2.heap.size (by omega) (by omega) (.int .i64 3) (.string ⟨x.toArray⟩) (.slice none 0 0) (.slice la L.length lc) (.slice none 0 0)
  refine ⟨W2.heap.size, L, r2, la, lc, rfl, by omega, set_five k4 _ _ _ _ _, F1, F2, ?_, h1, h2, ?_, hX⟩
  · exact htp.keep (fun g hg hlg => F3 g (by have hg : (W2.drew.alloc zero5).heap.size ≤ g := hg; omega)) (fun g hg _ => by have hg : (W2.drew.alloc zero5).heap.size ≤ g := hg; show w.heap.size + 1 ≤ g; omega)
  · exact (F3 _ (by omega)).trans (but_heap x3 ((xd.block _ (by omega)).trans hh) (by omega))
end Go.Proofs.YtmallladeidkpaaGreatDoor.Pa
