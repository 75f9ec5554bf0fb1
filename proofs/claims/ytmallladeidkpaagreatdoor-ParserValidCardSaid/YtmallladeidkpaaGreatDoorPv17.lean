/- Packed texts: ParSrd, ParRec, ParSuf -/
import Derived.Test.YtmallladeidkpaaGreatDoorPv16
import Derived.Deep.DeepCutAuto
import Derived.Test.YtmallladeidkpaaGreatDoorPv14
import Derived.Defers
import Derived.Recover
import Derived.Test.YtmallladeidkpaaGreatDoorPv09
import Derived.Test.YtmallladeidkpaaGreatDoorPv07
import Derived.Test.YtmallladeidkpaaGreatDoorPv08
set_option linter.unusedVariables false
set_option linter.unusedSimpArgs false
/- The parser's source: a whole tree. -/
namespace Go.Proofs.YtmallladeidkpaaGreatDoor.Pa
open Go.RowKit Go.Sort Go.Lib Go.Shelf Fx Lx Tr

def zero3 : Obj := .cells #[.string ⟨#[]⟩, .bool false, .slice none 0 0] 24
theorem size_tree : (Tryz.prog.info? 24).map (·.size) = some 3 := by kernel_rfl
theorem three_cells {w : World} {c0 c1 c2 : Value} {b : Nat} {T : TypeId} (h : w.heap[b]? = some (.cells #[c0, c1, c2] T (0, 0))) :
    w.cell? ⟨b, 0, none⟩ = some c0 ∧ w.cell? ⟨b, 1, none⟩ = some c1 ∧ w.cell? ⟨b, 2, none⟩ = some c2 ∧
      w.frozen? ⟨b, 0, none⟩ = false ∧ w.frozen? ⟨b, 1, none⟩ = false ∧ w.frozen? ⟨b, 2, none⟩ = false := by
  refine ⟨?_, ?_, ?_, Lib.frozen_of_heap h 0, Lib.frozen_of_heap h 1, Lib.frozen_of_heap h 2⟩ <;> rw [Lib.cell_of_heap h] <;> rfl
theorem set_three {w : World} {c0 c1 c2 : Value} {b : Nat} {T : TypeId} (h : w.heap[b]? = some (.cells #[c0, c1, c2] T (0, 0))) (d0 d1 d2 : Value) :
    (((w.setCell ⟨b, 0, none⟩ d0).setCell ⟨b, 1, none⟩ d1).setCell ⟨b, 2, none⟩ d2).heap[b]? = some (.cells #[d0, d1, d2] T (0, 0)) :=
  setOne (setOne (setOne h 0 d0) 1 d1) 2 d2
theorem fin_three {pb : Nat} {a : Option Addr} {cap : Nat} {T : List Tok} {ar : ByteArray} {dep : Int} {r : List Tok} {w w6 : World} (hs : PSt pb a cap T ar dep r w6) (x : But pb w w6) (b : Nat) (hp : pb < b) (hw : w.heap.size ≤ b) (d0 d1 d2 : Value) :
    PSt pb a cap T ar dep r (((w6.setCell ⟨b, 0, none⟩ d0).setCell ⟨b, 1, none⟩ d1).setCell ⟨b, 2, none⟩ d2) ∧
    But pb w (((w6.setCell ⟨b, 0, none⟩ d0).setCell ⟨b, 1, none⟩ d1).setCell ⟨b, 2, none⟩ d2) ∧
    ∀ g, g ≠ b → (((w6.setCell ⟨b, 0, none⟩ d0).setCell ⟨b, 1, none⟩ d1).setCell ⟨b, 2, none⟩ d2).heap[g]? = w6.heap[g]? := by
  refine ⟨(((hs.far (p := ⟨b, 0, none⟩) hp d0).far (p := ⟨b, 1, none⟩) hp d1).far (p := ⟨b, 2, none⟩) hp d2),
    but_far (but_far (but_far x (p := ⟨b, 0, none⟩) hw d0) (p := ⟨b, 1, none⟩) hw d1) (p := ⟨b, 2, none⟩) hw d2, fun g hg => ?_⟩
  rw [Below.heap_setCell _ _ _ _ hg, Below.heap_setCell _ _ _ _ hg, Below.heap_setCell _ _ _ _ hg]
theorem PSt.arrow {pb : Nat} {a : Option Addr} {cap : Nat} {T : List Tok} {ar : ByteArray} {dep : Int} {r : List Tok} {w : World} (h : PSt pb a cap T ar dep r w) (ar' : ByteArray) :
    w.frozen? ⟨pb, 2, none⟩ = false ∧ PSt pb a cap T ar' dep r (w.setCell ⟨pb, 2, none⟩ (.string ar')) ∧ But pb w (w.setCell ⟨pb, 2, none⟩ (.string ar')) := by
  obtain ⟨k, hk, hn, hd, hc, ht, he, hm⟩ := h
  have hb : But pb w (w.setCell ⟨pb, 2, none⟩ (.string ar')) := (But.refl pb w).setCell ⟨pb, 2, none⟩ rfl _
  exact ⟨hc.cells.2.2.2.2 2, ⟨k, hk, hn, hd, hc.arrow ar', ht.but hb, he.but hb, hm⟩, hb⟩
/-- A tree's three cells, and what they lead to. -/
def TreeV (ok : Nat → Prop) (t : Bool × ByteArray × List Stm) (u : Value) (w : World) : Prop :=
  ∃ b cap, u = .agg #[.string t.2.1, .bool t.1, .slice b t.2.2.length cap] ∧ StmsP ok w b t.2.2 ∧ t.2.2.length ≤ cap ∧ cap ≤ maxLen
def SOut (pb : Nat) (a : Option Addr) (cap : Nat) (T : List Tok) {α : Type} (V : α → Value → World → Prop) (x : PR α) (e : Ending) (w' : World) : Prop := match x with
  | .ok v r => ∃ u, e = .returned u ∧ V v u w' ∧ ∃ ar, PSt pb a cap T ar 0 r w'
  | .err ln er => e = failE ln er
/-- The tree's variable, and the parser behind the word at its head. -/
def SrcAt (pb : Nat) (a : Option Addr) (cap : Nat) (T : List Tok) (ar : ByteArray) (r : List Tok) (w : World) (b : Nat) (nm : ByteArray) (d : Bool) (wx : World) : Prop :=
  PSt pb a cap T ar 0 r wx ∧ But pb w wx ∧ wx.heap[w.heap.size]? = some zero3 ∧ w.heap.size < b ∧ wx.heap[b]? = some (.cells #[.string nm, .bool d, .slice none 0 0] 24 (0, 0))
theorem SrcAt.but {pb : Nat} {a : Option Addr} {cap : Nat} {T : List Tok} {ar : ByteArray} {r r' : List Tok} {w : World} {b : Nat} {nm : ByteArray} {d : Bool} {w1 w2 : World} (h : SrcAt pb a cap T ar r w b nm d w1) (hp : pb < w.heap.size) (hs : PSt pb a cap T ar 0 r' w2) (x : But pb w1 w2) : SrcAt pb a cap T ar r' w b nm d w2 :=
  ⟨hs, h.2.1.trans x, but_heap x h.2.2.1 (by omega), h.2.2.2.1, but_heap x h.2.2.2.2 (by have := h.2.2.2.1; omega)⟩
theorem SrcAt.name {pb : Nat} {a : Option Addr} {cap : Nat} {T : List Tok} {ar : ByteArray} {r : List Tok} {w : World} {b : Nat} {nm : ByteArray} {d : Bool} {w1 : World} (h : SrcAt pb a cap T ar r w b nm d w1) (hp : pb < w.heap.size) (nm' : ByteArray) : SrcAt pb a cap T ar r w b nm' d (w1.setCell ⟨b, 0, none⟩ (.string nm')) := by
  obtain ⟨h1, h2, h3, h4, h5⟩ := h
  exact ⟨h1.far (p := ⟨b, 0, none⟩) (by show pb < b; omega) _, but_far h2 (p := ⟨b, 0, none⟩) (by show w.heap.size ≤ b; omega) _, (Below.heap_setCell w1 ⟨b, 0, none⟩ _ _ (by show w.heap.size ≠ b; omega)).trans h3, h4, setOne h5 0 _⟩
/-- Behind the head: the name, the block. -/
def srcTail (last : Int) (d : Bool) (ar : List UInt8) (f : Nat) (r : List Tok) : PR (Bool × ByteArray × List Stm) := (pName last r).bind fun n r => (pBlock last ar f 0 r).bind fun b r => .ok (d, n, b) r
theorem src_start {pb : Nat} {a : Option Addr} {cap : Nat} {T : List Tok} {ar ar' : ByteArray} {r : List Tok} {w w1 : World} {d : Bool} (hlp : pb < w.heap.size) (hs : PSt pb a cap T ar 0 r w1) (x : But pb (w.alloc zero3) w1) :
    w.heap.size < w1.heap.size ∧ SrcAt pb a cap T ar' r w w1.heap.size ⟨#[]⟩ d ((w1.setCell ⟨pb, 2, none⟩ (.string ar')).alloc (.cells #[.string ⟨#[]⟩, .bool d, .slice none 0 0] 24)) := by
  have hl := x.size
  rw [World.size_alloc] at hl
  obtain ⟨_, hs', xb⟩ := hs.arrow ar'
  have hx := (Ext.refl (w1.setCell ⟨pb, 2, none⟩ (.string ar'))).alloc (.cells #[.string ⟨#[]⟩, .bool d, .slice none 0 0] 24)
  have k := but_heap (x.trans xb) (heap_alloc_new w zero3) (by omega)
  have h2 := heap_alloc_new (w1.setCell ⟨pb, 2, none⟩ (.string ar')) (.cells #[.string ⟨#[]⟩, .bool d, .slice none 0 0] 24)
  have hz : (w1.setCell ⟨pb, 2, none⟩ (.string ar')).heap.size = w1.heap.size := by simp
  rw [hz] at h2
  exact ⟨by omega, hs'.ext hx, (But.of ((Ext.refl w).alloc zero3)).trans ((x.trans xb).trans (But.of hx)), (hx.block _ (by rw [hz]; omega)).trans k, by omega, h2⟩
theorem SrcAt.arrow {pb : Nat} {a : Option Addr} {cap : Nat} {T : List Tok} {ar : ByteArray} {r : List Tok} {w : World} {b : Nat} {nm : ByteArray} {d : Bool} {w1 : World} (h : SrcAt pb a cap T ar r w b nm d w1) (hp : pb < w.heap.size) (ar' : ByteArray) : SrcAt pb a cap T ar' r w b nm d (w1.setCell ⟨pb, 2, none⟩ (.string ar')) := by
  obtain ⟨g1, g2, g3, g4, g5⟩ := h
  obtain ⟨_, h2, h3⟩ := g1.arrow ar'
  exact ⟨h2, g2.trans h3, but_heap h3 g3 (by omega), g4, but_heap h3 g5 (by omega)⟩
set_option maxHeartbeats 4000000 in
set_option maxRecDepth 100000 in
theorem source_any (pb : Nat) (a : Option Addr) (cap : Nat) (T : List Tok) (hB : ∀ ar f, BlockC pb a cap T ar f) (f : Nat) (r : List Tok) (hf : 2 * r.length + 3 ≤ f) (ar : ByteArray) (w : World) (h : PSt pb a cap T ar 0 r w) :
    Calls Tryz.prog 22 #[.pointer (some ⟨pb, 0, none⟩)] w fun e w' =>
      SOut pb a cap T (fun t u w' => TreeV (w.heap.size ≤ ·) t u w') (pTree (lastL T) f r) e w' ∧ But pb w w' := by
  obtain ⟨X, hX⟩ : ∃ X, X = pTree (lastL T) f r := ⟨_, rfl⟩
  rw [← hX]
  have hlp := h.lt
  have htk := take_l pb a cap T ar 0 r 2 (by decide) ⟨#[100, 105, 103, 114, 97, 112, 104]⟩ [100, 105, 103, 114, 97, 112, 104] rfl _ (h.ext ((Ext.refl w).alloc zero3))
  unfold pTree at hX
  unfold zero3 at htk
  cases hi : isT 2 [100, 105, 103, 114, 97, 112, 104] r
  · rw [hi, if_neg (by decide)] at htk
    rw [if_neg (by rw [hi]; decide)] at hX
    have hth := fun w1 (x : PSt pb a cap T ⟨#[45, 62]⟩ 0 r w1) => take_l pb a cap T ⟨#[45, 62]⟩ 0 r 2 (by decide) ⟨#[103, 114, 97, 112, 104]⟩ [103, 114, 97, 112, 104] rfl w1 x
    have HLT := Lib.hid hlp; have HTK := Lib.hid htk; have HB := Lib.hid hB
    cases hj : isT 2 [103, 114, 97, 112, 104] r
    · rw [hj, if_neg (by decide)] at hth
      rw [if_neg (by rw [hj]; decide)] at hX
      have HX := Lib.hid hX; have HTH := Lib.hid hth
      clear h htk hX hi hB hlp hth hj
      go_enter Tryz.func22, Tryz.ntmps22
      go_wp2_with (first
        | (go_at_call 33; refine (fail_any pb a cap T ⟨#[45, 62]⟩ 0 r 4 w2 hs2.out).mono ?_; rintro e w3 ⟨rfl, x3⟩; unfold failE)
        | (go_at_call 34; refine (HTH.out _ HA.out.1).mono ?_; rintro e w2 ⟨rfl, hs2, x2⟩; replace hs2 := Lib.hid hs2; replace x2 := Lib.hid x2)
        | (go_at_call 34; refine HTK.out.mono ?_; rintro e w1 ⟨rfl, hs1, x1⟩; obtain ⟨hlt1, hA⟩ := src_start (d := false) (ar' := ⟨#[45, 62]⟩) HLT.out hs1 x1; have hpw : pb < w1.heap.size := Nat.lt_trans HLT.out hlt1; have p2 := hs1.dep_cell.2.2; have p3 := (hs1.arrow ⟨#[45, 62]⟩).1; obtain ⟨y0, y1, y2, f0, f1, f2⟩ := three_cells hA.2.2.2.2; have HA := Lib.hid hA; clear hA hs1 x1 HTK))
      go_wp2
      exact ⟨rfl, by rw [HX.out]; exact rfl, (HA.out.2.1.trans x2.out).ext x3⟩
    · rw [hj, if_pos rfl] at hth
      rw [if_pos hj] at hX
      have hl0 := isT_cons hj
      have HX := Lib.hid hX; have HTH := Lib.hid hth
      clear h htk hX hi hB hlp hth hj
      go_enter Tryz.func22, Tryz.ntmps22
      go_wp2_with (first
        | (go_at_call 34; refine (HTH.out _ HA.out.1).mono ?_; rintro e w2 ⟨rfl, hs2, x2⟩; have hA2 := HA.out.but HLT.out hs2 x2; have q2 := hA2.1.dep_cell.2.2; have q3 := (hA2.1.arrow ⟨#[45, 45]⟩).1; replace HA := Lib.hid (hA2.arrow HLT.out ⟨#[45, 45]⟩); clear hA2 hs2 x2)
        | (go_at_call 34; refine HTK.out.mono ?_; rintro e w1 ⟨rfl, hs1, x1⟩; obtain ⟨hlt1, hA⟩ := src_start (d := false) (ar' := ⟨#[45, 62]⟩) HLT.out hs1 x1; have hpw : pb < w1.heap.size := Nat.lt_trans HLT.out hlt1; have p2 := hs1.dep_cell.2.2; have p3 := (hs1.arrow ⟨#[45, 62]⟩).1; obtain ⟨y0, y1, y2, f0, f1, f2⟩ := three_cells hA.2.2.2.2; have HA := Lib.hid hA; clear hA hs1 x1 HTK))
      have hX1 := HX.out
      have hA := HA.out
      have hn1 := name_any pb a cap T ⟨#[45, 45]⟩ 0 r.tail _ hA.1
      rcases hq : pName (lastL T) r.tail with ⟨nm, r4⟩ | ⟨ln, er⟩ <;> rw [hq] at hn1 hX1
      · have hl4 := pName_len hq
        rw [PR.bind_ok] at hX1
        refine hn1.mono ?_
        rintro e w4 ⟨⟨_, rfl, rfl, hs4⟩, x4⟩
        have hlp := HLT.out
        have hA4 := hA.but hlp hs4 x4
        have HA4 := Lib.hid (hA4.name hlp nm)
        obtain ⟨y0, y1, y2, f0, f1, f2⟩ := three_cells hA4.2.2.2.2
        obtain ⟨W4, hW4⟩ : ∃ W4, W4 = w4.setCell ⟨w1.heap.size, 0, none⟩ (.string nm) := ⟨_, rfl⟩
        have hbk : Calls Tryz.prog 36 #[.pointer (some ⟨pb, 0, none⟩), .int .i64 0] W4 fun e w' =>
            POut pb a cap T ⟨#[45, 45]⟩ 0 (fun L u w' => StmsV (W4.heap.size ≤ ·) L u w') (pBlock (lastL T) [45, 45] f (0 + 0) r4) e w' ∧ But pb W4 w' := HB.out ⟨#[45, 45]⟩ f 0 0 r4 W4 (by omega) (by omega) (by omega) (by rw [hW4]; exact HA4.out.1)
        rw [hW4] at hbk
        have hl44 := hA4.2.2.2.1
        have hl45 := (Array.getElem?_eq_some_iff.1 HA4.out.2.2.2.2).1
        clear hq HX hA HA hn1 hA4 x4 hs4 hW4 W4
        go_wp2_with fail
        rcases hq : pBlock (lastL T) [45, 45] f (0 + 0) r4 with ⟨L, r5⟩ | ⟨ln, er⟩ <;> rw [hq] at hbk hX1 <;> clear hq
        · rw [PR.bind_ok] at hX1
          refine hbk.mono ?_
          rintro e w5 ⟨⟨_, rfl, ⟨lb, lc, rfl, hsp, hlc1, hlc2⟩, hs5⟩, x5⟩
          have hl5 := x5.size
          have hA5 := HA4.out.but hlp hs5 x5
          have hX5 := HA4.out.2.1.trans x5
          have k0 := hA5.2.2.1
          have k1 := hA5.2.2.2.2
          have hbw : w.heap.size ≠ w1.heap.size := by omega
          unfold zero3 at k0
          have b1 := setOne k1 2 (.slice lb L.length lc)
          have b0 := (Below.heap_setCell w5 ⟨w1.heap.size, 2, none⟩ (.slice lb L.length lc) w.heap.size hbw).trans k0
          have HZ := Lib.hid (set_three b0 (.string nm) (.bool false) (.slice lb L.length lc))
          obtain ⟨y0, y1, y2, f0, f1, f2⟩ := three_cells k1
          obtain ⟨z0, z1, z2, g0, g1, g2⟩ := three_cells b0
          obtain ⟨v0, v1, v2, e0, e1, e2⟩ := three_cells b1
          have HX := Lib.hid hX1; have HS5 := Lib.hid hs5; have HX5 := Lib.hid hX5; have HSP := Lib.hid hsp
          have HL1 := Lib.hid hlc1; have HL2 := Lib.hid hlc2
          clear hbk hX1 hs5 x5 hA5 hX5 k0 k1 b0 b1 hsp hlc1 hlc2
          go_wp2
          refine bodyPost_ret (results_cell_row rfl _ _ w.heap.size 24 #[.string nm, .bool false, .slice lb L.length lc] (0, 0) _ rfl HZ.out Tryz.underlying24 rfl size_tree) rfl ?_
          have hs' := HS5.out.far (p := ⟨w1.heap.size, 2, none⟩) (by show pb < w1.heap.size; omega) (.slice lb L.length lc)
          have x' := but_far HX5.out (p := ⟨w1.heap.size, 2, none⟩) (by show w.heap.size ≤ w1.heap.size; omega) (.slice lb L.length lc)
          obtain ⟨F1, F2, F3⟩ := fin_three hs' x' w.heap.size hlp (Nat.le_refl _) (.string nm) (.bool false) (.slice lb L.length lc)
          rw [HX.out]
          refine ⟨⟨_, rfl, ⟨lb, lc, rfl, ?_, HL1.out, HL2.out⟩, _, F1⟩, F2⟩
          have hz : (w4.setCell ⟨w1.heap.size, 0, none⟩ (.string nm)).heap.size = w4.heap.size := by simp
          rw [hz] at hl5 hl45
          exact StmsP.keep (ok' := (w.heap.size ≤ ·)) (fun g hg _ => by
            have hg : (w4.setCell ⟨w1.heap.size, 0, none⟩ (.string nm)).heap.size ≤ g := hg
            rw [hz] at hg
            exact (F3 g (by omega)).trans (Below.heap_setCell w5 ⟨w1.heap.size, 2, none⟩ _ g (by show g ≠ w1.heap.size; omega))) (fun g hg _ => by
            have hg : (w4.setCell ⟨w1.heap.size, 0, none⟩ (.string nm)).heap.size ≤ g := hg
            rw [hz] at hg
            show w.heap.size ≤ g; omega) L lb HSP.out
        · rw [PR.bind_err] at hX1
          have HX := Lib.hid hX1
          clear hX1
          refine hbk.mono ?_
          rintro e w5 ⟨rfl, x5⟩
          clear hbk
          unfold failE
          go_wp2
          exact ⟨rfl, by rw [HX.out]; exact rfl, HA4.out.2.1.trans x5⟩
      · rw [PR.bind_err] at hX1
        have HX := Lib.hid hX1
        have X0 := hA.2.1
        clear hX1 hq
        refine hn1.mono ?_
        rintro e w4 ⟨rfl, x4⟩
        clear hn1
        unfold failE
        go_wp2
        exact ⟨rfl, by rw [HX.out]; exact rfl, X0.trans x4⟩
  · rw [hi, if_pos rfl] at htk
    rw [if_pos hi] at hX
    have hl0 := isT_cons hi
    have HLT := Lib.hid hlp; have HTK := Lib.hid htk; have HX := Lib.hid hX; have HB := Lib.hid hB
    clear h htk hX hi hB hlp
    go_enter Tryz.func22, Tryz.ntmps22
    go_wp2_with (go_at_call 34; refine HTK.out.mono ?_; rintro e w1 ⟨rfl, hs1, x1⟩; obtain ⟨hlt1, hA⟩ := src_start (d := true) (ar' := ⟨#[45, 62]⟩) HLT.out hs1 x1; have hpw : pb < w1.heap.size := Nat.lt_trans HLT.out hlt1; have p2 := hs1.dep_cell.2.2; have p3 := (hs1.arrow ⟨#[45, 62]⟩).1; obtain ⟨y0, y1, y2, f0, f1, f2⟩ := three_cells hA.2.2.2.2; have HA := Lib.hid hA; clear hA hs1 x1 HTK)
    have hX1 := HX.out
    have hA := HA.out
    have hn1 := name_any pb a cap T ⟨#[45, 62]⟩ 0 r.tail _ hA.1
    rcases hq : pName (lastL T) r.tail with ⟨nm, r4⟩ | ⟨ln, er⟩ <;> rw [hq] at hn1 hX1
    · have hl4 := pName_len hq
      rw [PR.bind_ok] at hX1
      refine hn1.mono ?_
      rintro e w4 ⟨⟨_, rfl, rfl, hs4⟩, x4⟩
      have hlp := HLT.out
      have hA4 := hA.but hlp hs4 x4
      have HA4 := Lib.hid (hA4.name hlp nm)
      obtain ⟨y0, y1, y2, f0, f1, f2⟩ := three_cells hA4.2.2.2.2
      obtain ⟨W4, hW4⟩ : ∃ W4, W4 = w4.setCell ⟨w1.heap.size, 0, none⟩ (.string nm) := ⟨_, rfl⟩
      have hbk : Calls Tryz.prog 36 #[.pointer (some ⟨pb, 0, none⟩), .int .i64 0] W4 fun e w' =>
          POut pb a cap T ⟨#[45, 62]⟩ 0 (fun L u w' => StmsV (W4.heap.size ≤ ·) L u w') (pBlock (lastL T) [45, 62] f (0 + 0) r4) e w' ∧ But pb W4 w' := HB.out ⟨#[45, 62]⟩ f 0 0 r4 W4 (by omega) (by omega) (by omega) (by rw [hW4]; exact HA4.out.1)
      rw [hW4] at hbk
      have hl44 := hA4.2.2.2.1
      have hl45 := (Array.getElem?_eq_some_iff.1 HA4.out.2.2.2.2).1
      clear hq HX hA HA hn1 hA4 x4 hs4 hW4 W4
      go_wp2_with fail
      rcases hq : pBlock (lastL T) [45, 62] f (0 + 0) r4 with ⟨L, r5⟩ | ⟨ln, er⟩ <;> rw [hq] at hbk hX1 <;> clear hq
      · rw [PR.bind_ok] at hX1
        refine hbk.mono ?_
        rintro e w5 ⟨⟨_, rfl, ⟨lb, lc, rfl, hsp, hlc1, hlc2⟩, hs5⟩, x5⟩
        have hl5 := x5.size
        have hA5 := HA4.out.but hlp hs5 x5
        have hX5 := HA4.out.2.1.trans x5
        have k0 := hA5.2.2.1
        have k1 := hA5.2.2.2.2
        have hbw : w.heap.size ≠ w1.heap.size := by omega
        unfold zero3 at k0
        have b1 := setOne k1 2 (.slice lb L.length lc)
        have b0 := (Below.heap_setCell w5 ⟨w1.heap.size, 2, none⟩ (.slice lb L.length lc) w.heap.size hbw).trans k0
        have HZ := Lib.hid (set_three b0 (.string nm) (.bool true) (.slice lb L.length lc))
        obtain ⟨y0, y1, y2, f0, f1, f2⟩ := three_cells k1
        obtain ⟨z0, z1, z2, g0, g1, g2⟩ := three_cells b0
        obtain ⟨v0, v1, v2, e0, e1, e2⟩ := three_cells b1
        have HX := Lib.hid hX1; have HS5 := Lib.hid hs5; have HX5 := Lib.hid hX5; have HSP := Lib.hid hsp
        have HL1 := Lib.hid hlc1; have HL2 := Lib.hid hlc2
        clear hbk hX1 hs5 x5 hA5 hX5 k0 k1 b0 b1 hsp hlc1 hlc2
        go_wp2
        refine bodyPost_ret (results_cell_row rfl _ _ w.heap.size 24 #[.string nm, .bool true, .slice lb L.length lc] (0, 0) _ rfl HZ.out Tryz.underlying24 rfl size_tree) rfl ?_
        have hs' := HS5.out.far (p := ⟨w1.heap.size, 2, none⟩) (by show pb < w1.heap.size; omega) (.slice lb L.length lc)
        have x' := but_far HX5.out (p := ⟨w1.heap.size, 2, none⟩) (by show w.heap.size ≤ w1.heap.size; omega) (.slice lb L.length lc)
        obtain ⟨F1, F2, F3⟩ := fin_three hs' x' w.heap.size hlp (Nat.le_refl _) (.string nm) (.bool true) (.slice lb L.length lc)
        rw [HX.out]
        refine ⟨⟨_, rfl, ⟨lb, lc, rfl, ?_, HL1.out, HL2.out⟩, _, F1⟩, F2⟩
        have hz : (w4.setCell ⟨w1.heap.size, 0, none⟩ (.string nm)).heap.size = w4.heap.size := by simp
        rw [hz] at hl5 hl45
        exact StmsP.keep (ok' := (w.heap.size ≤ ·)) (fun g hg _ => by
          have hg : (w4.setCell ⟨w1.heap.size, 0, none⟩ (.string nm)).heap.size ≤ g := hg
          rw [hz] at hg
          exact (F3 g (by omega)).trans (Below.heap_setCell w5 ⟨w1.heap.size, 2, none⟩ _ g (by show g ≠ w1.heap.size; omega))) (fun g hg _ => by
          have hg : (w4.setCell ⟨w1.heap.size, 0, none⟩ (.string nm)).heap.size ≤ g := hg
          rw [hz] at hg
          show w.heap.size ≤ g; omega) L lb HSP.out
      · rw [PR.bind_err] at hX1
        have HX := Lib.hid hX1
        clear hX1
        refine hbk.mono ?_
        rintro e w5 ⟨rfl, x5⟩
        clear hbk
        unfold failE
        go_wp2
        exact ⟨rfl, by rw [HX.out]; exact rfl, HA4.out.2.1.trans x5⟩
    · rw [PR.bind_err] at hX1
      have HX := Lib.hid hX1
      have X0 := hA.2.1
      clear hX1 hq
      refine hn1.mono ?_
      rintro e w4 ⟨rfl, x4⟩
      clear hn1
      unfold failE
      go_wp2
      exact ⟨rfl, by rw [HX.out]; exact rfl, X0.trans x4⟩
end Go.Proofs.YtmallladeidkpaaGreatDoor.Pa

/- The closure that run defers: in a frame that panics with a failure, and in one that returns. -/
namespace Go.Proofs.YtmallladeidkpaaGreatDoor.Pa
open Go.RowKit Go.Sort Go.Lib Go.Shelf Fx Lx Tr

theorem assert_fail (ln er : Int) (t : TypeId) (w : World) : (Instr.typeAssert (.iface 68 (.agg #[.int .i64 ln, .int .i64 er])) t 68 true).run Tryz.prog w = .ok (.tuple #[.agg #[.int .i64 ln, .int .i64 er], .bool true]) w := by kernel_rfl
theorem assert_nil (t : TypeId) (w : World) : (Instr.typeAssert .nilIface t 68 true).run Tryz.prog w = .ok (.tuple #[.agg #[.int .i64 0, .int .i64 0], .bool false]) w := by kernel_rfl
theorem cell_one {w : World} {b : Nat} {v : Value} {t : TypeId} (h : w.heap[b]? = some (.cells #[v] t (0, 0))) (o : Obj) : (w.alloc o).heap[b]? = some (.cells #[v] t (0, 0)) ∧ (w.alloc o).cell? ⟨b, 0, none⟩ = some v ∧ (w.alloc o).frozen? ⟨b, 0, none⟩ = false := by
  have hk := (((Ext.refl w).alloc o).block b (Array.getElem?_eq_some_iff.1 h).1).trans h
  exact ⟨hk, by rw [Lib.cell_of_heap hk]; rfl, Lib.frozen_of_heap hk 0⟩
set_option maxHeartbeats 4000000 in
theorem rec_panic (b c : Nat) (x y ln er : Int) (older : List PanicEntry) (w : World) (hp : w.heap[b]? = some (.cells #[.int .i64 x] 3 (0, 0))) (hq : w.heap[c]? = some (.cells #[.int .i64 y] 26 (0, 0))) (hbc : b ≠ c) :
    CallsD Tryz.prog 32 #[.pointer (some ⟨b, 0, none⟩), .pointer (some ⟨c, 0, none⟩)] (.panicking ({ v := .iface 68 (.agg #[.int .i64 ln, .int .i64 er]), recovered := false } :: older)) w fun e u' w' =>
      e = .returned (.tuple #[]) ∧ u' = .panicking ({ v := .iface 68 (.agg #[.int .i64 ln, .int .i64 er]), recovered := true } :: older) ∧
        w' = (((w.setCell ⟨b, 0, none⟩ (.int .i64 ln)).setCell ⟨c, 0, none⟩ (.int .i64 er)).alloc (.cells #[.int .i64 ln, .int .i64 er] 68)).drew := by
  refine callsD_of_wpS Tryz.func32 rfl fun c₀ cs hu => ?_
  obtain ⟨k1, k2, k3⟩ := cell_one hp (.cells #[.int .i64 ln, .int .i64 er] 68)
  obtain ⟨l1, l2, l3⟩ := cell_one hq (.cells #[.int .i64 ln, .int .i64 er] 68)
  have hb := (Array.getElem?_eq_some_iff.1 hp).1
  have hc := (Array.getElem?_eq_some_iff.1 hq).1
  have k4 : w.cell? ⟨b, 0, none⟩ = some (.int .i64 x) := by rw [Lib.cell_of_heap hp]; rfl
  have l4 : w.cell? ⟨c, 0, none⟩ = some (.int .i64 y) := by rw [Lib.cell_of_heap hq]; rfl
  have k5 := Lib.frozen_of_heap hp 0
  have l5 := Lib.frozen_of_heap hq 0
  clear hp hq k1 l1
  have hta := assert_fail ln er
  apply wpS_seq
  apply wpS_region
  simp only [Tryz.ntmps32, List.size_toArray, List.length_cons, List.length_nil, Nat.reduceAdd, Nat.reduceSub, Array.replicate_succ, Array.replicate_zero, List.push_toArray, List.append_toArray, List.nil_append, List.cons_append]
  simp [wpOpsS, go_sem, recoverD, hu, Exit.thenS, hta]
  refine wpS_of_wp ?_
  go_wp2
  go_region
  all_goals
    exact ⟨rfl, _, rfl, _, results_none rfl _ _ _, rfl, rfl, rfl⟩
set_option maxHeartbeats 4000000 in
theorem rec_idle (p q : Addr) (w : World) :
    CallsD Tryz.prog 32 #[.pointer (some p), .pointer (some q)] .returning w fun e u' w' => e = .returned (.tuple #[]) ∧ u' = .returning ∧ Ext w w' := by
  refine callsD_of_wpS Tryz.func32 rfl fun c₀ cs hu => ?_
  have hta := assert_nil
  apply wpS_seq
  apply wpS_region
  simp only [Tryz.ntmps32, List.size_toArray, List.length_cons, List.length_nil, Nat.reduceAdd, Nat.reduceSub, Array.replicate_succ, Array.replicate_zero, List.push_toArray, List.append_toArray, List.nil_append, List.cons_append]
  simp [wpOpsS, go_sem, recoverD, hu, Exit.thenS, hta]
  refine wpS_of_wp ?_
  go_wp2
  exact ⟨rfl, .returning, by cases c₀; simp_all, _, results_none rfl _ _ _, rfl, rfl, (Ext.refl w).alloc _⟩
end Go.Proofs.YtmallladeidkpaaGreatDoor.Pa

/- A comment and blanks around a source: its tokens, or its first error, one line later; no program in sight. -/
namespace Go.Proofs.YtmallladeidkpaaGreatDoor.Lx
open Go.Lib Fx

theorem sep10 : sepB 10 := by unfold sepB; decide
theorem contents_nl (t : List UInt8) : ∀ (s : List UInt8) (esc : Bool) (acc : List UInt8) (i : Nat), contents esc acc i (s ++ 10 :: t) = contents esc acc i s
  | [], esc, acc, i => by
    rw [List.nil_append, contents, contents, if_pos (by decide)]
  | c :: r, esc, acc, i => by
    rw [List.cons_append, contents, contents, contents_nl t r, contents_nl t r]
theorem next_nl (s t : List UInt8) (h : 0 < s.length) : next (s ++ 10 :: t) = next s := by
  have hc := sep10
  unfold next
  rw [wordN_sep s t hc, numN_sep s t hc h, numHead_sep s t hc h, bt_app h, markOf_sep s t hc h, List.take_append_of_le_length (wordN_le s), List.take_append_of_le_length (numN_le s h)]
  rw [List.drop_append_of_le_length (by omega), contents_nl]
theorem skip_nl (t : List UInt8) : ∀ s : List UInt8, skip (s ++ 10 :: t) = if (skip s).2 then ((skip s).1 ++ 10 :: t, true) else (t, true)
  | [] => rfl
  | c :: r => by
    by_cases hc : c = 10
    · subst hc; rfl
    · rw [List.cons_append, skip_cons _ hc, skip_cons _ hc]; exact skip_nl t r
theorem Z_cons (ln : Int) (L : List Tok) (c : UInt8) (r : List UInt8) : Z ln L (c :: r) =
    if c = 10 then Z (ln + 1) L r
    else if c = 32 || c = 9 then Z ln L r
    else if c = 35 then Z (if (skip (c :: r)).2 then ln + 1 else ln) L (skip (c :: r)).1
    else if (next (c :: r)).2.2 = 0 then Z ln (L ++ [{ (next (c :: r)).1 with line := ln }]) ((c :: r).drop (next (c :: r)).2.1)
    else ([], ln, (next (c :: r)).2.2) := by
  show tokz (r.length + 1) ln L (c :: r) = _
  rw [tokz_cons]
  by_cases h1 : c = 10
  · rw [if_pos h1, if_pos h1]; rfl
  rw [if_neg h1, if_neg h1]
  by_cases h2 : (c = 32 || c = 9) = true
  · rw [if_pos h2, if_pos h2]; rfl
  rw [if_neg h2, if_neg h2]
  by_cases h3 : c = 35
  · rw [if_pos h3, if_pos h3, Z_of]
    rw [skip_cons r h1]; exact skip_le r
  rw [if_neg h3, if_neg h3]
  by_cases h4 : (next (c :: r)).2.2 = 0
  · rw [if_pos h4, if_pos h4, Z_of]
    have := (next_len (c :: r) (by simp) h4).1
    rw [List.length_drop, List.length_cons]; omega
  · rw [if_neg h4, if_neg h4]
def suf : List UInt8 := [9, 35, 32, 125]
theorem Z_rest (ln : Int) (L : List Tok) : Z ln L suf = (L, 0, 0) := rfl
theorem Z_suf : ∀ (n : Nat) (s : List UInt8), s.length ≤ n → ∀ (ln : Int) (L : List Tok), Z ln L (s ++ 10 :: suf) = Z ln L s := by
  intro n
  induction n with
  | zero =>
    intro s hs ln L
    have : s = [] := List.eq_nil_of_length_eq_zero (by omega)
    subst this
    rw [List.nil_append, Z_nl, Z_rest, Z_nil]
  | succ n ih =>
    intro s hs ln L
    cases s with
    | nil => rw [List.nil_append, Z_nl, Z_rest, Z_nil]
    | cons c r =>
      have hr : r.length ≤ n := by simpa using hs
      have hnx := next_nl (c :: r) suf (by simp)
      rw [List.cons_append, Z_cons, Z_cons ln L c r]
      rw [List.cons_append] at hnx
      rw [hnx]
      by_cases h1 : c = 10
      · rw [if_pos h1, if_pos h1, ih r hr]
      rw [if_neg h1, if_neg h1]
      by_cases h2 : (c = 32 || c = 9) = true
      · rw [if_pos h2, if_pos h2, ih r hr]
      rw [if_neg h2, if_neg h2]
      by_cases h3 : c = 35
      · rw [if_pos h3, if_pos h3, skip_cons _ h1, skip_cons _ h1, skip_nl]
        have hl := skip_le r
        by_cases hk : (skip r).2 = true
        · rw [if_pos hk, if_pos hk]
          dsimp only
          rw [if_pos rfl, ih _ (by omega)]
        · rw [if_neg hk, if_neg hk, skip_none r (by simpa using hk)]
          dsimp only
          rw [if_pos rfl, Z_rest, Z_nil]
      rw [if_neg h3, if_neg h3]
      by_cases h4 : (next (c :: r)).2.2 = 0
      · have hl := next_len (c :: r) (by simp) h4
        have h1' : 1 ≤ (next (c :: r)).2.1 := hl.1
        rw [if_pos h4, if_pos h4, ← List.cons_append, List.drop_append_of_le_length hl.2, ih]
        rw [List.length_drop, List.length_cons]; omega
      · rw [if_neg h4, if_neg h4]
theorem tokenize_wrap (s : List UInt8) (h : s.length ≤ 3000) : tokenize ([35, 32, 123, 10] ++ (s ++ 10 :: suf)) = shiftR 1 (tokenize s) := by
  unfold tokenize
  rw [if_neg (by simp [suf]; omega), if_neg (by omega)]
  show Z 1 [] _ = shiftR 1 (Z 1 [] s)
  have e : Z 1 [] ([35, 32, 123, 10] ++ (s ++ 10 :: suf)) = Z 2 [] (s ++ 10 :: suf) := by
    show Z 1 [] (35 :: 32 :: 123 :: 10 :: (s ++ 10 :: suf)) = _
    rw [Z_cons, if_neg (by decide), if_neg (by decide), if_pos rfl]
    rfl
  rw [e, Z_suf s.length s (Nat.le_refl _)]
  exact (tokz_shift 1 s.length 1 [] s).1
end Go.Proofs.YtmallladeidkpaaGreatDoor.Lx
