/- Packed texts: ParSrd, ParRec, ParSuf, ParTok -/
import Derived.Test.YtjaeedbjknejdaaGreatDoorPr44
import Derived.Deep.DeepCutAuto
import Derived.Defers
import Derived.Recover
set_option linter.unusedVariables false
set_option linter.unusedSimpArgs false
set_option maxHeartbeats 16000000
set_option maxRecDepth 100000
namespace Go.Proofs.YtjaeedbjknejdaaGreatDoor.Pa
open Go.RowKit Go.Sort Go.Lib Go.Shelf Fx Lx Tr
def zero3 : Obj := .cells #[.string ⟨#[]⟩, .bool false, .slice none 0 0] 33
theorem size_tree : (Tryz.prog.info? 33).map (·.size) = some 3 := by kernel_rfl
theorem three_cells {w : World} {c0 c1 c2 : Value} {b : Nat} {T : TypeId} (h : w.heap[b]? = some (.cells #[c0, c1, c2] T (0, 0))) :
    w.cell? ⟨b, 0, none⟩ = some c0 /\ w.cell? ⟨b, 1, none⟩ = some c1 /\ w.cell? ⟨b, 2, none⟩ = some c2 /\
      w.frozen? ⟨b, 0, none⟩ = false /\ w.frozen? ⟨b, 1, none⟩ = false /\ w.frozen? ⟨b, 2, none⟩ = false := by
  refine ⟨?_, ?_, ?_, Lib.frozen_of_heap h 0, Lib.frozen_of_heap h 1, Lib.frozen_of_heap h 2⟩ <;> rw [Lib.cell_of_heap h] <;> rfl
theorem set_three {w : World} {c0 c1 c2 : Value} {b : Nat} {T : TypeId} (h : w.heap[b]? = some (.cells #[c0, c1, c2] T (0, 0))) (d0 d1 d2 : Value) :
    (((w.setCell ⟨b, 0, none⟩ d0).setCell ⟨b, 1, none⟩ d1).setCell ⟨b, 2, none⟩ d2).heap[b]? = some (.cells #[d0, d1, d2] T (0, 0)) :=
  setOne (setOne (setOne h 0 d0) 1 d1) 2 d2
theorem fin_three {pb : Nat} {a : Option Addr} {cap : Nat} {T : List Tok} {ar : ByteArray} {dep : Int} {r : List Tok} {w w6 : World} (hs : PSt pb a cap T ar dep r w6) (x : But pb w w6) (b : Nat) (hp : pb < b) (hw : w.heap.size <= b) (d0 d1 d2 : Value) :
    PSt pb a cap T ar dep r (((w6.setCell ⟨b, 0, none⟩ d0).setCell ⟨b, 1, none⟩ d1).setCell ⟨b, 2, none⟩ d2) /\
    But pb w (((w6.setCell ⟨b, 0, none⟩ d0).setCell ⟨b, 1, none⟩ d1).setCell ⟨b, 2, none⟩ d2) /\
    ∀ g, g ≠ b -> (((w6.setCell ⟨b, 0, none⟩ d0).setCell ⟨b, 1, none⟩ d1).setCell ⟨b, 2, none⟩ d2).heap[g]? = w6.heap[g]? := by
  refine ⟨(((hs.far (p := ⟨b, 0, none⟩) hp d0).far (p := ⟨b, 1, none⟩) hp d1).far (p := ⟨b, 2, none⟩) hp d2),
    but_far (but_far (but_far x (p := ⟨b, 0, none⟩) hw d0) (p := ⟨b, 1, none⟩) hw d1) (p := ⟨b, 2, none⟩) hw d2, fun g hg => ?_⟩
  rw [Below.heap_setCell _ _ _ _ hg, Below.heap_setCell _ _ _ _ hg, Below.heap_setCell _ _ _ _ hg]
theorem PSt.arrow {pb : Nat} {a : Option Addr} {cap : Nat} {T : List Tok} {ar : ByteArray} {dep : Int} {r : List Tok} {w : World} (h : PSt pb a cap T ar dep r w) (ar' : ByteArray) :
    w.frozen? ⟨pb, 2, none⟩ = false /\ PSt pb a cap T ar' dep r (w.setCell ⟨pb, 2, none⟩ (.string ar')) /\ But pb w (w.setCell ⟨pb, 2, none⟩ (.string ar')) := by
  obtain ⟨k, hk, hn, hd, hc, ht, he, hm⟩ := h
  have hb : But pb w (w.setCell ⟨pb, 2, none⟩ (.string ar')) := (But.refl pb w).setCell ⟨pb, 2, none⟩ rfl _
  exact ⟨hc.cells.2.2.2.2 2, ⟨k, hk, hn, hd, hc.arrow ar', ht.but hb, he.but hb, hm⟩, hb⟩
def TreeV (ok : Nat -> Prop) (t : Bool × ByteArray × List Stm) (u : Value) (w : World) : Prop :=
  ∃ b cap, u = .agg #[.string t.2.1, .bool t.1, .slice b t.2.2.length cap] /\ StmsP ok w b t.2.2 /\ t.2.2.length <= cap /\ cap <= maxLen
def SOut (pb : Nat) (a : Option Addr) (cap : Nat) (T : List Tok) {α : Type} (V : α -> Value -> World -> Prop) (x : PR α) (e : Ending) (w' : World) : Prop := match x with
  | .ok v r => ∃ u, e = .returned u /\ V v u w' /\ ∃ ar, PSt pb a cap T ar 0 r w'
  | .err ln er => e = failE ln er
def SrcAt (pb : Nat) (a : Option Addr) (cap : Nat) (T : List Tok) (ar : ByteArray) (r : List Tok) (w : World) (b : Nat) (nm : ByteArray) (d : Bool) (wx : World) : Prop :=
  PSt pb a cap T ar 0 r wx /\ But pb w wx /\ wx.heap[w.heap.size]? = some zero3 /\ w.heap.size < b /\ wx.heap[b]? = some (.cells #[.string nm, .bool d, .slice none 0 0] 33 (0, 0))
theorem SrcAt.but {pb : Nat} {a : Option Addr} {cap : Nat} {T : List Tok} {ar : ByteArray} {r r' : List Tok} {w : World} {b : Nat} {nm : ByteArray} {d : Bool} {w1 w2 : World} (h : SrcAt pb a cap T ar r w b nm d w1) (hp : pb < w.heap.size) (hs : PSt pb a cap T ar 0 r' w2) (x : But pb w1 w2) : SrcAt pb a cap T ar r' w b nm d w2 :=
  ⟨hs, h.2.1.trans x, but_heap x h.2.2.1 (by omega), h.2.2.2.1, but_heap x h.2.2.2.2 (by have := h.2.2.2.1; omega)⟩
theorem SrcAt.name {pb : Nat} {a : Option Addr} {cap : Nat} {T : List Tok} {ar : ByteArray} {r : List Tok} {w : World} {b : Nat} {nm : ByteArray} {d : Bool} {w1 : World} (h : SrcAt pb a cap T ar r w b nm d w1) (hp : pb < w.heap.size) (nm' : ByteArray) : SrcAt pb a cap T ar r w b nm' d (w1.setCell ⟨b, 0, none⟩ (.string nm')) := by
  obtain ⟨h1, h2, h3, h4, h5⟩ := h
  exact ⟨h1.far (p := ⟨b, 0, none⟩) (by show pb < b; omega) _, but_far h2 (p := ⟨b, 0, none⟩) (by show w.heap.size <= b; omega) _, (Below.heap_setCell w1 ⟨b, 0, none⟩ _ _ (by show w.heap.size ≠ b; omega)).trans h3, h4, setOne h5 0 _⟩
theorem src_start {pb : Nat} {a : Option Addr} {cap : Nat} {T : List Tok} {ar ar' : ByteArray} {r : List Tok} {w w1 : World} {d : Bool} (hlp : pb < w.heap.size) (hs : PSt pb a cap T ar 0 r w1) (x : But pb (w.alloc zero3) w1) :
    w.heap.size < w1.heap.size /\ SrcAt pb a cap T ar' r w w1.heap.size ⟨#[]⟩ d ((w1.setCell ⟨pb, 2, none⟩ (.string ar')).alloc (.cells #[.string ⟨#[]⟩, .bool d, .slice none 0 0] 33)) := by
  have hl := x.size
  rw [World.size_alloc] at hl
  obtain ⟨_, hs', xb⟩ := hs.arrow ar'
  have hx := (Ext.refl (w1.setCell ⟨pb, 2, none⟩ (.string ar'))).alloc (.cells #[.string ⟨#[]⟩, .bool d, .slice none 0 0] 33)
  have k := but_heap (x.trans xb) (heap_alloc_new w zero3) (by omega)
  have h2 := heap_alloc_new (w1.setCell ⟨pb, 2, none⟩ (.string ar')) (.cells #[.string ⟨#[]⟩, .bool d, .slice none 0 0] 33)
  have hz : (w1.setCell ⟨pb, 2, none⟩ (.string ar')).heap.size = w1.heap.size := by simp
  rw [hz] at h2
  exact ⟨by omega, hs'.ext hx, (But.of ((Ext.refl w).alloc zero3)).trans ((x.trans xb).trans (But.of hx)), (hx.block _ (by rw [hz]; omega)).trans k, by omega, h2⟩
theorem SrcAt.arrow {pb : Nat} {a : Option Addr} {cap : Nat} {T : List Tok} {ar : ByteArray} {r : List Tok} {w : World} {b : Nat} {nm : ByteArray} {d : Bool} {w1 : World} (h : SrcAt pb a cap T ar r w b nm d w1) (hp : pb < w.heap.size) (ar' : ByteArray) : SrcAt pb a cap T ar' r w b nm d (w1.setCell ⟨pb, 2, none⟩ (.string ar')) := by
  obtain ⟨g1, g2, g3, g4, g5⟩ := h
  obtain ⟨_, h2, h3⟩ := g1.arrow ar'
  exact ⟨h2, g2.trans h3, but_heap h3 g3 (by omega), g4, but_heap h3 g5 (by omega)⟩
theorem source_any (pb : Nat) (a : Option Addr) (cap : Nat) (T : List Tok) (hB : ∀ ar f, BlockC pb a cap T ar f) (f : Nat) (r : List Tok) (hf : 2 * r.length + 3 <= f) (ar : ByteArray) (w : World) (h : PSt pb a cap T ar 0 r w) :
    Calls Tryz.prog 48 #[.pointer (some ⟨pb, 0, none⟩)] w fun e w' =>
      SOut pb a cap T (fun t u w' => TreeV (w.heap.size <= ·) t u w') (pTree (lastL T) f r) e w' /\ But pb w w' := by
  obtain ⟨X, hX⟩ : ∃ X, X = pTree (lastL T) f r := ⟨_, rfl⟩
  rw [<- hX]
  have hlp := h.lt
  have htk := take_l pb a cap T ar 0 r 2 (by decide) ⟨#[100, 105, 103, 114, 97, 112, 104]⟩ [100, 105, 103, 114, 97, 112, 104] rfl _ (h.ext ((Ext.refl w).alloc zero3))
  unfold pTree at hX
  unfold zero3 at htk
  cases hi : isT 2 [100, 105, 103, 114, 97, 112, 104] r
  · rw [hi, if_neg (by decide)] at htk
    rw [if_neg (by rw [hi]; decide)] at hX
    have hth := fun w1 (x : PSt pb a cap T ⟨#[45, 62]⟩ 0 r w1) => take_l pb a cap T ⟨#[45, 62]⟩ 0 r 2 (by decide) ⟨#[103, 114, 97, 112, 104]⟩ [103, 114, 97, 112, 104] rfl w1 x
    have HLT := Lib.hid hlp; have HTK := Lib.hid htk; have HB := Lib.hid hB
    cases hj : isT 2 [103, 114, 97, 112, 104] r
    · rw [hj, if_neg (by decide)] at hth
      rw [if_neg (by rw [hj]; decide)] at hX
      have HX := Lib.hid hX; have HTH := Lib.hid hth
      clear h htk hX hi hB hlp hth hj
      go_enter Tryz.func48, Tryz.ntmps48
      go_wp2_with (first
        | (go_at_call 99; refine (fail_any pb a cap T ⟨#[45, 62]⟩ 0 r 4 w2 hs2.out).mono ?_; rintro e w3 ⟨rfl, x3⟩; unfold failE)
        | (go_at_call 100; refine (HTH.out _ HA.out.1).mono ?_; rintro e w2 ⟨rfl, hs2, x2⟩; replace hs2 := Lib.hid hs2; replace x2 := Lib.hid x2)
        | (go_at_call 100; refine HTK.out.mono ?_; rintro e w1 ⟨rfl, hs1, x1⟩; obtain ⟨hlt1, hA⟩ := src_start (d := false) (ar' := ⟨#[45, 62]⟩) HLT.out hs1 x1; have hpw : pb < w1.heap.size := Nat.lt_trans HLT.out hlt1; have p2 := hs1.dep_cell.2.2; have p3 := (hs1.arrow ⟨#[45, 62]⟩).1; obtain ⟨y0, y1, y2, f0, f1, f2⟩ := three_cells hA.2.2.2.2; have HA := Lib.hid hA; clear hA hs1 x1 HTK))
      go_wp2
      exact ⟨rfl, by rw [HX.out]; exact rfl, (HA.out.2.1.trans x2.out).ext x3⟩
    rw [hj, if_pos rfl] at hth
    rw [if_pos hj] at hX
    have hl0 := isT_cons hj
    have HX := Lib.hid hX; have HTH := Lib.hid hth
    clear h htk hX hi hB hlp hth hj
    go_enter Tryz.func48, Tryz.ntmps48
    go_wp2_with (first
      | (go_at_call 100; refine (HTH.out _ HA.out.1).mono ?_; rintro e w2 ⟨rfl, hs2, x2⟩; have hA2 := HA.out.but HLT.out hs2 x2; have q2 := hA2.1.dep_cell.2.2; have q3 := (hA2.1.arrow ⟨#[45, 45]⟩).1; replace HA := Lib.hid (hA2.arrow HLT.out ⟨#[45, 45]⟩); clear hA2 hs2 x2)
      | (go_at_call 100; refine HTK.out.mono ?_; rintro e w1 ⟨rfl, hs1, x1⟩; obtain ⟨hlt1, hA⟩ := src_start (d := false) (ar' := ⟨#[45, 62]⟩) HLT.out hs1 x1; have hpw : pb < w1.heap.size := Nat.lt_trans HLT.out hlt1; have p2 := hs1.dep_cell.2.2; have p3 := (hs1.arrow ⟨#[45, 62]⟩).1; obtain ⟨y0, y1, y2, f0, f1, f2⟩ := three_cells hA.2.2.2.2; have HA := Lib.hid hA; clear hA hs1 x1 HTK))
    have hX1 := HX.out
    have hA := HA.out
    have hn1 := name_any pb a cap T ⟨#[45, 45]⟩ 0 r.tail _ hA.1
    rcases hq : pName (lastL T) r.tail with ⟨nm, r4⟩ | ⟨ln, er⟩ <;> rw [hq] at hn1 hX1
    · have hl4 := pName_len hq
      rw [PR.bind_ok] at hX1
      refine hn1.mono ?_
      rintro e w4 ⟨⟨_, rfl, rfl, hs4⟩, x4⟩
      have hlp := HLT.out
      have hA4 := hA.but hlp hs4 x4
      have HA4 := Lib.hid (hA4.name hlp nm)
      obtain ⟨y0, y1, y2, f0, f1, f2⟩ := three_cells hA4.2.2.2.2
      obtain ⟨W4, hW4⟩ : ∃ W4, W4 = w4.setCell ⟨w1.heap.size, 0, none⟩ (.string nm) := ⟨_, rfl⟩
      have hbk : Calls Tryz.prog 102 #[.pointer (some ⟨pb, 0, none⟩), .int .i64 0] W4 fun e w' =>
          POut pb a cap T ⟨#[45, 45]⟩ 0 (fun L u w' => StmsV (W4.heap.size <= ·) L u w') (pBlock (lastL T) [45, 45] f (0 + 0) r4) e w' /\ But pb W4 w' := HB.out ⟨#[45, 45]⟩ f 0 0 r4 W4 (by omega) (by omega) (by omega) (by rw [hW4]; exact HA4.out.1)
      rw [hW4] at hbk
      have hl44 := hA4.2.2.2.1
      have hl45 := (Array.getElem?_eq_some_iff.1 HA4.out.2.2.2.2).1
      clear hq HX hA HA hn1 hA4 x4 hs4 hW4 W4
      go_wp2_with fail
      rcases hq : pBlock (lastL T) [45, 45] f (0 + 0) r4 with ⟨L, r5⟩ | ⟨ln, er⟩ <;> rw [hq] at hbk hX1 <;> clear hq
      · rw [PR.bind_ok] at hX1
        refine hbk.mono ?_
        rintro e w5 ⟨⟨_, rfl, ⟨lb, lc, rfl, hsp, hlc1, hlc2⟩, hs5⟩, x5⟩
        have hl5 := x5.size
        have hA5 := HA4.out.but hlp hs5 x5
        have hX5 := HA4.out.2.1.trans x5
        have k0 := hA5.2.2.1
        have k1 := hA5.2.2.2.2
        have hbw : w.heap.size ≠ w1.heap.size := by omega
        unfold zero3 at k0
        have b1 := setOne k1 2 (.slice lb L.length lc)
        have b0 := (Below.heap_setCell w5 ⟨w1.heap.size, 2, none⟩ (.slice lb L.length lc) w.heap.size hbw).trans k0
        have HZ := Lib.hid (set_three b0 (.string nm) (.bool false) (.slice lb L.length lc))
        obtain ⟨y0, y1, y2, f0, f1, f2⟩ := three_cells k1
        obtain ⟨z0, z1, z2, g0, g1, g2⟩ := three_cells b0
        obtain ⟨v0, v1, v2, e0, e1, e2⟩ := three_cells b1
        have HX := Lib.hid hX1; have HS5 := Lib.hid hs5; have HX5 := Lib.hid hX5; have HSP := Lib.hid hsp
        have HL1 := Lib.hid hlc1; have HL2 := Lib.hid hlc2
        clear hbk hX1 hs5 x5 hA5 hX5 k0 k1 b0 b1 hsp hlc1 hlc2
        go_wp2
        refine bodyPost_ret (results_cell_row rfl _ _ w.heap.size 33 #[.string nm, .bool false, .slice lb L.length lc] (0, 0) _ rfl HZ.out Tryz.underlying33 rfl size_tree) rfl ?_
        have hs' := HS5.out.far (p := ⟨w1.heap.size, 2, none⟩) (by show pb < w1.heap.size; omega) (.slice lb L.length lc)
        have x' := but_far HX5.out (p := ⟨w1.heap.size, 2, none⟩) (by show w.heap.size <= w1.heap.size; omega) (.slice lb L.length lc)
        obtain ⟨F1, F2, F3⟩ := fin_three hs' x' w.heap.size hlp (Nat.le_refl _) (.string nm) (.bool false) (.slice lb L.length lc)
        rw [HX.out]
        refine ⟨⟨_, rfl, ⟨lb, lc, rfl, ?_, HL1.out, HL2.out⟩, _, F1⟩, F2⟩
        have hz : (w4.setCell ⟨w1.heap.size, 0, none⟩ (.string nm)).heap.size = w4.heap.size := by simp
        rw [hz] at hl5 hl45
        exact StmsP.keep (ok' := (w.heap.size <= ·)) (fun g hg _ => by
          have hg : (w4.setCell ⟨w1.heap.size, 0, none⟩ (.string nm)).heap.size <= g := hg
          rw [hz] at hg
          exact (F3 g (by omega)).trans (Below.heap_setCell w5 ⟨w1.heap.size, 2, none⟩ _ g (by show g ≠ w1.heap.size; omega))) (fun g hg _ => by
          have hg : (w4.setCell ⟨w1.heap.size, 0, none⟩ (.string nm)).heap.size <= g := hg
          rw [hz] at hg
          show w.heap.size <= g; omega) L lb HSP.out
      rw [PR.bind_err] at hX1
      have HX := Lib.hid hX1
      clear hX1
      refine hbk.mono ?_
      rintro e w5 ⟨rfl, x5⟩
      clear hbk
      unfold failE
      go_wp2
      exact ⟨rfl, by rw [HX.out]; exact rfl, HA4.out.2.1.trans x5⟩
    rw [PR.bind_err] at hX1
    have HX := Lib.hid hX1
    have X0 := hA.2.1
    clear hX1 hq
    refine hn1.mono ?_
    rintro e w4 ⟨rfl, x4⟩
    clear hn1
    unfold failE
    go_wp2
    exact ⟨rfl, by rw [HX.out]; exact rfl, X0.trans x4⟩
  rw [hi, if_pos rfl] at htk
  rw [if_pos hi] at hX
  have hl0 := isT_cons hi
  have HLT := Lib.hid hlp; have HTK := Lib.hid htk; have HX := Lib.hid hX; have HB := Lib.hid hB
  clear h htk hX hi hB hlp
  go_enter Tryz.func48, Tryz.ntmps48
  go_wp2_with (go_at_call 100; refine HTK.out.mono ?_; rintro e w1 ⟨rfl, hs1, x1⟩; obtain ⟨hlt1, hA⟩ := src_start (d := true) (ar' := ⟨#[45, 62]⟩) HLT.out hs1 x1; have hpw : pb < w1.heap.size := Nat.lt_trans HLT.out hlt1; have p2 := hs1.dep_cell.2.2; have p3 := (hs1.arrow ⟨#[45, 62]⟩).1; obtain ⟨y0, y1, y2, f0, f1, f2⟩ := three_cells hA.2.2.2.2; have HA := Lib.hid hA; clear hA hs1 x1 HTK)
  have hX1 := HX.out
  have hA := HA.out
  have hn1 := name_any pb a cap T ⟨#[45, 62]⟩ 0 r.tail _ hA.1
  rcases hq : pName (lastL T) r.tail with ⟨nm, r4⟩ | ⟨ln, er⟩ <;> rw [hq] at hn1 hX1
  · have hl4 := pName_len hq
    rw [PR.bind_ok] at hX1
    refine hn1.mono ?_
    rintro e w4 ⟨⟨_, rfl, rfl, hs4⟩, x4⟩
    have hlp := HLT.out
    have hA4 := hA.but hlp hs4 x4
    have HA4 := Lib.hid (hA4.name hlp nm)
    obtain ⟨y0, y1, y2, f0, f1, f2⟩ := three_cells hA4.2.2.2.2
    obtain ⟨W4, hW4⟩ : ∃ W4, W4 = w4.setCell ⟨w1.heap.size, 0, none⟩ (.string nm) := ⟨_, rfl⟩
    have hbk : Calls Tryz.prog 102 #[.pointer (some ⟨pb, 0, none⟩), .int .i64 0] W4 fun e w' =>
        POut pb a cap T ⟨#[45, 62]⟩ 0 (fun L u w' => StmsV (W4.heap.size <= ·) L u w') (pBlock (lastL T) [45, 62] f (0 + 0) r4) e w' /\ But pb W4 w' := HB.out ⟨#[45, 62]⟩ f 0 0 r4 W4 (by omega) (by omega) (by omega) (by rw [hW4]; exact HA4.out.1)
    rw [hW4] at hbk
    have hl44 := hA4.2.2.2.1
    have hl45 := (Array.getElem?_eq_some_iff.1 HA4.out.2.2.2.2).1
    clear hq HX hA HA hn1 hA4 x4 hs4 hW4 W4
    go_wp2_with fail
    rcases hq : pBlock (lastL T) [45, 62] f (0 + 0) r4 with ⟨L, r5⟩ | ⟨ln, er⟩ <;> rw [hq] at hbk hX1 <;> clear hq
    · rw [PR.bind_ok] at hX1
      refine hbk.mono ?_
      rintro e w5 ⟨⟨_, rfl, ⟨lb, lc, rfl, hsp, hlc1, hlc2⟩, hs5⟩, x5⟩
      have hl5 := x5.size
      have hA5 := HA4.out.but hlp hs5 x5
      have hX5 := HA4.out.2.1.trans x5
      have k0 := hA5.2.2.1
      have k1 := hA5.2.2.2.2
      have hbw : w.heap.size ≠ w1.heap.size := by omega
      unfold zero3 at k0
      have b1 := setOne k1 2 (.slice lb L.length lc)
      have b0 := (Below.heap_setCell w5 ⟨w1.heap.size, 2, none⟩ (.slice lb L.length lc) w.heap.size hbw).trans k0
      have HZ := Lib.hid (set_three b0 (.string nm) (.bool true) (.slice lb L.length lc))
      obtain ⟨y0, y1, y2, f0, f1, f2⟩ := three_cells k1
      obtain ⟨z0, z1, z2, g0, g1, g2⟩ := three_cells b0
      obtain ⟨v0, v1, v2, e0, e1, e2⟩ := three_cells b1
      have HX := Lib.hid hX1; have HS5 := Lib.hid hs5; have HX5 := Lib.hid hX5; have HSP := Lib.hid hsp
      have HL1 := Lib.hid hlc1; have HL2 := Lib.hid hlc2
      clear hbk hX1 hs5 x5 hA5 hX5 k0 k1 b0 b1 hsp hlc1 hlc2
      go_wp2
      refine bodyPost_ret (results_cell_row rfl _ _ w.heap.size 33 #[.string nm, .bool true, .slice lb L.length lc] (0, 0) _ rfl HZ.out Tryz.underlying33 rfl size_tree) rfl ?_
      have hs' := HS5.out.far (p := ⟨w1.heap.size, 2, none⟩) (by show pb < w1.heap.size; omega) (.slice lb L.length lc)
      have x' := but_far HX5.out (p := ⟨w1.heap.size, 2, none⟩) (by show w.heap.size <= w1.heap.size; omega) (.slice lb L.length lc)
      obtain ⟨F1, F2, F3⟩ := fin_three hs' x' w.heap.size hlp (Nat.le_refl _) (.string nm) (.bool true) (.slice lb L.length lc)
      rw [HX.out]
      refine ⟨⟨_, rfl, ⟨lb, lc, rfl, ?_, HL1.out, HL2.out⟩, _, F1⟩, F2⟩
      have hz : (w4.setCell ⟨w1.heap.size, 0, none⟩ (.string nm)).heap.size = w4.heap.size := by simp
      rw [hz] at hl5 hl45
      exact StmsP.keep (ok' := (w.heap.size <= ·)) (fun g hg _ => by
        have hg : (w4.setCell ⟨w1.heap.size, 0, none⟩ (.string nm)).heap.size <= g := hg
        rw [hz] at hg
        exact (F3 g (by omega)).trans (Below.heap_setCell w5 ⟨w1.heap.size, 2, none⟩ _ g (by show g ≠ w1.heap.size; omega))) (fun g hg _ => by
        have hg : (w4.setCell ⟨w1.heap.size, 0, none⟩ (.string nm)).heap.size <= g := hg
        rw [hz] at hg
        show w.heap.size <= g; omega) L lb HSP.out
    rw [PR.bind_err] at hX1
    have HX := Lib.hid hX1
    clear hX1
    refine hbk.mono ?_
    rintro e w5 ⟨rfl, x5⟩
    clear hbk
    unfold failE
    go_wp2
    exact ⟨rfl, by rw [HX.out]; exact rfl, HA4.out.2.1.trans x5⟩
  rw [PR.bind_err] at hX1
  have HX := Lib.hid hX1
  have X0 := hA.2.1
  clear hX1 hq
  refine hn1.mono ?_
  rintro e w4 ⟨rfl, x4⟩
  clear hn1
  unfold failE
  go_wp2
  exact ⟨rfl, by rw [HX.out]; exact rfl, X0.trans x4⟩
end Go.Proofs.YtjaeedbjknejdaaGreatDoor.Pa

namespace Go.Proofs.YtjaeedbjknejdaaGreatDoor.Pa
open Go.RowKit Go.Sort Go.Lib Go.Shelf Fx Lx Tr
theorem assert_fail (ln er : Int) (t : TypeId) (w : World) : (Instr.typeAssert (.iface 172 (.agg #[.int .i64 ln, .int .i64 er])) t 172 true).run Tryz.prog w = .ok (.tuple #[.agg #[.int .i64 ln, .int .i64 er], .bool true]) w := by kernel_rfl
theorem assert_nil (t : TypeId) (w : World) : (Instr.typeAssert .nilIface t 172 true).run Tryz.prog w = .ok (.tuple #[.agg #[.int .i64 0, .int .i64 0], .bool false]) w := by kernel_rfl
theorem cell_one {w : World} {b : Nat} {v : Value} {t : TypeId} (h : w.heap[b]? = some (.cells #[v] t (0, 0))) (o : Obj) : (w.alloc o).heap[b]? = some (.cells #[v] t (0, 0)) /\ (w.alloc o).cell? ⟨b, 0, none⟩ = some v /\ (w.alloc o).frozen? ⟨b, 0, none⟩ = false := by
  have hk := (((Ext.refl w).alloc o).block b (Array.getElem?_eq_some_iff.1 h).1).trans h
  exact ⟨hk, by rw [Lib.cell_of_heap hk]; rfl, Lib.frozen_of_heap hk 0⟩
theorem rec_panic (b c : Nat) (x y ln er : Int) (older : List PanicEntry) (w : World) (hp : w.heap[b]? = some (.cells #[.int .i64 x] 3 (0, 0))) (hq : w.heap[c]? = some (.cells #[.int .i64 y] 34 (0, 0))) (hbc : b ≠ c) :
    CallsD Tryz.prog 98 #[.pointer (some ⟨b, 0, none⟩), .pointer (some ⟨c, 0, none⟩)] (.panicking ({ v := .iface 172 (.agg #[.int .i64 ln, .int .i64 er]), recovered := false } :: older)) w fun e u' w' =>
      e = .returned (.tuple #[]) /\ u' = .panicking ({ v := .iface 172 (.agg #[.int .i64 ln, .int .i64 er]), recovered := true } :: older) /\
        w' = (((w.setCell ⟨b, 0, none⟩ (.int .i64 ln)).setCell ⟨c, 0, none⟩ (.int .i64 er)).alloc (.cells #[.int .i64 ln, .int .i64 er] 172)).drew := by
  refine callsD_of_wpS Tryz.func98 rfl fun c₀ cs hu => ?_
  obtain ⟨k1, k2, k3⟩ := cell_one hp (.cells #[.int .i64 ln, .int .i64 er] 172)
  obtain ⟨l1, l2, l3⟩ := cell_one hq (.cells #[.int .i64 ln, .int .i64 er] 172)
  have hb := (Array.getElem?_eq_some_iff.1 hp).1
  have hc := (Array.getElem?_eq_some_iff.1 hq).1
  have k4 : w.cell? ⟨b, 0, none⟩ = some (.int .i64 x) := by rw [Lib.cell_of_heap hp]; rfl
  have l4 : w.cell? ⟨c, 0, none⟩ = some (.int .i64 y) := by rw [Lib.cell_of_heap hq]; rfl
  have k5 := Lib.frozen_of_heap hp 0
  have l5 := Lib.frozen_of_heap hq 0
  clear hp hq k1 l1
  have hta := assert_fail ln er
  apply wpS_seq
  apply wpS_region
  simp only [Tryz.ntmps98, List.size_toArray, List.length_cons, List.length_nil, Nat.reduceAdd, Nat.reduceSub, Array.replicate_succ, Array.replicate_zero, List.push_toArray, List.append_toArray, List.nil_append, List.cons_append]
  simp [wpOpsS, go_sem, recoverD, hu, Exit.thenS, hta]
  refine wpS_of_wp ?_
  go_wp2
  go_region
  all_goals
    exact ⟨rfl, _, rfl, _, results_none rfl _ _ _, rfl, rfl, rfl⟩
theorem rec_idle (p q : Addr) (w : World) :
    CallsD Tryz.prog 98 #[.pointer (some p), .pointer (some q)] .returning w fun e u' w' => e = .returned (.tuple #[]) /\ u' = .returning /\ Ext w w' := by
  refine callsD_of_wpS Tryz.func98 rfl fun c₀ cs hu => ?_
  have hta := assert_nil
  apply wpS_seq
  apply wpS_region
  simp only [Tryz.ntmps98, List.size_toArray, List.length_cons, List.length_nil, Nat.reduceAdd, Nat.reduceSub, Array.replicate_succ, Array.replicate_zero, List.push_toArray, List.append_toArray, List.nil_append, List.cons_append]
  simp [wpOpsS, go_sem, recoverD, hu, Exit.thenS, hta]
  refine wpS_of_wp ?_
  go_wp2
  exact ⟨rfl, .returning, by cases c₀; simp_all, _, results_none rfl _ _ _, rfl, rfl, (Ext.refl w).alloc _⟩
end Go.Proofs.YtjaeedbjknejdaaGreatDoor.Pa

namespace Go.Proofs.YtjaeedbjknejdaaGreatDoor.Lx
open Go.Lib Fx
theorem Z_cons (ln : Int) (L : List Tok) (c : UInt8) (r : List UInt8) : Z ln L (c :: r) =
    if c = 10 then Z (ln + 1) L r
    else if c = 32 || c = 9 then Z ln L r
    else if c = 35 then Z (if (skip (c :: r)).2 then ln + 1 else ln) L (skip (c :: r)).1
    else if (next (c :: r)).2.2 = 0 then Z ln (L ++ [{ (next (c :: r)).1 with line := ln }]) ((c :: r).drop (next (c :: r)).2.1)
    else ([], ln, (next (c :: r)).2.2) := by
  show tokz (r.length + 1) ln L (c :: r) = _
  rw [tokz_cons]
  by_cases h1 : c = 10
  · rw [if_pos h1, if_pos h1]; rfl
  rw [if_neg h1, if_neg h1]
  by_cases h2 : (c = 32 || c = 9) = true
  · rw [if_pos h2, if_pos h2]; rfl
  rw [if_neg h2, if_neg h2]
  by_cases h3 : c = 35
  · rw [if_pos h3, if_pos h3, Z_of]
    rw [skip_cons r h1]; exact skip_le r
  rw [if_neg h3, if_neg h3]
  by_cases h4 : (next (c :: r)).2.2 = 0
  · rw [if_pos h4, if_pos h4, Z_of]
    have := (next_len (c :: r) (by simp) h4).1
    rw [List.length_drop, List.length_cons]; omega
  rw [if_neg h4, if_neg h4]
end Go.Proofs.YtjaeedbjknejdaaGreatDoor.Lx

namespace Go.Proofs.YtjaeedbjknejdaaGreatDoor.Pa
open Go.Lib Fx Lx Tr
def okT (t : Tok) : Prop := t.text.length <= 32 /\ -268435456 <= t.n /\ t.n <= 268435456
theorem contents_len : ∀ (s : List UInt8) (esc : Bool) (acc : List UInt8) (i : Nat), acc.length <= 32 -> (contents esc acc i s).1.length <= 32
  | [], esc, acc, i, _ => by show ([] : List UInt8).length <= 32; simp
  | c :: r, esc, acc, i, h => by
    rw [contents]
    by_cases h1 : c.toNat = 10
    · rw [if_pos h1]; simp
    rw [if_neg h1]
    split
    · simp
    split
    · exact h
    split
    · exact contents_len r true acc (i + 1) h
    by_cases h5 : 32 < acc.length + 1
    · rw [if_pos h5]; simp
    rw [if_neg h5]
    exact contents_len r false (acc ++ [c]) (i + 1) (by simp; omega)
theorem markOf_len (s : List UInt8) : ∀ (l : List (List UInt8)) (m : List UInt8), markOf s l = some m -> m ∈ l
  | [], m, h => by cases h
  | x :: r, m, h => by
    unfold markOf at h
    split at h
    · injection h with h; rw [h]; simp
    · exact List.mem_cons_of_mem _ (markOf_len s r m h)
theorem kw_len (l : List UInt8) (h : kw l = true) : l.length <= 32 := by
  unfold kw at h
  simp only [Bool.or_eq_true, beq_iff_eq] at h
  rcases h with ((((h | h) | h) | h) | h) | h <;> rw [h] <;> decide
theorem next_okT (s : List UInt8) (h : (next s).2.2 = 0) (ln : Int) : okT { (next s).1 with line := ln } := by
  unfold okT
  dsimp only
  unfold next at h ⊢
  by_cases h1 : 0 < wordN s
  · rw [if_pos h1] at h ⊢
    by_cases h2 : kw (s.take (wordN s)) = true
    · rw [if_pos h2]; exact ⟨kw_len _ h2, by dsimp only; decide, by dsimp only; decide⟩
    rw [if_neg h2] at h ⊢
    by_cases h3 : 16 < wordN s
    · rw [if_pos h3]; exact ⟨by simp, by dsimp only; decide, by dsimp only; decide⟩
    rw [if_neg h3]
    refine ⟨?_, by dsimp only; decide, by dsimp only; decide⟩
    have : (s.take (wordN s)).length <= wordN s := by rw [List.length_take]; omega
    dsimp only; omega
  rw [if_neg h1] at h ⊢
  by_cases h2 : (isD (bt s 0) || (bt s 0 == 45 && decide (1 < s.length) && isD (bt s 1))) = true
  · rw [if_pos h2] at h ⊢
    by_cases h3 : (parse (s.take (numN s))).2 = 0
    · rw [if_pos h3]
      obtain ⟨_, e1, e2⟩ := exact_ok (s.take (numN s)) (parse (s.take (numN s))).1 (by rw [<- h3])
      exact ⟨by simp, e2, e1⟩
    rw [if_neg h3]; exact ⟨by simp, by dsimp only; decide, by dsimp only; decide⟩
  rw [if_neg h2] at h ⊢
  by_cases h3 : (bt s 0 == 34) = true
  · rw [if_pos h3] at h ⊢
    by_cases h4 : (contents false [] 0 (s.drop 1)).2.2 = 0
    · rw [if_pos h4]; exact ⟨contents_len _ _ _ _ (by simp), by dsimp only; decide, by dsimp only; decide⟩
    rw [if_neg h4]; exact ⟨by simp, by dsimp only; decide, by dsimp only; decide⟩
  rw [if_neg h3] at h ⊢
  cases hm : markOf s marks with
  | none => exact ⟨by simp, by dsimp only; decide, by dsimp only; decide⟩
  | some m =>
    have := markOf_len s marks m hm
    refine ⟨?_, by dsimp only; decide, by dsimp only; decide⟩
    have hall : ∀ m ∈ marks, m.length <= 32 := by decide
    exact hall m this
theorem Z_okT : ∀ (n : Nat) (s : List UInt8), s.length <= n -> ∀ (ln : Int) (L : List Tok), (∀ t ∈ L, okT t) -> ∀ t ∈ (Z ln L s).1, okT t := by
  intro n
  induction n with
  | zero =>
    intro s hs ln L hL
    have : s = [] := List.eq_nil_of_length_eq_zero (by omega)
    subst this
    rw [Z_nil]; exact hL
  | succ n ih =>
    intro s hs ln L hL
    cases s with
    | nil => rw [Z_nil]; exact hL
    | cons c r =>
      have hr : r.length <= n := by simpa using hs
      rw [Z_cons]
      by_cases h1 : c = 10
      · rw [if_pos h1]; exact ih r hr _ L hL
      rw [if_neg h1]
      by_cases h2 : (c = 32 || c = 9) = true
      · rw [if_pos h2]; exact ih r hr _ L hL
      rw [if_neg h2]
      by_cases h3 : c = 35
      · rw [if_pos h3, skip_cons r h1]
        have := skip_le r
        exact ih _ (by omega) _ L hL
      rw [if_neg h3]
      by_cases h4 : (next (c :: r)).2.2 = 0
      · rw [if_pos h4]
        have hl := next_len (c :: r) (by simp) h4
        refine ih _ (by rw [List.length_drop, List.length_cons]; omega) _ _ fun t ht => ?_
        rcases List.mem_append.1 ht with ht | ht
        · exact hL t ht
        rw [List.mem_singleton] at ht; rw [ht]; exact next_okT _ h4 ln
      · rw [if_neg h4]; intro t ht; cases ht
theorem tokenize_okT (s : List UInt8) : ∀ t ∈ (tokenize s).1, okT t := by
  unfold tokenize
  by_cases h : 16384 < s.length
  · rw [if_pos h]; intro t ht; cases ht
  rw [if_neg h]; exact Z_okT s.length s (Nat.le_refl _) 1 [] (by intro t ht; cases ht)
def Wei {α : Type} (c : α -> Nat) (x : PR α) (M : Nat) : Prop := ∀ v r, x = .ok v r -> c v + 64 * r.length <= M /\ ∀ t ∈ r, okT t
theorem Wei.bind {α β : Type} {c : β -> Nat} {x : PR α} {g : α -> List Tok -> PR β} {M : Nat} (h : ∀ v r, x = .ok v r -> Wei c (g v r) M) : Wei c (x.bind g) M := by
  intro v r e
  cases x with
  | ok u s => exact h u s rfl v r e
  | err ln er => cases e
theorem Wei.ok {α : Type} {c : α -> Nat} {v : α} {r : List Tok} {M : Nat} (h : c v + 64 * r.length <= M) (hr : ∀ t ∈ r, okT t) : Wei c (PR.ok v r) M := by
  intro v' r' e; injection e with e1 e; rw [<- e, <- e1]; exact ⟨h, hr⟩
theorem Wei.err {α : Type} {c : α -> Nat} {ln er : Int} {M : Nat} : Wei c (PR.err ln er : PR α) M := by
  intro v' r' e; cases e
theorem Wei.mono {α : Type} {c : α -> Nat} {x : PR α} {M N : Nat} (h : Wei c x M) (hn : M <= N) : Wei c x N := fun v r e => ⟨Nat.le_trans (h v r e).1 hn, (h v r e).2⟩
theorem Wei.ite {α : Type} {c : α -> Nat} {p : Prop} [Decidable p] {x y : PR α} {M : Nat} (h1 : p -> Wei c x M) (h2 : ¬ p -> Wei c y M) : Wei c (if p then x else y) M := by
  by_cases h : p
  · rw [if_pos h]; exact h1 h
  rw [if_neg h]; exact h2 h
theorem tail_ok {r : List Tok} (h : ∀ t ∈ r, okT t) : ∀ t ∈ r.tail, okT t := fun t ht => h t (List.mem_of_mem_tail ht)
theorem isT_len {k : Int} {x : List UInt8} {r : List Tok} (h : isT k x r = true) : r.tail.length + 1 = r.length := by
  cases r with
  | nil => cases h
  | cons t r => rfl
theorem wei_mark (last : Int) (m : List UInt8) (r : List Tok) (h : ∀ t ∈ r, okT t) : Wei (fun _ => 64) (pMark last m r) (64 * r.length) := by
  unfold pMark
  refine Wei.ite (fun hi => ?_) (fun _ => Wei.err)
  have := isT_len hi
  exact Wei.ok (by omega) (tail_ok h)
theorem wei_name (last : Int) (r : List Tok) (h : ∀ t ∈ r, okT t) : Wei (fun v => v.size + 31) (pName last r) (64 * r.length) := by
  cases r with
  | nil => exact Wei.err
  | cons t r =>
    unfold pName
    refine Wei.ite (fun _ => ?_) (fun _ => Wei.err)
    have := (h t (by simp)).1
    refine Wei.ok ?_ (fun u hu => h u (by simp [hu]))
    rw [size_mk, List.length_cons]; omega
theorem fmt_len (n : Int) (h0 : -268435456 <= n) (h1 : n <= 268435456) : (fmt n).length <= 30 := by
  obtain ⟨u, q, r, A, D, _, _, _, _, _, _, _, _, hD, hA, hDl, hf⟩ := fmt_parts n (by omega) (by omega)
  have ht := (trim_props (D.drop 1)).2.2
  rw [hf]
  simp only [List.length_append, List.length_drop] at ht ⊢
  have e1 : (if n < 0 then [45] else ([] : List UInt8)).length <= 1 := by split <;> simp
  have e2 : (if 0 < r then 46 :: trimRightB (D.drop 1) 48 else []).length <= 4 := by
    split
    · simp only [List.length_cons]; omega
    simp
  omega
theorem wei_val (last : Int) (r : List Tok) (h : ∀ t ∈ r, okT t) : Wei (fun v => v.size + 31) (pVal last r) (64 * r.length) := by
  cases r with
  | nil => exact Wei.err
  | cons t r =>
    have ht := h t (by simp)
    have hr : ∀ u ∈ r, okT u := fun u hu => h u (by simp [hu])
    unfold pVal
    refine Wei.ite (fun _ => ?_) (fun _ => Wei.ite (fun _ => ?_) (fun _ => Wei.err))
    · refine Wei.ok ?_ hr
      rw [size_mk, List.length_cons]; have := ht.1; omega
    · refine Wei.ok ?_ hr
      have := fmt_len t.n ht.2.1 ht.2.2
      rw [size_mk, List.length_cons]; omega
theorem wei_attr (last : Int) (r : List Tok) (h : ∀ t ∈ r, okT t) : Wei (fun q => q.1.size + q.2.size + 1) (pAttr last r) (64 * r.length) := by
  unfold pAttr
  refine Wei.bind fun k s e => ?_
  obtain ⟨a1, h1⟩ := wei_name last r h k s e
  refine Wei.bind fun u s' e => ?_
  obtain ⟨a2, h2⟩ := wei_mark last _ s h1 u s' e
  refine Wei.bind fun v s'' e => ?_
  obtain ⟨a3, h3⟩ := wei_val last s' h2 v s'' e
  dsimp only at a1 a2 a3
  exact Wei.ok (by dsimp only; omega) h3
theorem two_app : ∀ (a b : List Two), sizeTwo (a ++ b) = sizeTwo a + sizeTwo b
  | [], b => by simp [sizeTwo]
  | q :: a, b => by rw [List.cons_append, sizeTwo, sizeTwo, two_app a b]; omega
theorem two_one (q : Two) : sizeTwo [q] = q.1.size + q.2.size + 1 := by rw [sizeTwo, sizeTwo]
theorem wei_attrs (last : Int) : ∀ (f : Nat) (out : List Two) (r : List Tok), (∀ t ∈ r, okT t) -> Wei sizeTwo (pAttrs last f out r) (sizeTwo out + 64 * r.length)
  | 0, _, _, _ => by rw [pAttrs]; exact Wei.err
  | f + 1, out, r, h => by
    rw [pAttrs]
    refine Wei.ite (fun hi => ?_) (fun _ => ?_)
    · have := isT_len hi
      exact Wei.ok (by omega) (tail_ok h)
    refine Wei.bind fun u s e => ?_
    have hs : s.length <= r.length /\ ∀ t ∈ s, okT t := by
      by_cases h0 : out.isEmpty = true
      · rw [if_pos h0] at e; injection e with _ e; rw [<- e]; exact ⟨Nat.le_refl _, h⟩
      rw [if_neg h0] at e
      obtain ⟨a1, h1⟩ := wei_mark last _ r h u s e
      exact ⟨by omega, h1⟩
    refine Wei.bind fun q s' e' => ?_
    obtain ⟨a2, h2⟩ := wei_attr last s hs.2 q s' e'
    refine (wei_attrs last f (out ++ [q]) s' h2).mono ?_
    dsimp only at a2
    rw [two_app, two_one]; have := hs.1; omega
theorem wei_attrsB (last : Int) (r : List Tok) (h : ∀ t ∈ r, okT t) : Wei sizeTwo (pAttrsB last r) (64 * r.length) := by
  unfold pAttrsB
  refine Wei.bind fun u s e => ?_
  obtain ⟨a1, h1⟩ := wei_mark last _ r h u s e
  refine (wei_attrs last _ [] s h1).mono ?_
  rw [sizeTwo]; omega
theorem wei_opt (last : Int) (r : List Tok) (h : ∀ t ∈ r, okT t) : Wei (fun a => sizeTwo a + 64) (pOpt last r) (64 * r.length) := by
  unfold pOpt
  refine Wei.bind fun a s e => ?_
  have hs : sizeTwo a + 64 * s.length <= 64 * r.length /\ ∀ t ∈ s, okT t := by
    by_cases h0 : isT 5 [91] r = true
    · rw [if_pos h0] at e; exact wei_attrsB last r h a s e
    rw [if_neg h0] at e; injection e with e1 e; rw [<- e, <- e1, sizeTwo]; exact ⟨by omega, h⟩
  refine Wei.bind fun u s' e' => ?_
  obtain ⟨a2, h2⟩ := wei_mark last _ s hs.2 u s' e'
  dsimp only at a2
  exact Wei.ok (by have := hs.1; omega) h2
theorem wei_port (last : Int) (n : ByteArray) (r : List Tok) (h : ∀ t ∈ r, okT t) : Wei (fun q => q.1.size + q.2.size) (pPort last n r) (n.size + 64 * r.length) := by
  unfold pPort
  refine Wei.ite (fun hi => ?_) (fun _ => ?_)
  · have := isT_len hi
    refine Wei.bind fun p s e => ?_
    obtain ⟨a1, h1⟩ := wei_name last r.tail (tail_ok h) p s e
    exact Wei.ok (by dsimp only at a1 ⊢; omega) h1
  exact Wei.ok (by dsimp only; show n.size + 0 + _ <= _; omega) h
theorem wei_ref (last : Int) (r : List Tok) (h : ∀ t ∈ r, okT t) : Wei (fun q => q.1.size + q.2.size + 1) (pRef last r) (64 * r.length) := by
  unfold pRef
  refine Wei.bind fun n s e => ?_
  obtain ⟨a1, h1⟩ := wei_name last r h n s e
  intro q s' e'
  obtain ⟨a2, h2⟩ := wei_port last n s h1 q s' e'
  dsimp only at a1 a2 ⊢
  exact ⟨by omega, h2⟩
theorem wei_refs (last : Int) (ar : List UInt8) : ∀ (f : Nat) (out : List Two) (r : List Tok), (∀ t ∈ r, okT t) -> Wei sizeTwo (pRefs last ar f out r) (sizeTwo out + 64 * r.length)
  | 0, _, _, _ => by rw [pRefs]; exact Wei.err
  | f + 1, out, r, h => by
    rw [pRefs]
    refine Wei.ite (fun hi => ?_) (fun _ => Wei.ok (Nat.le_refl _) h)
    refine Wei.bind fun u s e => ?_
    obtain ⟨a1, h1⟩ := wei_mark last _ r h u s e
    refine Wei.bind fun q s' e' => ?_
    obtain ⟨a2, h2⟩ := wei_ref last s h1 q s' e'
    refine (wei_refs last ar f (out ++ [q]) s' h2).mono ?_
    dsimp only at a1 a2
    rw [two_app, two_one]; omega
theorem sizeS_mk (k : Int) (n : ByteArray) (rs al : List Two) (b : List Stm) : sizeS (.mk k n rs al b) = n.size + sizeTwo rs + sizeTwo al + sizeL b + 1 := by rw [sizeS]
theorem wei_chain (last : Int) (ar : List UInt8) (r : List Tok) (h : ∀ t ∈ r, okT t) : Wei sizeS (pChain last ar r) (64 * r.length) := by
  unfold pChain
  refine Wei.bind fun n s e => ?_
  obtain ⟨a1, h1⟩ := wei_name last r h n s e
  refine Wei.ite (fun _ => ?_) (fun _ => ?_)
  · refine Wei.bind fun a s' e' => ?_
    obtain ⟨a2, h2⟩ := wei_opt last s h1 a s' e'
    refine Wei.ok ?_ h2
    rw [sizeS_mk, sizeTwo, sizeL_nil]; dsimp only at a1 a2; omega
  refine Wei.bind fun q s' e' => ?_
  obtain ⟨a2, h2⟩ := wei_port last n s h1 q s' e'
  refine Wei.bind fun rs s2 e2 => ?_
  obtain ⟨a3, h3⟩ := wei_refs last ar _ [q] s' h2 rs s2 e2
  refine Wei.bind fun a s3 e3 => ?_
  obtain ⟨a4, h4⟩ := wei_opt last s2 h3 a s3 e3
  refine Wei.ok ?_ h4
  rw [two_one] at a3
  rw [sizeS_mk, sizeL_nil]; dsimp only at a1 a2 a3 a4
  have : ByteArray.size ⟨#[]⟩ = 0 := rfl
  omega
theorem wei_set (last : Int) (r : List Tok) (h : ∀ t ∈ r, okT t) : Wei sizeS (pSet last r) (64 * r.length) := by
  unfold pSet
  refine Wei.bind fun n s e => ?_
  obtain ⟨a1, h1⟩ := wei_name last r h n s e
  refine Wei.bind fun u s1 e => ?_
  obtain ⟨a2, h2⟩ := wei_mark last _ s h1 u s1 e
  refine Wei.bind fun v s2 e => ?_
  obtain ⟨a3, h3⟩ := wei_val last s1 h2 v s2 e
  refine Wei.bind fun u' s3 e => ?_
  obtain ⟨a4, h4⟩ := wei_mark last _ s2 h3 u' s3 e
  refine Wei.ok ?_ h4
  rw [sizeS_mk, two_one, sizeL_nil, sizeTwo]
  dsimp only at a1 a2 a3 a4 ⊢
  have : ByteArray.size ⟨#[]⟩ = 0 := rfl
  omega
theorem wei_def (last : Int) (x : List UInt8) (hx : x.length <= 32) (r : List Tok) (h : ∀ t ∈ r, okT t) : Wei sizeS (pDef last x r) (64 * r.length + 64) := by
  unfold pDef
  refine Wei.bind fun a s e => ?_
  obtain ⟨a1, h1⟩ := wei_attrsB last r h a s e
  refine Wei.bind fun u s1 e => ?_
  obtain ⟨a2, h2⟩ := wei_mark last _ s h1 u s1 e
  refine Wei.ok ?_ h2
  rw [sizeS_mk, sizeL_nil, sizeTwo, size_mk]
  dsimp only at a1 a2
  omega
theorem text_len (r : List Tok) (h : ∀ t ∈ r, okT t) : (textOf r).length <= 32 := by
  cases r with
  | nil => show ([] : List UInt8).length <= 32; simp
  | cons t r => exact (h t (by simp)).1
theorem sizeL_app : ∀ (a b : List Stm), sizeL (a ++ b) = sizeL a + sizeL b
  | [], b => by rw [List.nil_append, sizeL_nil]; omega
  | x :: a, b => by rw [List.cons_append, sizeL_cons, sizeL_cons, sizeL_app a b]; omega
theorem wei_all (last : Int) (ar : List UInt8) : ∀ f : Nat, (∀ dep r, (∀ t ∈ r, okT t) -> Wei sizeS (pStm last ar f dep r) (64 * r.length)) /\
    (∀ dep r, (∀ t ∈ r, okT t) -> Wei sizeL (pBlock last ar f dep r) (64 * r.length)) /\ ∀ dep out r, (∀ t ∈ r, okT t) -> Wei sizeL (pStms last ar f dep out r) (sizeL out + 64 * r.length)
  | 0 => by
    refine ⟨fun _ _ _ => ?_, fun _ _ _ => ?_, fun _ _ _ _ => ?_⟩
    · rw [pStm]; exact Wei.err
    · rw [pBlock]; exact Wei.err
    · rw [pStms]; exact Wei.err
  | f + 1 => by
    obtain ⟨h1, h2, h3⟩ := wei_all last ar f
    refine ⟨fun dep r h => ?_, fun dep r h => ?_, fun dep out r h => ?_⟩
    · rw [pStm]
      refine Wei.ite (fun hi => ?_) (fun _ => Wei.ite (fun hi => ?_) (fun _ => Wei.ite (fun hi => ?_) (fun _ => wei_chain last ar r h)))
      · have hl : r.tail.length + 1 = r.length := by
          rcases Bool.or_eq_true _ _ |>.mp hi with hi | hi <;> exact isT_len hi
        exact (wei_def last _ (text_len r h) r.tail (tail_ok h)).mono (by omega)
      · have := isT_len hi
        exact (wei_set last r.tail (tail_ok h)).mono (by omega)
      have hl := isT_len hi
      refine Wei.bind fun n s e => ?_
      obtain ⟨a1, g1⟩ := wei_name last r.tail (tail_ok h) n s e
      refine Wei.bind fun b s' e' => ?_
      obtain ⟨a2, g2⟩ := h2 _ s g1 b s' e'
      refine Wei.ok ?_ g2
      rw [sizeS_mk, sizeTwo]; dsimp only at a1; omega
    · rw [pBlock]
      refine Wei.ite (fun _ => Wei.err) (fun _ => ?_)
      refine Wei.bind fun u s e => ?_
      obtain ⟨a1, g1⟩ := wei_mark last _ r h u s e
      refine (h3 dep [] s g1).mono ?_
      rw [sizeL_nil]; omega
    · rw [pStms]
      refine Wei.ite (fun hi => ?_) (fun _ => ?_)
      · have := isT_len hi
        exact Wei.ok (by omega) (tail_ok h)
      refine Wei.bind fun x s e => ?_
      obtain ⟨a1, g1⟩ := h1 dep r h x s e
      refine (h3 dep (out ++ [x]) s g1).mono ?_
      rw [sizeL_app, sizeL_cons, sizeL_nil]; omega
theorem wei_tree (last : Int) (f : Nat) (r : List Tok) (h : ∀ t ∈ r, okT t) : Wei (fun t => t.2.1.size + sizeL t.2.2) (pTree last f r) (64 * r.length) := by
  unfold pTree
  refine Wei.ite (fun hi => ?_) (fun _ => Wei.ite (fun hi => ?_) (fun _ => Wei.err))
  all_goals
    have hl := isT_len hi
    refine Wei.bind fun n s e => ?_
    obtain ⟨a1, g1⟩ := wei_name last r.tail (tail_ok h) n s e
    refine Wei.bind fun b s' e' => ?_
    obtain ⟨a2, g2⟩ := (wei_all last _ f).2.1 _ s g1 b s' e'
    refine Wei.ok ?_ g2
    dsimp only at a1 ⊢; omega
end Go.Proofs.YtjaeedbjknejdaaGreatDoor.Pa
