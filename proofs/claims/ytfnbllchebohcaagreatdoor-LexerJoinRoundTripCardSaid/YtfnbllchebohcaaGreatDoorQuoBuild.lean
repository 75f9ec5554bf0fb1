/- What the replacer's build lays at the four texts of Quote: a byteStringReplacer. -/
import Derived.Test.YtfnbllchebohcaaGreatDoorQuoOnce
import Derived.Test.YtfnbllchebohcaaGreatDoorShelf
import Derived.Lib.SlBytesConst
import Derived.Laws.IdiomStrings
import Derived.Deep.WholeRow
import Derived.WalkSpells
import Derived.WalkLawsBesides
import Derived.Handy
import Derived.Lib.OwnKind
import Derived.Maps.AppendAt
import Derived.Deep.AppendLies
namespace Go.Proofs.YtfnbllchebohcaaGreatDoor.Qo
open Go.RowKit Go.Lib Fx

/-- The cells of a byteStringReplacer. -/
def repC (s34 s92 v : Value) : Array Value := (((Array.replicate 256 (.slice none 0 0)).setIfInBounds 34 s34).setIfInBounds 92 s92).push v
theorem repC_size (a b c : Value) : (repC a b c).size = 257 := by simp [repC]
theorem build_run (a : Addr) (w : World) : (Instr.build 111 #[(1, .slice (some a) 0 2)]).run Tryz.prog w = .ok (.agg (repC (.slice none 0 0) (.slice none 0 0) (.slice (some a) 0 2))) w := by kernel_rfl
theorem zero_run (w : World) : (zeroValue 111).run Tryz.prog w = .ok (.agg (repC (.slice none 0 0) (.slice none 0 0) (.slice none 0 0))) w := by kernel_rfl
theorem rep_info : (Tryz.prog.info? 111).map (·.size) = some 257 := by kernel_rfl
theorem make2 (w : World) : (Instr.makeSlice 57 (.int .i64 0) (.int .i64 2)).run Tryz.prog w = .ok (.slice (some ⟨w.heap.size, 0, none⟩) 0 2) (w.alloc (.cells #[.string ⟨#[]⟩, .string ⟨#[]⟩] 9)) := by kernel_rfl
theorem repC_cells (a b c : Value) (ha : a.oneCell' = true) (hb : b.oneCell' = true) (hc : c.oneCell' = true) : (repC a b c).all (·.oneCell') = true := by
  rw [Array.all_eq_true]
  intro i hi
  have hi' : i < ((((Array.replicate 256 (Value.slice none 0 0)).setIfInBounds 34 a).setIfInBounds 92 b).push c).size := hi
  show ((((Array.replicate 256 (Value.slice none 0 0)).setIfInBounds 34 a).setIfInBounds 92 b).push c)[i].oneCell' = true
  rw [Array.getElem_push]
  split
  · rw [Array.getElem_setIfInBounds]
    split
    · exact hb
    · rw [Array.getElem_setIfInBounds]
      split
      · exact ha
      · rw [Array.getElem_replicate]; rfl
      · simp at *; omega
    · simp at *; omega
  · exact hc
theorem repC_256 (a b c c' : Value) : (repC a b c).setIfInBounds 256 c' = repC a b c' := by kernel_rfl
theorem repC_34 (a b c a' : Value) : (repC a b c).setIfInBounds 34 a' = repC a' b c := by kernel_rfl
theorem repC_92 (a b c b' : Value) : (repC a b c).setIfInBounds 92 b' = repC a b' c := by kernel_rfl
theorem repC_at256 (a b c : Value) : (repC a b c)[256]? = some c := by kernel_rfl
theorem repC_at34 (a b c : Value) : (repC a b c)[34]? = some a := by kernel_rfl
theorem repC_at92 (a b c : Value) : (repC a b c)[92]? = some b := by kernel_rfl
theorem repC_else (a b c : Value) (i : Nat) (hi : i < 256) (h1 : i ≠ 34) (h2 : i ≠ 92) : (repC a b c)[i]? = some (.slice none 0 0) := by
  have hi' : i < ((((Array.replicate 256 (Value.slice none 0 0)).setIfInBounds 34 a).setIfInBounds 92 b).push c).size := by simp; omega
  show ((((Array.replicate 256 (Value.slice none 0 0)).setIfInBounds 34 a).setIfInBounds 92 b).push c)[i]? = _
  rw [Array.getElem?_eq_getElem hi', Array.getElem_push_lt (by simpa using hi), Array.getElem_setIfInBounds_ne (by simpa using hi) (fun e => h2 e.symm), Array.getElem_setIfInBounds_ne (by simpa using hi) (fun e => h1 e.symm), Array.getElem_replicate]

/-- A slice of bytes in a block of its own. -/
def BytesAt (w : World) (s : Value) (l : List UInt8) : Prop :=
  ∃ (p c : Nat) (C : Array Value) (fz : Nat × Nat), s = .slice (some ⟨p, 0, none⟩) l.length c ∧ w.heap[p]? = some (.cells C 5 fz) ∧ ∀ (j : Nat) (b : UInt8), l[j]? = some b → C[j]? = some (Value.int .u8 b.toNat)
theorem BytesAt.kept {w w' : World} {s : Value} {l : List UInt8} (h : BytesAt w s l) (hk : ∀ (p : Nat) (C : Array Value) (fz : Nat × Nat), w.heap[p]? = some (.cells C 5 fz) → w'.heap[p]? = some (.cells C 5 fz)) : BytesAt w' s l := by
  obtain ⟨p, c, C, fz, hs, hh, hc⟩ := h
  exact ⟨p, c, C, fz, hs, hk p C fz hh, hc⟩
theorem BytesAt.ext {w w' : World} {s : Value} {l : List UInt8} (h : BytesAt w s l) (x : Ext w w') : BytesAt w' s l :=
  h.kept fun p _ _ hp => (x.block p (Array.getElem?_eq_some_iff.1 hp).1).trans hp
/-- A byteStringReplacer whose first texts are xs. -/
structure RB (B k : Nat) (s34 s92 v : Value) (xs : List Value) (w : World) : Prop where
  blk : w.heap[k]? = some (.cells (repC s34 s92 v) 111 (0, 0))
  own : w.ownsRow B 9 1 v xs.length xs

theorem ownsRow_type {w : World} {B : Nat} {e : TypeId} {size : Nat} {v : Value} {n : Nat} {xs : List Value} (h : w.ownsRow B e size v n xs) : ∀ g, v.ownBlock = some g → ∃ c fz, w.heap[g]? = some (.cells c e fz) := ownsRow_kind h
theorem RB.ne {B k : Nat} {s34 s92 v : Value} {xs : List Value} {w : World} (h : RB B k s34 s92 v xs w) : v.ownBlock ≠ some k := by
  have hb := h.blk
  rcases h.own.2 with ⟨rfl, _⟩ | ⟨g', cap, cur, rfl, _, hh, _⟩
  · simp [Value.ownBlock]
  · intro he
    have e : g' = k := by simpa [Value.ownBlock] using he
    subst e
    rw [hh] at hb
    injection hb with hb
    injection hb with _ ht
    exact absurd ht (by decide)
theorem cell_of_blk {w : World} {k : Nat} {C : Array Value} {T : TypeId} {fz : Nat × Nat} (h : w.heap[k]? = some (.cells C T fz)) (i : Nat) : w.cell? ⟨k, i, none⟩ = C[i]? := by rw [Lib.cell_of_heap h]
theorem frozen_of_blk {w : World} {k : Nat} {C : Array Value} {T : TypeId} (h : w.heap[k]? = some (.cells C T (0, 0))) (i : Nat) : w.frozen? ⟨k, i, none⟩ = false := Lib.frozen_of_heap h i
theorem info_str : (Tryz.prog.info? 9).map (fun i => (i.zero, i.size, i.bytes)) = some (some (.string ⟨#[]⟩), 1, 16) := by kernel_rfl
def strsV (l : List (List UInt8)) : List Value := l.map fun s => .string ⟨s.toArray⟩

/-- The replacer of Quote at block k. -/
def RepAt (w : World) (k : Nat) : Prop := ∃ B s34 s92 v, RB B k s34 s92 v (strsV [[34], [92]]) w ∧ BytesAt w s34 [92, 34] ∧ BytesAt w s92 [92, 92]
/-- What a round's two stores and the new row leave. -/
theorem round_world {B k q cp n i : Nat} {C : Array Value} {T : TypeId} {s : Value} {xs : List Value} {w2 : World} (O : Obj) (hb : w2.heap[k]? = some (.cells C T (0, 0))) (hT : T ≠ 9)
    (hown : w2.ownsRow B 9 1 (.slice (some ⟨q, 0, none⟩) n cp) n xs) (h0 : 0 < n) :
    ((((w2.setCell ⟨k, 256, none⟩ (.slice (some ⟨q, 0, none⟩) n cp)).setCell ⟨k, i, none⟩ s).alloc O).drew).heap[k]? = some (.cells ((C.setIfInBounds 256 (.slice (some ⟨q, 0, none⟩) n cp)).setIfInBounds i s) T (0, 0)) ∧
    ((((w2.setCell ⟨k, 256, none⟩ (.slice (some ⟨q, 0, none⟩) n cp)).setCell ⟨k, i, none⟩ s).alloc O).drew).ownsRow B 9 1 (.slice (some ⟨q, 0, none⟩) n cp) n xs ∧
    ((((w2.setCell ⟨k, 256, none⟩ (.slice (some ⟨q, 0, none⟩) n cp)).setCell ⟨k, i, none⟩ s).alloc O).drew).heap[w2.heap.size]? = some O ∧
    ∀ p, p ≠ k → p < w2.heap.size → ((((w2.setCell ⟨k, 256, none⟩ (.slice (some ⟨q, 0, none⟩) n cp)).setCell ⟨k, i, none⟩ s).alloc O).drew).heap[p]? = w2.heap[p]? := by
  have hk := (Array.getElem?_eq_some_iff.1 hb).1
  have hne : (Value.slice (some ⟨q, 0, none⟩) n cp).ownBlock ≠ some k := by
    rcases hown.2 with ⟨h1, _⟩ | ⟨g', cap, cur, h1, _, hh, _⟩
    · cases h1
    · intro he
      have e1 : q = k := by simpa [Value.ownBlock] using he
      have e2 : q = g' := by injection h1 with h1; injection h1 with h1; injection h1
      subst e2; subst e1
      rw [hh] at hb
      injection hb with hb
      injection hb with _ ht
      exact hT ht.symm
  refine ⟨?_, ?_, ?_, ?_⟩
  · rw [heap_drew, Lib.alloc_old _ _ _ (by simpa [World.setCell] using hk), heap_setCell_same _ k i _ T s (heap_setCell_same w2 k 256 C T _ hb)]
  · exact (ownsRow_setCell_other (a := ⟨k, i, none⟩) (ownsRow_setCell_other (a := ⟨k, 256, none⟩) hown hne _) hne _).alloc _
  · rw [heap_drew]
    have h := heap_alloc_new ((w2.setCell ⟨k, 256, none⟩ (.slice (some ⟨q, 0, none⟩) n cp)).setCell ⟨k, i, none⟩ s) O
    have e : ((w2.setCell ⟨k, 256, none⟩ (.slice (some ⟨q, 0, none⟩) n cp)).setCell ⟨k, i, none⟩ s).heap.size = w2.heap.size := by simp [World.setCell]
    rw [e] at h; exact h
  · intro p hp hlt
    rw [heap_drew, Lib.alloc_old _ _ _ (by simpa [World.setCell] using hlt), heap_setCell_other _ ⟨k, i, none⟩ p _ hp, heap_setCell_other _ ⟨k, 256, none⟩ p _ hp]
theorem bytesRow_at (s : ByteArray) (cap j : Nat) (b : UInt8) (h : s.data.toList[j]? = some b) : (bytesRow s cap)[j]? = some (Value.int .u8 b.toNat) := by
  unfold bytesRow
  have hj : j < s.data.size := by
    have := (List.getElem?_eq_some_iff.1 h).1
    simpa using this
  rw [Array.getElem?_append_left (by simpa using hj)]
  rw [Array.getElem?_map]
  have : s.data[j]? = some b := by simpa using h
  rw [this]; rfl

set_option maxHeartbeats 1600000 in
set_option maxRecDepth 100000 in
theorem build_any (rb g cap : Nat) (w : World) (h4 : w.cell? ⟨rb, 4, none⟩ = some (.slice (some ⟨g, 0, none⟩) 4 cap))
    (g0 : w.cell? ⟨g, 0, none⟩ = some (.string ⟨#[92]⟩)) (g1 : w.cell? ⟨g, 1, none⟩ = some (.string ⟨#[92, 92]⟩)) (g2 : w.cell? ⟨g, 2, none⟩ = some (.string ⟨#[34]⟩)) (g3 : w.cell? ⟨g, 3, none⟩ = some (.string ⟨#[92, 34]⟩)) :
    Calls Tryz.prog 48 #[.pointer (some ⟨rb, 0, none⟩)] w fun e w' => (∃ k, e = .returned (.iface 112 (.pointer (some ⟨k, 0, none⟩))) ∧ w.heap.size ≤ k ∧ RepAt w' k) ∧ Ext w w' := by
  have hmk := make2
  have hbr := build_run
  have hzr := zero_run
  have hst : ∀ v : Value, v.oneCell' = true → (storeCells ⟨w.heap.size + 1, 0, none⟩ ((repC (.slice none 0 0) (.slice none 0 0) (.slice none 0 0)).toList.set 256 v)).run Tryz.prog
      ((w.alloc (.cells #[.string ⟨#[]⟩, .string ⟨#[]⟩] 9)).alloc (.cells (repC (.slice none 0 0) (.slice none 0 0) (.slice none 0 0)) 111)) = .ok ()
      ((w.alloc (.cells #[.string ⟨#[]⟩, .string ⟨#[]⟩] 9)).alloc (.cells (repC (.slice none 0 0) (.slice none 0 0) v) 111)) := fun v hv => by
    have h := run_storeCells_new (P := Tryz.prog) (w.alloc (.cells #[.string ⟨#[]⟩, .string ⟨#[]⟩] 9)) 111 (repC (.slice none 0 0) (.slice none 0 0) (.slice none 0 0)) (repC (.slice none 0 0) (.slice none 0 0) v) (by rw [rep_info, repC_size]) (by rw [repC_size, repC_size]) (repC_cells _ _ _ rfl rfl hv)
    rw [World.size_alloc] at h
    exact h
  have hst1 := hst (.slice (some ⟨w.heap.size, 0, none⟩) 0 2) rfl
  clear hst
  obtain ⟨i0, hi, hz0, hz1, hz2⟩ := info_parts info_str
  go_enter Tryz.func48, Tryz.ntmps48
  go_wp2_with fail
  refine wp_loop_rounds 3 ?_
  rw [rounds_succ]
  go_wp2_with fail
  rw [rounds_succ]
  go_wp2_with fail
  rw [rounds_succ]
  go_wp2_with fail
  go_loopw [12] (fun i' wr => (∃ v, i' = .int .i64 2 ∧ RB w.heap.size (w.heap.size + 1) (.slice none 0 0) (.slice none 0 0) v [] wr ∧ Ext w wr) ∨
      (∃ s34 v, i' = .int .i64 0 ∧ RB w.heap.size (w.heap.size + 1) s34 (.slice none 0 0) v (strsV [[34]]) wr ∧ BytesAt wr s34 [92, 34] ∧ Ext w wr) ∨
      (∃ s34 s92 v, i' = .int .i64 (-2) ∧ RB w.heap.size (w.heap.size + 1) s34 s92 v (strsV [[34], [92]]) wr ∧ BytesAt wr s34 [92, 34] ∧ BytesAt wr s92 [92, 92] ∧ Ext w wr))
    (fun i' _ => (RowKit.intOf i' + 2).toNat)
  case atStart =>
    refine .inl ⟨.slice (some ⟨w.heap.size, 0, none⟩) 0 2, rfl, ⟨?_, ?_⟩, ((Ext.refl _).alloc _).alloc _⟩
    · have h := heap_alloc_new (w.alloc (.cells #[.string ⟨#[]⟩, .string ⟨#[]⟩] 9)) (.cells (repC (.slice none 0 0) (.slice none 0 0) (.slice (some ⟨w.heap.size, 0, none⟩) 0 2)) 111)
      rw [World.size_alloc] at h
      exact h
    · refine ⟨rfl, .inr ⟨w.heap.size, 2, #[.string ⟨#[]⟩, .string ⟨#[]⟩], rfl, Nat.le_refl _, ?_, ?_⟩⟩
      · exact heap_alloc2_old w _ _
      · simp [maxLen]
  case round =>
    clear hst1 hmk hbr hzr
    rcases hrel with ⟨v, rfl, hr, hx⟩ | ⟨s34, v, rfl, hr, hb34, hx⟩ | ⟨s34, s92, v, rfl, hr, hb34, hb92, hx⟩
    · have r2 := hx.cell g2; have r3 := hx.cell g3
      have k34 := (cell_of_blk hr.blk 34).trans (repC_at34 _ _ _)
      have k256 := (cell_of_blk hr.blk 256).trans (repC_at256 _ _ _)
      have hsz := (Array.getElem?_eq_some_iff.1 hr.blk).1
      have hcb : (convert 43 9 (.slice (some ⟨wr.heap.size, 0, none⟩) 1 1)).run Tryz.prog (wr.alloc (.cells #[.int .u8 34] 5)) = .ok (.string ⟨#[34]⟩) (wr.alloc (.cells #[.int .u8 34] 5)) := run_convert_bytes_back (P := Tryz.prog) (wr.alloc (.cells #[.int .u8 34] 5)) 43 9 5 ⟨wr.heap.size, 0, none⟩ 1 [34] Tryz.underlying43 Tryz.underlying5 Tryz.underlying9 (fun j hj => by
        simp at hj; subst hj; simp [Addr.add])
      have e34 : ((⟨#[34]⟩ : ByteArray)[0]'(by decide)).toNat = 34 := rfl
      have hen := fun w => Lib.run_eql_slice_nil (P := Tryz.prog) w 43 5 none 0 0 0 0 Tryz.underlying43
      have hne := hr.ne
      have hown := hr.own
      have HB := Lib.hid hr.blk
      have hxs := hx.size
      clear hr
      go_wp2_with (at_builtin; refine wpList_append_own _ rfl _ _ 57 rfl w.heap.size 9 i0 (.string ⟨#[]⟩) 1 16 Tryz.underlying57 hi hz0 hz1 hz2 rfl (by decide) _ _ _ rfl ((hown.alloc _).alloc _) ⟨wr.heap.size + 1, 0, none⟩ 1 1 [.string ⟨#[34]⟩] rfl rfl ?c1 ?c2 ?c3 ?c4 ?c5 ?_)
      case c1 =>
        intro j u hj
        match j, hj with
        | 0, hj => simp at hj; subst hj; simp [Addr.add]
      case c2 => intro u hu; simp at hu; subst hu; rfl
      case c3 => unfold maxLen; simp [strsV]
      case c4 => simp [strsV]
      case c5 => simp; omega
      intro v' w2 hown' hgrow _
      have hb2 : w2.heap[w.heap.size + 1]? = some (.cells (repC (.slice none 0 0) (.slice none 0 0) v) 111 (0, 0)) := by
        rw [hgrow.block _ (by simp; omega) (fun e => hne e.symm), Lib.alloc_old _ _ _ (by simp; omega), Lib.alloc_old _ _ _ hsz]
        exact HB.out
      have hx2 : Ext w w2 := Below.grown ((hx.alloc _).alloc _) hgrow (by simp; omega) (fun k hk => (hown.lt k hk).1)
      have d34 := (cell_of_blk hb2 34).trans (repC_at34 _ _ _)
      have d256 := (cell_of_blk hb2 256).trans (repC_at256 _ _ _)
      have f34 := frozen_of_blk hb2 34
      have f256 := frozen_of_blk hb2 256
      have hlt2 := (Array.getElem?_eq_some_iff.1 hb2).1
      obtain ⟨q, cp, rfl⟩ : ∃ q cp, v' = .slice (some ⟨q, 0, none⟩) 1 cp := by
        rcases hown'.2 with ⟨_, h0⟩ | ⟨q, cp, cur, hv, _⟩
        · simp [strsV] at h0
        · exact ⟨q, cp, by simpa [strsV] using hv⟩
      have HO := Lib.hid hown'
      have HB2 := Lib.hid hb2
      have HG := Lib.hid hgrow
      clear hown' hb2 hgrow
      have hsb := fun w => run_bytes_of_string (P := Tryz.prog) w 9 43 5 ⟨#[92, 34]⟩ Tryz.underlying9 Tryz.underlying43 Tryz.underlying5
      go_wp2_with fail
      go_roundw
      case rel =>
        obtain ⟨q1, q2, q3, q4⟩ := round_world (i := 34) (s := .slice (some ⟨w2.heap.size, 0, none⟩) 2 (grownCap (w2.setCell ⟨w.heap.size + 1, 256, none⟩ (.slice (some ⟨q, 0, none⟩) 1 cp)) 2 0 5)) _ HB2.out (by decide) HO.out (by decide)
        rw [repC_256, repC_34] at q1
        exact .inr (.inl ⟨_, _, rfl, ⟨q1, q2⟩, ⟨_, _, _, _, rfl, q3, fun j b hb => bytesRow_at _ _ _ _ hb⟩, (((hx2.setCell (p := ⟨w.heap.size + 1, 256, none⟩) (by simp) _).setCell (p := ⟨w.heap.size + 1, 34, none⟩) (by simp) _).alloc _).drew⟩)
      case measure => simp [RowKit.intOf]
    · have r2 := hx.cell g0; have r3 := hx.cell g1
      have k34 := (cell_of_blk hr.blk 92).trans (repC_at92 _ _ _)
      have k256 := (cell_of_blk hr.blk 256).trans (repC_at256 _ _ _)
      have hsz := (Array.getElem?_eq_some_iff.1 hr.blk).1
      have hcb : (convert 43 9 (.slice (some ⟨wr.heap.size, 0, none⟩) 1 1)).run Tryz.prog (wr.alloc (.cells #[.int .u8 92] 5)) = .ok (.string ⟨#[92]⟩) (wr.alloc (.cells #[.int .u8 92] 5)) := run_convert_bytes_back (P := Tryz.prog) (wr.alloc (.cells #[.int .u8 92] 5)) 43 9 5 ⟨wr.heap.size, 0, none⟩ 1 [92] Tryz.underlying43 Tryz.underlying5 Tryz.underlying9 (fun j hj => by
        simp at hj; subst hj; simp [Addr.add])
      have e34 : ((⟨#[92]⟩ : ByteArray)[0]'(by decide)).toNat = 92 := rfl
      have hen := fun w => Lib.run_eql_slice_nil (P := Tryz.prog) w 43 5 none 0 0 0 0 Tryz.underlying43
      have hne := hr.ne
      have hown := hr.own
      have HOW := Lib.hid hr.own
      have HB34 := Lib.hid hb34
      clear hb34
      have HB := Lib.hid hr.blk
      have hxs := hx.size
      clear hr
      go_wp2_with (at_builtin; refine wpList_append_own _ rfl _ _ 57 rfl w.heap.size 9 i0 (.string ⟨#[]⟩) 1 16 Tryz.underlying57 hi hz0 hz1 hz2 rfl (by decide) _ _ _ rfl ((hown.alloc _).alloc _) ⟨wr.heap.size + 1, 0, none⟩ 1 1 [.string ⟨#[92]⟩] rfl rfl ?c1 ?c2 ?c3 ?c4 ?c5 ?_)
      case c1 =>
        intro j u hj
        match j, hj with
        | 0, hj => simp at hj; subst hj; simp [Addr.add]
      case c2 => intro u hu; simp at hu; subst hu; rfl
      case c3 => unfold maxLen; simp [strsV]
      case c4 => simp [strsV]
      case c5 => simp; omega
      intro v' w2 hown' hgrow _
      have hb2 : w2.heap[w.heap.size + 1]? = some (.cells (repC s34 (.slice none 0 0) v) 111 (0, 0)) := by
        rw [hgrow.block _ (by simp; omega) (fun e => hne e.symm), Lib.alloc_old _ _ _ (by simp; omega), Lib.alloc_old _ _ _ hsz]
        exact HB.out
      have hx2 : Ext w w2 := Below.grown ((hx.alloc _).alloc _) hgrow (by simp; omega) (fun k hk => (hown.lt k hk).1)
      have d34 := (cell_of_blk hb2 92).trans (repC_at92 _ _ _)
      have d256 := (cell_of_blk hb2 256).trans (repC_at256 _ _ _)
      have f34 := frozen_of_blk hb2 92
      have f256 := frozen_of_blk hb2 256
      have hlt2 := (Array.getElem?_eq_some_iff.1 hb2).1
      obtain ⟨q, cp, rfl⟩ : ∃ q cp, v' = .slice (some ⟨q, 0, none⟩) 2 cp := by
        rcases hown'.2 with ⟨_, h0⟩ | ⟨q, cp, cur, hv, _⟩
        · simp [strsV] at h0
        · exact ⟨q, cp, by simpa [strsV] using hv⟩
      have HO := Lib.hid hown'
      have HB2 := Lib.hid hb2
      have HG := Lib.hid hgrow
      clear hown' hb2 hgrow
      have hsb := fun w => run_bytes_of_string (P := Tryz.prog) w 9 43 5 ⟨#[92, 92]⟩ Tryz.underlying9 Tryz.underlying43 Tryz.underlying5
      go_wp2_with fail
      go_roundw
      case rel =>
        obtain ⟨q1, q2, q3, q4⟩ := round_world (i := 92) (s := .slice (some ⟨w2.heap.size, 0, none⟩) 2 (grownCap (w2.setCell ⟨w.heap.size + 1, 256, none⟩ (.slice (some ⟨q, 0, none⟩) 2 cp)) 2 0 5)) _ HB2.out (by decide) HO.out (by decide)
        rw [repC_256, repC_92] at q1
        refine .inr (.inr ⟨_, _, _, rfl, ⟨q1, q2⟩, ?_, ⟨_, _, _, _, rfl, q3, fun j b hb => bytesRow_at _ _ _ _ hb⟩, (((hx2.setCell (p := ⟨w.heap.size + 1, 256, none⟩) (by simp) _).setCell (p := ⟨w.heap.size + 1, 92, none⟩) (by simp) _).alloc _).drew⟩)
        exact HB34.out.kept fun p C fz hp => by
          have hlp := (Array.getElem?_eq_some_iff.1 hp).1
          have e1 : w2.heap[p]? = wr.heap[p]? := by
            rw [HG.out.block p (by simp; omega) (fun e => ?_), Lib.alloc_old _ _ _ (by simp; omega), Lib.alloc_old _ _ _ hlp]
            obtain ⟨c, f, hc⟩ := ownsRow_type HOW.out _ e.symm
            rw [hp] at hc
            injection hc with hc
            injection hc with _ ht
            exact absurd ht (by decide)
          rw [q4 p (fun e => ?_) (by have := HG.out.size; simp at this; omega), e1]
          · exact hp
          · subst e
            rw [HB.out] at hp
            injection hp with hp
            injection hp with _ ht
            exact absurd ht (by decide)
      case measure => simp [RowKit.intOf]
    · have HR := Lib.hid (show RepAt wr (w.heap.size + 1) from ⟨_, _, _, _, hr, hb34, hb92⟩)
      clear hr hb34 hb92
      go_wp2_with fail
      go_ret
      exact ⟨⟨_, rfl, by omega, HR.out⟩, hx⟩
end Go.Proofs.YtfnbllchebohcaaGreatDoor.Qo
