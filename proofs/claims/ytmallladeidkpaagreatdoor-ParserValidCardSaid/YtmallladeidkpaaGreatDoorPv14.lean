/- Packed texts: ParState, ParName, ParRow -/
import Derived.Test.YtmallladeidkpaaGreatDoorPv13
import Derived.Test.YtmallladeidkpaaGreatDoorPv11
import Derived.WalkLawsBesides
set_option linter.unusedVariables false
set_option linter.unusedSimpArgs false
/- The parser's state in memory; what peek, is, take return. -/
namespace Go.Proofs.YtmallladeidkpaaGreatDoor.Pa
open Go.RowKit Go.Sort Go.Lib Go.Shelf Fx Lx Tr

/-- The tokens behind a slice, off the block pb. -/
def TokIn (pb : Nat) (w : World) (a : Option Addr) (L : List Tok) : Prop :=
  ∀ k (h : k < L.length), ∃ g o, a = some ⟨g, o, none⟩ ∧ g < pb ∧ w.cell? ⟨g, o + k * 4, none⟩ = some (.int .i64 L[k].kind) ∧ w.cell? ⟨g, o + k * 4 + 1, none⟩ = some (.string ⟨L[k].text.toArray⟩) ∧
    w.cell? ⟨g, o + k * 4 + 2, none⟩ = some (.int .i64 L[k].n) ∧ w.cell? ⟨g, o + k * 4 + 3, none⟩ = some (.int .i64 L[k].line)
theorem TokIn.but {pb : Nat} {w w' : World} {a : Option Addr} {L : List Tok} (h : TokIn pb w a L) (x : But pb w w') : TokIn pb w' a L := fun k hk => by
  obtain ⟨g, o, ha, hg, h0, h1, h2, h3⟩ := h k hk
  have hn := Nat.ne_of_lt hg
  exact ⟨g, o, ha, hg, x.cell (p := ⟨g, _, none⟩) hn h0, x.cell (p := ⟨g, _, none⟩) hn h1, x.cell (p := ⟨g, _, none⟩) hn h2, x.cell (p := ⟨g, _, none⟩) hn h3⟩
theorem TokIn.below {pb n : Nat} {w w' : World} {a : Option Addr} {L : List Tok} (h : TokIn pb w a L) (x : Below n w w') (hn : pb ≤ n) : TokIn pb w' a L := fun k hk => by
  obtain ⟨g, o, ha, hg, h0, h1, h2, h3⟩ := h k hk
  have hn : g < n := by omega
  exact ⟨g, o, ha, hg, (x.cell (p := ⟨g, _, none⟩) hn).trans h0, (x.cell (p := ⟨g, _, none⟩) hn).trans h1, (x.cell (p := ⟨g, _, none⟩) hn).trans h2, (x.cell (p := ⟨g, _, none⟩) hn).trans h3⟩
/-- The parser's four cells. -/
def PCells (pb : Nat) (w : World) (a : Option Addr) (N cap k : Nat) (ar : ByteArray) (dep : Int) : Prop :=
  w.heap[pb]? = some (.cells #[.slice a N cap, .int .i64 k, .string ar, .int .i64 dep] 71 (0, 0))
theorem PCells.cells {pb : Nat} {w : World} {a : Option Addr} {N cap k : Nat} {ar : ByteArray} {dep : Int} (h : PCells pb w a N cap k ar dep) :
    w.cell? ⟨pb, 0, none⟩ = some (.slice a N cap) ∧ w.cell? ⟨pb, 1, none⟩ = some (.int .i64 k) ∧ w.cell? ⟨pb, 2, none⟩ = some (.string ar) ∧ w.cell? ⟨pb, 3, none⟩ = some (.int .i64 dep) ∧ ∀ i, w.frozen? ⟨pb, i, none⟩ = false := by
  refine ⟨?_, ?_, ?_, ?_, fun i => Lib.frozen_of_heap h i⟩ <;> rw [Lib.cell_of_heap h] <;> rfl
theorem PCells.lt {pb : Nat} {w : World} {a : Option Addr} {N cap k : Nat} {ar : ByteArray} {dep : Int} (h : PCells pb w a N cap k ar dep) : pb < w.heap.size := (Array.getElem?_eq_some_iff.1 h).1
theorem PCells.ext {pb : Nat} {w w' : World} {a : Option Addr} {N cap k : Nat} {ar : ByteArray} {dep : Int} (h : PCells pb w a N cap k ar dep) (x : Ext w w') : PCells pb w' a N cap k ar dep := (x.block pb h.lt).trans h
theorem PCells.at {pb : Nat} {w : World} {a : Option Addr} {N cap k : Nat} {ar : ByteArray} {dep : Int} (h : PCells pb w a N cap k ar dep) (k' : Nat) : PCells pb (w.setCell ⟨pb, 1, none⟩ (.int .i64 k')) a N cap k' ar dep := setOne h 1 _
theorem PCells.arrow {pb : Nat} {w : World} {a : Option Addr} {N cap k : Nat} {ar : ByteArray} {dep : Int} (h : PCells pb w a N cap k ar dep) (ar' : ByteArray) : PCells pb (w.setCell ⟨pb, 2, none⟩ (.string ar')) a N cap k ar' dep := setOne h 2 _
theorem PCells.depth {pb : Nat} {w : World} {a : Option Addr} {N cap k : Nat} {ar : ByteArray} {dep : Int} (h : PCells pb w a N cap k ar dep) (dep' : Int) : PCells pb (w.setCell ⟨pb, 3, none⟩ (.int .i64 dep')) a N cap k ar dep' := setOne h 3 _
/-- The zero token, or the next one. -/
def tok0 : Tok := ⟨0, [], 0, 0⟩
def peekT (r : List Tok) : Tok := r.headD tok0
def tokV (t : Tok) : Value := .agg #[.int .i64 t.kind, .string ⟨t.text.toArray⟩, .int .i64 t.n, .int .i64 t.line]
theorem tok_cells (w : World) (k : Int) (x : ByteArray) (n l : Int) : ∀ w1, Ext (w.alloc (.cells #[.int .i64 k, .string x, .int .i64 n, .int .i64 l] 86)) w1 →
    w1.cell? ⟨w.heap.size, 0, none⟩ = some (.int .i64 k) ∧ w1.cell? ⟨w.heap.size, 1, none⟩ = some (.string x) ∧ w1.cell? ⟨w.heap.size, 2, none⟩ = some (.int .i64 n) ∧ w1.cell? ⟨w.heap.size, 3, none⟩ = some (.int .i64 l) := fun w1 xx => by
  have hb := heap_alloc_new w (.cells #[.int .i64 k, .string x, .int .i64 n, .int .i64 l] 86)
  refine ⟨xx.cell ?_, xx.cell ?_, xx.cell ?_, xx.cell ?_⟩ <;> rw [Lib.cell_of_heap hb] <;> rfl
theorem peek_drop (T : List Tok) (k : Nat) (h : k < T.length) : peekT (T.drop k) = T[k] := by
  unfold peekT; rw [List.drop_eq_getElem_cons h]; rfl
theorem peek_end (T : List Tok) (k : Nat) (h : ¬ k < T.length) : peekT (T.drop k) = tok0 := by
  unfold peekT; rw [List.drop_eq_nil_of_le (by omega)]; rfl
set_option maxHeartbeats 4000000 in
theorem peek_any (pb : Nat) (a : Option Addr) (cap k : Nat) (T : List Tok) (ar : ByteArray) (dep : Int) (w : World) (h : PCells pb w a T.length cap k ar dep) (ht : TokIn pb w a T) (hn : T.length ≤ 16384) (hk : k ≤ T.length) :
    Calls Tryz.prog 50 #[.pointer (some ⟨pb, 0, none⟩)] w fun e w' => e = .returned (tokV (peekT (T.drop k))) ∧ Ext w w' := by
  obtain ⟨p0, p1, _, _, _⟩ := (h.ext ((Ext.refl w).alloc (.cells #[.int .i64 0, .string ⟨#[]⟩, .int .i64 0, .int .i64 0] 86))).cells
  obtain ⟨N, hN⟩ : ∃ N, N = T.length := ⟨_, rfl⟩
  by_cases hlt : k < T.length
  · obtain ⟨g, o, rfl, hg, c0, c1, c2, c3⟩ := ht k hlt
    rw [peek_drop T k hlt]
    have hx := (Ext.refl w).alloc (.cells #[.int .i64 0, .string ⟨#[]⟩, .int .i64 0, .int .i64 0] 86)
    have d0 := hx.cell c0; have d1 := hx.cell c1; have d2 := hx.cell c2; have d3 := hx.cell c3
    have hlt' : (k : Int) < (N : Int) := by omega
    generalize T[k] = t at *
    obtain ⟨tk, tx, tn, tl⟩ := t
    dsimp only at c0 c1 c2 c3 d0 d1 d2 d3
    rw [← hN] at p0 hlt hn
    clear ht h hN hk
    go_enter Tryz.func50, Tryz.ntmps50
    go_wp2
    go_region
    all_goals
      go_wp2
      go_region
      all_goals
        go_wp2
        go_returns
        exact ⟨rfl, ((Ext.refl w).alloc _).drew.drew⟩
  · rw [peek_end T k hlt]
    have hlt' : ¬ (k : Int) < (N : Int) := by omega
    rw [← hN] at p0 hn
    clear ht h hN hk hlt
    go_enter Tryz.func50, Tryz.ntmps50
    go_wp2
    go_region
    all_goals
      go_wp2
      go_returns
      exact ⟨rfl, ((Ext.refl w).alloc _).drew⟩

/-- The world began as one with the tables, and the parser's cells are newer. -/
def PEnv (pb : Nat) (w : World) : Prop := ∃ w0, Ext w0 w ∧ w0.heap.size ≤ pb ∧ Env w0
theorem PEnv.but {pb : Nat} {w w' : World} (h : PEnv pb w) (x : But pb w w') : PEnv pb w' := by
  obtain ⟨w0, h0, h1, h2⟩ := h
  exact ⟨w0, x.fresh h0 h1, h1, h2⟩
theorem PEnv.env {pb : Nat} {w : World} (h : PEnv pb w) : Env w := by
  obtain ⟨w0, h0, _, h2⟩ := h
  exact h2.ext h0
/-- The numbers are numbers of 64 bits. -/
def TokN (T : List Tok) : Prop := ∀ t ∈ T, -9223372036854775808 ≤ t.n ∧ t.n ≤ 9223372036854775807
/-- The parser at what is left, r, of the tokens T. -/
def PSt (pb : Nat) (a : Option Addr) (cap : Nat) (T : List Tok) (ar : ByteArray) (dep : Int) (r : List Tok) (w : World) : Prop :=
  ∃ k, k ≤ T.length ∧ T.length ≤ 16384 ∧ T.drop k = r ∧ PCells pb w a T.length cap k ar dep ∧ TokIn pb w a T ∧ PEnv pb w ∧ TokN T
theorem PSt.ext {pb : Nat} {a : Option Addr} {cap : Nat} {T : List Tok} {ar : ByteArray} {dep : Int} {r : List Tok} {w w' : World} (h : PSt pb a cap T ar dep r w) (x : Ext w w') : PSt pb a cap T ar dep r w' := by
  obtain ⟨k, hk, hn, hd, hc, ht, he, hm⟩ := h
  exact ⟨k, hk, hn, hd, hc.ext x, ht.but (But.of x), he.but (But.of x), hm⟩
theorem PSt.below {pb n : Nat} {a : Option Addr} {cap : Nat} {T : List Tok} {ar : ByteArray} {dep : Int} {r : List Tok} {w w' : World} (h : PSt pb a cap T ar dep r w) (x : Below n w w') (hn : pb < n) : PSt pb a cap T ar dep r w' := by
  obtain ⟨k, hk, hn', hd, hc, ht, ⟨w0, h0, h1, h2⟩, hm⟩ := h
  exact ⟨k, hk, hn', hd, (x.block pb hn).trans hc, ht.below x (by omega), ⟨w0, Below.trans h0 (x.mono (by omega)), h1, h2⟩, hm⟩
def lastL (T : List Tok) : Int := match T.getLast? with
  | some t => t.line
  | none => 1
def failE (ln e : Int) : Ending := .panicked [{ v := .iface 68 (.agg #[.int .i64 ln, .int .i64 e]), recovered := false }]
theorem peek_st (pb : Nat) (a : Option Addr) (cap : Nat) (T : List Tok) (ar : ByteArray) (dep : Int) (r : List Tok) (w : World) (h : PSt pb a cap T ar dep r w) :
    Calls Tryz.prog 50 #[.pointer (some ⟨pb, 0, none⟩)] w fun e w' => e = .returned (tokV (peekT r)) ∧ Ext w w' := by
  obtain ⟨k, hk, hn, hd, hc, ht, _, _⟩ := h
  rw [← hd]
  exact peek_any pb a cap k T ar dep w hc ht hn hk
theorem isT_peek (kd : Int) (x : List UInt8) (r : List Tok) (h : kd ≠ 0) : isT kd x r = (decide ((peekT r).kind = kd) && decide ((peekT r).text = x)) := by
  cases r with
  | nil =>
    show false = (decide ((0 : Int) = kd) && decide (([] : List UInt8) = x))
    rw [decide_eq_false (show ¬ (0 : Int) = kd by omega)]; rfl
  | cons t r => rfl
theorem beq_text (l : List UInt8) (x : ByteArray) : (l == x.toList) = decide (l = x.data.toList) := by
  rw [ByteArray.toList_eq, Bool.eq_iff_iff, beq_iff_eq, decide_eq_true_eq]
set_option maxHeartbeats 4000000 in
theorem is_any (pb : Nat) (a : Option Addr) (cap : Nat) (T : List Tok) (ar : ByteArray) (dep : Int) (r : List Tok) (kd : Int) (hkd : kd ≠ 0) (x : ByteArray) (w : World) (h : PSt pb a cap T ar dep r w) :
    Calls Tryz.prog 49 #[.pointer (some ⟨pb, 0, none⟩), .int .i64 kd, .string x] w fun e w' => e = .returned (.bool (isT kd x.data.toList r)) ∧ Ext w w' := by
  obtain ⟨k, hk, hn, hd, hc, ht, _, _⟩ := h
  have H := Lib.hid (peek_any pb a cap k T ar dep w hc ht hn hk)
  rw [hd] at H
  rw [isT_peek kd _ r hkd]
  clear hk hn hd hc ht
  generalize peekT r = t at *
  obtain ⟨tk, tx, tn, tl⟩ := t
  unfold tokV at H
  dsimp only at H ⊢
  by_cases e1 : tk = kd
  · subst e1
    rw [decide_eq_true rfl]
    go_enter Tryz.func49, Tryz.ntmps49
    go_wp2_with (go_at_call 50; refine H.out.mono ?_; rintro e w1 ⟨rfl, x1⟩; have hcl := tok_cells w1 tk ⟨tx.toArray⟩ tn tl)
    go_returns
    exact ⟨ret_bool (by rw [Bool.true_and]; exact beq_text _ _), x1.alloc _⟩
  · rw [decide_eq_false e1]
    go_enter Tryz.func49, Tryz.ntmps49
    go_wp2_with (go_at_call 50; refine H.out.mono ?_; rintro e w1 ⟨rfl, x1⟩; have hcl := tok_cells w1 tk ⟨tx.toArray⟩ tn tl)
    go_returns
    exact ⟨rfl, x1.alloc _⟩
set_option maxHeartbeats 4000000 in
theorem take_any (pb : Nat) (a : Option Addr) (cap : Nat) (T : List Tok) (ar : ByteArray) (dep : Int) (r : List Tok) (kd : Int) (hkd : kd ≠ 0) (x : ByteArray) (w : World) (h : PSt pb a cap T ar dep r w) :
    Calls Tryz.prog 34 #[.pointer (some ⟨pb, 0, none⟩), .int .i64 kd, .string x] w fun e w' =>
      e = .returned (.bool (isT kd x.data.toList r)) ∧ PSt pb a cap T ar dep (if isT kd x.data.toList r = true then r.tail else r) w' ∧ But pb w w' := by
  have H := Lib.hid (is_any pb a cap T ar dep r kd hkd x w h)
  have HS := Lib.hid h
  clear h
  cases hi : isT kd x.data.toList r
  · rw [hi] at H
    go_enter Tryz.func34, Tryz.ntmps34
    go_wp2_with (go_at_call 49; refine H.out.mono ?_; rintro e w1 ⟨rfl, x1⟩)
    go_returns
    exact ⟨rfl, HS.out.ext x1, But.of x1⟩
  · rw [hi] at H
    have hr : r ≠ [] := by rintro rfl; cases hi
    go_enter Tryz.func34, Tryz.ntmps34
    go_wp2_with (go_at_call 49; refine H.out.mono ?_; rintro e w1 ⟨rfl, x1⟩; obtain ⟨k, hk, hn, hd, hc, ht, he, hm⟩ := HS.out.ext x1; obtain ⟨p0, p1, p2, p3, p4⟩ := hc.cells; have HC := Lib.hid hc; have HT := Lib.hid ht; have HD := Lib.hid hd; clear hc ht hd)
    go_returns
    have hc' : PCells pb (w1.setCell ⟨pb, 1, none⟩ (.int .i64 ((k : Int) + 1))) a T.length cap (k + 1) ar dep := HC.out.at (k + 1)
    have hb : But pb w1 (w1.setCell ⟨pb, 1, none⟩ (.int .i64 ((k : Int) + 1))) := (But.refl pb w1).setCell ⟨pb, 1, none⟩ rfl _
    refine ⟨rfl, ⟨k + 1, ?_, hn, ?_, hc', HT.out.but hb, he.but hb, hm⟩, (But.of x1).trans hb⟩
    · have := HD.out
      have hne : T.drop k ≠ [] := by rw [this]; exact hr
      have : k < T.length := Nat.lt_of_not_le fun hle => hne (List.drop_eq_nil_of_le hle)
      omega
    · rw [← HD.out, List.tail_drop]
set_option maxHeartbeats 4000000 in
theorem fail_any (pb : Nat) (a : Option Addr) (cap : Nat) (T : List Tok) (ar : ByteArray) (dep : Int) (r : List Tok) (er : Int) (w : World) (h : PSt pb a cap T ar dep r w) :
    Calls Tryz.prog 33 #[.pointer (some ⟨pb, 0, none⟩), .int .i64 er] w fun e w' => e = failE (lineOf (lastL T) r) er ∧ Ext w w' := by
  obtain ⟨k, hk, hn, hd, hc, ht, _, _⟩ := h
  obtain ⟨p0, p1, _, _, _⟩ := hc.cells
  by_cases h0 : T.length = 0
  · have hT : T = [] := List.eq_nil_of_length_eq_zero h0
    subst hT
    have hr : r = [] := by rw [← hd]; simp
    subst hr
    clear hd hc ht hk
    go_enter Tryz.func33, Tryz.ntmps33
    go_wp2
    exact ⟨rfl, rfl, Ext.refl _⟩
  · by_cases hlt : k < T.length
    · obtain ⟨g, o, rfl, hg, c0, c1, c2, c3⟩ := ht k hlt
      have hl : lineOf (lastL T) r = T[k].line := by rw [← hd, List.drop_eq_getElem_cons hlt]; rfl
      rw [hl]
      generalize T[k] = t at *
      obtain ⟨tk, tx, tn, tl⟩ := t
      dsimp only at c3 ⊢
      obtain ⟨N, hN⟩ : ∃ N, N = T.length := ⟨_, rfl⟩
      rw [← hN] at p0 h0 hlt hn
      have hm : min (k : Int) ((N : Int) - 1) = (k : Int) := by omega
      clear hc ht hk hl hd hN c0 c1 c2
      go_enter Tryz.func33, Tryz.ntmps33
      go_wp2
      go_region
      all_goals
        go_wp2
        exact ⟨rfl, rfl, (Ext.refl w).drew⟩
    · have hlt2 : T.length - 1 < T.length := by omega
      obtain ⟨g, o, rfl, hg, c0, c1, c2, c3⟩ := ht (T.length - 1) hlt2
      have hl : lineOf (lastL T) r = T[T.length - 1].line := by
        rw [← hd, List.drop_eq_nil_of_le (by omega)]
        show lastL T = _
        unfold lastL
        rw [List.getLast?_eq_getElem?, List.getElem?_eq_getElem hlt2]
      rw [hl]
      generalize T[T.length - 1] = t at *
      obtain ⟨tk, tx, tn, tl⟩ := t
      dsimp only at c3 ⊢
      obtain ⟨N, hN⟩ : ∃ N, N = T.length := ⟨_, rfl⟩
      rw [← hN] at p0 h0 hlt hlt2 hn hk c3
      have hkN : k = N := by omega
      subst hkN
      obtain ⟨m, rfl⟩ : ∃ m, k = m + 1 := ⟨k - 1, by omega⟩
      rw [Nat.add_sub_cancel] at c3
      have hm : min ((m : Int) + 1) (m : Int) = (m : Int) := by omega
      clear hc ht hk hl hd hN c0 c1 c2
      go_enter Tryz.func33, Tryz.ntmps33
      go_wp2
      go_region
      all_goals
        go_wp2
        exact ⟨rfl, rfl, (Ext.refl w).drew⟩
end Go.Proofs.YtmallladeidkpaaGreatDoor.Pa

/- What the parser's mark, name, value, port return. -/
namespace Go.Proofs.YtmallladeidkpaaGreatDoor.Pa
open Go.RowKit Go.Sort Go.Lib Go.Shelf Fx Lx Tr

/-- What a part of the parser answers, against the plain parser's answer. -/
def POut (pb : Nat) (a : Option Addr) (cap : Nat) (T : List Tok) (ar : ByteArray) (dep : Int) {α : Type} (V : α → Value → World → Prop) (x : PR α) (e : Ending) (w' : World) : Prop := match x with
  | .ok v r => ∃ u, e = .returned u ∧ V v u w' ∧ PSt pb a cap T ar dep r w'
  | .err ln er => e = failE ln er
theorem PSt.but_at {pb : Nat} {a : Option Addr} {cap : Nat} {T : List Tok} {ar : ByteArray} {dep : Int} {r : List Tok} {w : World} (h : PSt pb a cap T ar dep r w) (hr : r ≠ []) :
    ∃ k : Nat, k ≤ 16383 ∧ w.cell? ⟨pb, 1, none⟩ = some (.int .i64 k) ∧ w.frozen? ⟨pb, 1, none⟩ = false ∧
      PSt pb a cap T ar dep r.tail (w.setCell ⟨pb, 1, none⟩ (.int .i64 ((k : Int) + 1))) ∧ But pb w (w.setCell ⟨pb, 1, none⟩ (.int .i64 ((k : Int) + 1))) := by
  obtain ⟨k, hk, hn, hd, hc, ht, he, hm⟩ := h
  obtain ⟨_, p1, _, _, p4⟩ := hc.cells
  have hc' : PCells pb (w.setCell ⟨pb, 1, none⟩ (.int .i64 ((k : Int) + 1))) a T.length cap (k + 1) ar dep := hc.at (k + 1)
  have hb : But pb w (w.setCell ⟨pb, 1, none⟩ (.int .i64 ((k : Int) + 1))) := (But.refl pb w).setCell ⟨pb, 1, none⟩ rfl _
  have hlt : k < T.length := Nat.lt_of_not_le fun hle => hr (by rw [← hd]; exact List.drop_eq_nil_of_le hle)
  exact ⟨k, by omega, p1, p4 1, ⟨k + 1, by omega, hn, by rw [← hd, List.tail_drop], hc', ht.but hb, he.but hb, hm⟩, hb⟩
set_option maxHeartbeats 4000000 in
theorem mark_any (pb : Nat) (a : Option Addr) (cap : Nat) (T : List Tok) (ar : ByteArray) (dep : Int) (r : List Tok) (x : ByteArray) (w : World) (h : PSt pb a cap T ar dep r w) :
    Calls Tryz.prog 42 #[.pointer (some ⟨pb, 0, none⟩), .string x] w fun e w' =>
      POut pb a cap T ar dep (fun _ u _ => u = .tuple #[]) (pMark (lastL T) x.data.toList r) e w' ∧ But pb w w' := by
  have H := Lib.hid (take_any pb a cap T ar dep r 5 (by decide) x w h)
  unfold pMark
  clear h
  cases hi : isT 5 x.data.toList r
  · rw [hi, if_neg (by decide)] at H
    rw [if_neg (by decide)]
    go_enter Tryz.func42, Tryz.ntmps42
    go_wp2_with (first | (go_at_call 34; refine H.out.mono ?_; rintro e w1 ⟨rfl, h1, x1⟩) | (go_at_call 33; refine (fail_any pb a cap T ar dep r 4 _ h1).mono ?_; rintro e w2 ⟨rfl, x2⟩; unfold failE))
    exact ⟨rfl, rfl, x1.ext x2⟩
  · rw [hi, if_pos rfl] at H
    rw [if_pos rfl]
    go_enter Tryz.func42, Tryz.ntmps42
    go_wp2_with (first | (go_at_call 34; refine H.out.mono ?_; rintro e w1 ⟨rfl, h1, x1⟩))
    go_returns
    exact ⟨⟨_, rfl, rfl, h1⟩, x1⟩
theorem pName_peek (last : Int) (r : List Tok) : pName last r = if (peekT r).kind = 1 then .ok ⟨(peekT r).text.toArray⟩ r.tail else .err (lineOf last r) 4 := by
  cases r with
  | nil => rfl
  | cons t r => rfl
theorem pVal_peek (last : Int) (r : List Tok) : pVal last r = if (peekT r).kind = 1 ∨ (peekT r).kind = 4 then .ok ⟨(peekT r).text.toArray⟩ r.tail else if (peekT r).kind = 3 then .ok ⟨(fmt (peekT r).n).toArray⟩ r.tail else .err (lineOf last r) 4 := by
  cases r with
  | nil => rfl
  | cons t r => rfl
theorem peek_ne {r : List Tok} (h : (peekT r).kind ≠ 0) : r ≠ [] := by rintro rfl; exact h rfl
theorem PSt.lt {pb : Nat} {a : Option Addr} {cap : Nat} {T : List Tok} {ar : ByteArray} {dep : Int} {r : List Tok} {w : World} (h : PSt pb a cap T ar dep r w) : pb < w.heap.size := by
  obtain ⟨k, hk, hn, hd, hc, _⟩ := h
  exact hc.lt
/-- A token is laid, and then the parser goes on by one. -/
theorem tok_then {pb : Nat} {a : Option Addr} {cap : Nat} {T : List Tok} {ar : ByteArray} {dep : Int} {r : List Tok} {w1 : World} (h : PSt pb a cap T ar dep r w1) (hr : r ≠ []) (tk : Int) (x : ByteArray) (n l : Int) :
    ∃ k : Nat, k ≤ 16383 ∧ (w1.alloc (.cells #[.int .i64 tk, .string x, .int .i64 n, .int .i64 l] 86)).cell? ⟨pb, 1, none⟩ = some (.int .i64 k) ∧ (w1.alloc (.cells #[.int .i64 tk, .string x, .int .i64 n, .int .i64 l] 86)).frozen? ⟨pb, 1, none⟩ = false ∧
      ((w1.alloc (.cells #[.int .i64 tk, .string x, .int .i64 n, .int .i64 l] 86)).setCell ⟨pb, 1, none⟩ (.int .i64 ((k : Int) + 1))).cell? ⟨w1.heap.size, 1, none⟩ = some (.string x) ∧
      PSt pb a cap T ar dep r.tail ((w1.alloc (.cells #[.int .i64 tk, .string x, .int .i64 n, .int .i64 l] 86)).setCell ⟨pb, 1, none⟩ (.int .i64 ((k : Int) + 1))) ∧
      But pb w1 ((w1.alloc (.cells #[.int .i64 tk, .string x, .int .i64 n, .int .i64 l] 86)).setCell ⟨pb, 1, none⟩ (.int .i64 ((k : Int) + 1))) := by
  have hx := (Ext.refl w1).alloc (.cells #[.int .i64 tk, .string x, .int .i64 n, .int .i64 l] 86)
  obtain ⟨_, c1, _, _⟩ := tok_cells w1 tk x n l _ (Ext.refl _)
  obtain ⟨k, hk, p1, p4, hs, hb⟩ := (h.ext hx).but_at hr
  have hlt := h.lt
  exact ⟨k, hk, p1, p4, hb.cell (p := ⟨w1.heap.size, 1, none⟩) (show w1.heap.size ≠ pb by omega) c1, hs, (But.of hx).trans hb⟩
set_option maxHeartbeats 4000000 in
theorem name_any (pb : Nat) (a : Option Addr) (cap : Nat) (T : List Tok) (ar : ByteArray) (dep : Int) (r : List Tok) (w : World) (h : PSt pb a cap T ar dep r w) :
    Calls Tryz.prog 35 #[.pointer (some ⟨pb, 0, none⟩)] w fun e w' =>
      POut pb a cap T ar dep (fun v u _ => u = .string v) (pName (lastL T) r) e w' ∧ But pb w w' := by
  have H := Lib.hid (peek_st pb a cap T ar dep r w h)
  have HS := Lib.hid h
  clear h
  rw [pName_peek]
  have hne := @peek_ne r
  generalize peekT r = t at *
  obtain ⟨tk, tx, tn, tl⟩ := t
  unfold tokV at H
  dsimp only at H hne ⊢
  by_cases hi : tk = 1
  · subst hi
    rw [if_pos rfl]
    have hr := hne (by decide)
    go_enter Tryz.func35, Tryz.ntmps35
    go_wp2_with (go_at_call 50; refine H.out.mono ?_; rintro e w1 ⟨rfl, x1⟩; have hcl := tok_cells w1 1 ⟨tx.toArray⟩ tn tl; obtain ⟨k, hk, p1, p4, q1, hs, hb⟩ := tok_then (HS.out.ext x1) hr 1 ⟨tx.toArray⟩ tn tl; replace hs := Lib.hid hs; replace hb := Lib.hid hb)
    go_returns
    exact ⟨⟨_, rfl, rfl, hs.out⟩, (But.of x1).trans hb.out⟩
  · rw [if_neg hi]
    go_enter Tryz.func35, Tryz.ntmps35
    go_wp2_with (first | (go_at_call 50; refine H.out.mono ?_; rintro e w1 ⟨rfl, x1⟩; have hcl := tok_cells w1 tk ⟨tx.toArray⟩ tn tl) | (go_at_call 33; refine (fail_any pb a cap T ar dep r 4 _ (HS.out.ext (x1.alloc _))).mono ?_; rintro e w2 ⟨rfl, x2⟩; unfold failE))
    exact ⟨rfl, rfl, But.of ((x1.alloc _).trans x2)⟩
set_option maxHeartbeats 4000000 in
theorem value_any (pb : Nat) (a : Option Addr) (cap : Nat) (T : List Tok) (ar : ByteArray) (dep : Int) (r : List Tok) (w : World) (h : PSt pb a cap T ar dep r w) :
    Calls Tryz.prog 43 #[.pointer (some ⟨pb, 0, none⟩)] w fun e w' =>
      POut pb a cap T ar dep (fun v u _ => u = .string v) (pVal (lastL T) r) e w' ∧ But pb w w' := by
  have H := Lib.hid (peek_st pb a cap T ar dep r w h)
  have HS := Lib.hid h
  clear h
  rw [pVal_peek]
  have hne := @peek_ne r
  have hnn : (peekT r).kind ≠ 0 → -9223372036854775808 ≤ (peekT r).n ∧ (peekT r).n ≤ 9223372036854775807 := fun h0 => by
    obtain ⟨_, _, _, hd, _, _, _, hm⟩ := HS.out
    cases r with
    | nil => exact absurd rfl (hne h0)
    | cons t r => exact hm t (List.mem_of_mem_drop (by rw [hd]; exact List.mem_cons_self))
  generalize peekT r = t at *
  obtain ⟨tk, tx, tn, tl⟩ := t
  unfold tokV at H
  dsimp only at H hne hnn ⊢
  by_cases h1 : tk = 1 ∨ tk = 4
  · have hr := hne (by omega)
    rw [if_pos h1]
    clear hnn hne
    rcases h1 with rfl | rfl
    · go_enter Tryz.func43, Tryz.ntmps43
      go_wp2_with (go_at_call 50; refine H.out.mono ?_; rintro e w1 ⟨rfl, x1⟩; have hcl := tok_cells w1 1 ⟨tx.toArray⟩ tn tl; obtain ⟨k, hk, p1, p4, q1, hs, hb⟩ := tok_then (HS.out.ext x1) hr 1 ⟨tx.toArray⟩ tn tl; replace hs := Lib.hid hs; replace hb := Lib.hid hb; clear q1)
      go_returns
      exact ⟨⟨_, rfl, rfl, hs.out⟩, (But.of x1).trans hb.out⟩
    · go_enter Tryz.func43, Tryz.ntmps43
      go_wp2_with (go_at_call 50; refine H.out.mono ?_; rintro e w1 ⟨rfl, x1⟩; have hcl := tok_cells w1 4 ⟨tx.toArray⟩ tn tl; obtain ⟨k, hk, p1, p4, q1, hs, hb⟩ := tok_then (HS.out.ext x1) hr 4 ⟨tx.toArray⟩ tn tl; replace hs := Lib.hid hs; replace hb := Lib.hid hb; clear q1)
      go_returns
      exact ⟨⟨_, rfl, rfl, hs.out⟩, (But.of x1).trans hb.out⟩
  · rw [if_neg h1]
    by_cases h3 : tk = 3
    · subst h3
      have hr := hne (by decide)
      obtain ⟨hn0, hn1⟩ := hnn (by decide)
      have HN0 := Lib.hid hn0
      have HN1 := Lib.hid hn1
      rw [if_pos rfl]
      clear hnn hne h1 hn0 hn1
      go_enter Tryz.func43, Tryz.ntmps43
      go_wp2_with (first | (go_at_call 50; refine H.out.mono ?_; rintro e w1 ⟨rfl, x1⟩; have hcl := tok_cells w1 3 ⟨tx.toArray⟩ tn tl; have hx2 := x1.alloc (.cells #[.int .i64 3, .string ⟨tx.toArray⟩, .int .i64 tn, .int .i64 tl] 86); obtain ⟨_, _, _, _, _, _, he, _⟩ := HS.out.ext hx2; have HE := Lib.hid he.env; clear he; replace hx2 := Lib.hid hx2) | (go_at_call 58; refine (format_any tn _ HN0.out HN1.out HE.out.1).mono ?_; rintro e w2 ⟨rfl, x2⟩; obtain ⟨k, hk, p1, p4, hs, hb⟩ := (HS.out.ext (hx2.out.trans x2)).but_at hr; replace hs := Lib.hid hs; replace hb := Lib.hid hb))
      go_returns
      exact ⟨⟨_, rfl, rfl, hs.out⟩, (But.of (hx2.out.trans x2)).trans hb.out⟩
    · rw [if_neg h3]
      have h4 : ¬ tk = 4 := fun h => h1 (.inr h)
      have h1' : ¬ tk = 1 := fun h => h1 (.inl h)
      clear h1 hnn hne
      go_enter Tryz.func43, Tryz.ntmps43
      go_wp2_with (first | (go_at_call 50; refine H.out.mono ?_; rintro e w1 ⟨rfl, x1⟩; have hcl := tok_cells w1 tk ⟨tx.toArray⟩ tn tl) | (go_at_call 33; refine (fail_any pb a cap T ar dep r 4 _ (HS.out.ext (x1.alloc _))).mono ?_; rintro e w2 ⟨rfl, x2⟩; unfold failE))
      exact ⟨rfl, rfl, But.of ((x1.alloc _).trans x2)⟩
end Go.Proofs.YtmallladeidkpaaGreatDoor.Pa

/- Lists of pairs and of statements in memory, off some blocks; rows that grow while one block turns. -/
namespace Go.Proofs.YtmallladeidkpaaGreatDoor.Pa
open Go.RowKit Go.Sort Go.Lib Go.Shelf Fx Lx Tr

theorem own_but {c : Nat} {w w' : World} {B : Nat} {e : TypeId} {sz : Nat} {v : Value} {n : Nat} {xs : List Value} (h : w.ownsRow B e sz v n xs) (x : But c w w') (hB : c < B) : w'.ownsRow B e sz v n xs := by
  refine ⟨h.1, ?_⟩
  rcases h.2 with h1 | ⟨g, cap, cur, hv, hb, hg, r⟩
  · exact .inl h1
  · exact .inr ⟨g, cap, cur, hv, hb, (x.block g (Array.getElem?_eq_some_iff.1 hg).1 (by omega)).trans hg, r⟩
theorem But.grown {c : Nat} {a w w' : World} {row : Option Nat} (h : But c a w) (hg : w.grownBy w' row) (hr : ∀ k, row = some k → a.heap.size ≤ k) : But c a w' :=
  ⟨hg.os.trans h.os, hg.tape.trans h.tape, hg.output.trans h.output, Nat.le_trans h.size hg.size, fun k hk hc => (hg.block k (Nat.lt_of_lt_of_le hk h.size) (fun e => by have := hr k e.symm; omega)).trans (h.block k hk hc)⟩
/-- A list of pairs of texts behind a slice, in blocks of a kind. -/
def TwoP (ok : Nat → Prop) (w : World) (a : Option Addr) (L : List Two) : Prop :=
  ∀ k (h : k < L.length), ∃ g o, a = some ⟨g, o, none⟩ ∧ ok g ∧ w.cell? ⟨g, o + k * 2, none⟩ = some (.string L[k].1) ∧ w.cell? ⟨g, o + k * 2 + 1, none⟩ = some (.string L[k].2)
/-- What the blocks of a kind hold has not turned. -/
def Kept (ok : Nat → Prop) (w w' : World) : Prop := ∀ g, ok g → g < w.heap.size → w'.heap[g]? = w.heap[g]?
theorem Kept.cell {ok : Nat → Prop} {w w' : World} (h : Kept ok w w') {p : Addr} {v : Value} (hp : ok p.block) (hv : w.cell? p = some v) : w'.cell? p = some v := by
  rw [World.cell?_of_block (w := w) (h _ hp (World.block_lt_of_cell? _ _ hv))]; exact hv
theorem TwoP.keep {ok ok' : Nat → Prop} {w w' : World} {a : Option Addr} {L : List Two} (h : TwoP ok w a L) (k : Kept ok w w') (ho : ∀ g, ok g → g < w.heap.size → ok' g) : TwoP ok' w' a L := fun i hi => by
  obtain ⟨g, o, ha, hg, h0, h1⟩ := h i hi
  exact ⟨g, o, ha, ho g hg (World.block_lt_of_cell? _ ⟨g, _, none⟩ h0), k.cell (p := ⟨g, _, none⟩) hg h0, k.cell (p := ⟨g, _, none⟩) hg h1⟩
theorem TwoP.at {ok : Nat → Prop} {w : World} {a : Option Addr} {L : List Two} {n : Nat} (h : TwoP ok w a L) (ho : ∀ g, ok g → g < n) : TwoAt n w a L := fun i hi => by
  obtain ⟨g, o, ha, hg, h0, h1⟩ := h i hi
  exact ⟨g, o, ha, ho g hg, h0, h1⟩
def twosC (L : List Two) : List Value := L.flatMap fun q => [.string q.1, .string q.2]
theorem twosC_snoc (L : List Two) (q : Two) : twosC (L ++ [q]) = twosC L ++ [.string q.1, .string q.2] := by unfold twosC; simp
theorem twosC_at : ∀ (L : List Two) (k : Nat) (h : k < L.length), (twosC L)[k * 2]? = some (.string L[k].1) ∧ (twosC L)[k * 2 + 1]? = some (.string L[k].2)
  | [], k, h => absurd h (by simp)
  | q :: L, 0, _ => ⟨rfl, rfl⟩
  | q :: L, k + 1, h => by
    have ih := twosC_at L k (by simpa using h)
    have e : twosC (q :: L) = .string q.1 :: .string q.2 :: twosC L := rfl
    rw [e, show (k + 1) * 2 = k * 2 + 1 + 1 by omega]
    simpa using ih
/-- A slice of pairs that a part of the parser answers. -/
def TwoV (ok : Nat → Prop) (L : List Two) (u : Value) (w : World) : Prop := ∃ a cap, u = .slice a L.length cap ∧ TwoP ok w a L ∧ L.length ≤ cap ∧ cap ≤ maxLen
theorem add_at (g j : Nat) : (⟨g, 0, none⟩ : Addr).add j = ⟨g, j, none⟩ := by simp [Addr.add]; exact fun h => h.symm
theorem own_two {w : World} {B : Nat} {e : TypeId} {v : Value} {L : List Two} (h : w.ownsRow B e 2 v L.length (twosC L)) : TwoV (B ≤ ·) L v w := by
  rcases h.2 with ⟨h1, h2⟩ | ⟨g, cap, cur, hv, hb, hg, hn, hc, _⟩
  · exact ⟨none, 0, by rw [h1, h2], fun k hk => absurd hk (by omega), by omega, by omega⟩
  · refine ⟨_, cap, hv, fun k hk => ⟨g, 0, rfl, hb, ?_, ?_⟩, hn, hc⟩
    · have := h.cells (g := g) (by rw [hv]; rfl) _ _ (twosC_at L k hk).1
      rw [add_at] at this; rw [Nat.zero_add]; exact this
    · have := h.cells (g := g) (by rw [hv]; rfl) _ _ (twosC_at L k hk).2
      rw [add_at] at this; rw [Nat.zero_add]; exact this
theorem twoV_nil (ok : Nat → Prop) (w : World) : TwoV ok [] (.slice none 0 0) w := ⟨none, 0, rfl, fun k hk => absurd hk (by simp), by simp, by simp⟩
mutual
/-- The five cells of a statement, and what they lead to, in blocks of a kind. -/
def StmP (ok : Nat → Prop) (w : World) : Stm → List Value → Prop
  | .mk k nm rs al body, xs => ∃ r rc a ac b bc, xs = [.int .i64 k, .string nm, .slice r rs.length rc, .slice a al.length ac, .slice b body.length bc] ∧
      TwoP ok w r rs ∧ TwoP ok w a al ∧ StmsP ok w b body ∧ rs.length ≤ rc ∧ al.length ≤ ac ∧ rc ≤ maxLen ∧ ac ≤ maxLen ∧ body.length ≤ maxLen
/-- A list of statements behind a slice. -/
def StmsP (ok : Nat → Prop) (w : World) (b : Option Addr) : List Stm → Prop
  | [] => True
  | x :: r => ∃ g o xs, b = some ⟨g, o, none⟩ ∧ ok g ∧ (∀ j u, xs[j]? = some u → w.cell? ⟨g, o + j, none⟩ = some u) ∧ StmP ok w x xs ∧ StmsP ok w (some ⟨g, o + 5, none⟩) r
end
theorem stmP_mk (ok : Nat → Prop) (w : World) (s : Stm) (xs : List Value) : StmP ok w s xs ↔ ∃ r rc a ac b bc, xs = [.int .i64 s.kind, .string s.name, .slice r s.refs.length rc, .slice a s.attrs.length ac, .slice b s.body.length bc] ∧
      TwoP ok w r s.refs ∧ TwoP ok w a s.attrs ∧ StmsP ok w b s.body ∧ s.refs.length ≤ rc ∧ s.attrs.length ≤ ac ∧ rc ≤ maxLen ∧ ac ≤ maxLen ∧ s.body.length ≤ maxLen := by
  cases s; rw [StmP]; rfl
mutual
theorem StmP.keep {ok ok' : Nat → Prop} {w w' : World} (k : Kept ok w w') (ho : ∀ g, ok g → g < w.heap.size → ok' g) : ∀ (s : Stm) (xs : List Value), StmP ok w s xs → StmP ok' w' s xs
  | .mk kd nm rs al body, xs, h => by
    rw [StmP] at h ⊢
    obtain ⟨r, rc, a, ac, b, bc, hx, hr, ha, hb, hl⟩ := h
    exact ⟨r, rc, a, ac, b, bc, hx, hr.keep k ho, ha.keep k ho, StmsP.keep k ho body b hb, hl⟩
theorem StmsP.keep {ok ok' : Nat → Prop} {w w' : World} (k : Kept ok w w') (ho : ∀ g, ok g → g < w.heap.size → ok' g) : ∀ (L : List Stm) (b : Option Addr), StmsP ok w b L → StmsP ok' w' b L
  | [], _, _ => by rw [StmsP]; trivial
  | s :: L, b, h => by
    rw [StmsP] at h ⊢
    obtain ⟨g, o, xs, hb, hg, hc, hs, hr⟩ := h
    have h0 : ∃ u, xs[0]? = some u := by
      obtain ⟨r, rc, a, ac, b, bc, hx, _⟩ := (stmP_mk ok w s xs).1 hs
      exact ⟨_, by rw [hx]; rfl⟩
    obtain ⟨u, hu⟩ := h0
    exact ⟨g, o, xs, hb, ho g hg (World.block_lt_of_cell? _ ⟨g, _, none⟩ (hc 0 u hu)), fun j u hj => k.cell (p := ⟨g, _, none⟩) hg (hc j u hj), StmP.keep k ho s xs hs, StmsP.keep k ho L _ hr⟩
end
mutual
theorem StmP.at {ok : Nat → Prop} {w : World} {n : Nat} (ho : ∀ g, ok g → g < n) : ∀ (s : Stm) (xs : List Value) (g o : Nat), StmP ok w s xs → (∀ j u, xs[j]? = some u → w.cell? ⟨g, o + j, none⟩ = some u) → StmAt n w g o s
  | .mk kd nm rs al body, xs, g, o, h, hc => by
    rw [StmP] at h
    rw [StmAt]
    obtain ⟨r, rc, a, ac, b, bc, hx, hr, ha, hb, hl⟩ := h
    subst hx
    exact ⟨r, rc, a, ac, b, bc, hc 0 _ rfl, hc 1 _ rfl, hc 2 _ rfl, hc 3 _ rfl, hc 4 _ rfl, hr.at ho, ha.at ho, StmsP.at ho body b hb, hl⟩
theorem StmsP.at {ok : Nat → Prop} {w : World} {n : Nat} (ho : ∀ g, ok g → g < n) : ∀ (L : List Stm) (b : Option Addr), StmsP ok w b L → StmsAt n w b L
  | [], _, _ => by rw [StmsAt]; trivial
  | s :: L, b, h => by
    rw [StmsP] at h
    rw [StmsAt]
    obtain ⟨g, o, xs, hb, hg, hc, hs, hr⟩ := h
    exact ⟨g, o, hb, ho g hg, StmP.at ho s xs g o hs hc, StmsP.at ho L _ hr⟩
end
/-- The cells of a row of statements. -/
def StmsC (ok : Nat → Prop) (w : World) : List Stm → List Value → Prop
  | [], X => X = []
  | s :: L, X => ∃ xs Y, X = xs ++ Y ∧ xs.length = 5 ∧ StmP ok w s xs ∧ StmsC ok w L Y
theorem StmsC.snoc {ok : Nat → Prop} {w : World} {s : Stm} {xs : List Value} (hs : StmP ok w s xs) (hl : xs.length = 5) : ∀ (L : List Stm) (X : List Value), StmsC ok w L X → StmsC ok w (L ++ [s]) (X ++ xs)
  | [], X, h => by
    have h : X = [] := h
    subst h
    exact ⟨xs, [], by simp, hl, hs, rfl⟩
  | t :: L, X, h => by
    obtain ⟨ys, Y, hX, h5, ht, hr⟩ := h
    exact ⟨ys, Y ++ xs, by rw [hX, List.append_assoc], h5, ht, StmsC.snoc hs hl L Y hr⟩
theorem StmsC.keep {ok ok' : Nat → Prop} {w w' : World} (k : Kept ok w w') (ho : ∀ g, ok g → g < w.heap.size → ok' g) : ∀ (L : List Stm) (X : List Value), StmsC ok w L X → StmsC ok' w' L X
  | [], _, h => h
  | s :: L, X, h => by
    obtain ⟨xs, Y, hX, hl, hs, hr⟩ := h
    exact ⟨xs, Y, hX, hl, StmP.keep k ho s xs hs, StmsC.keep k ho L Y hr⟩
theorem StmsC.at {ok : Nat → Prop} {w : World} {g : Nat} (hg : ok g) : ∀ (L : List Stm) (X : List Value) (o : Nat), StmsC ok w L X → (∀ j u, X[j]? = some u → w.cell? ⟨g, o + j, none⟩ = some u) → StmsP ok w (some ⟨g, o, none⟩) L
  | [], _, _, _, _ => by rw [StmsP]; trivial
  | s :: L, X, o, h, hc => by
    obtain ⟨xs, Y, hX, hl, hs, hr⟩ := h
    rw [StmsP]
    refine ⟨g, o, xs, rfl, hg, fun j u hj => hc j u ?_, hs, StmsC.at hg L Y (o + 5) hr fun j u hj => ?_⟩
    · rw [hX, List.getElem?_append_left (List.getElem?_eq_some_iff.1 hj).1]; exact hj
    · have := hc (5 + j) u (by rw [hX, List.getElem?_append_right (by omega), hl, Nat.add_sub_cancel_left]; exact hj)
      rw [Nat.add_assoc]; exact this
/-- A slice of statements that a part of the parser answers. -/
def StmsV (ok : Nat → Prop) (L : List Stm) (u : Value) (w : World) : Prop := ∃ b cap, u = .slice b L.length cap ∧ StmsP ok w b L ∧ L.length ≤ cap ∧ cap ≤ maxLen
theorem own_stms {w : World} {B : Nat} {e : TypeId} {v : Value} {L : List Stm} {X : List Value} {ok ok' : Nat → Prop} (h : w.ownsRow B e 5 v L.length X) (hc : StmsC ok w L X) (ho : ∀ g, ok g → ok' g) (hB : ∀ g, B ≤ g → ok' g) : StmsV ok' L v w := by
  rcases h.2 with ⟨h1, h2⟩ | ⟨g, cap, cur, hv, hb, hg, hn, hcap, _⟩
  · have hL : L = [] := List.eq_nil_of_length_eq_zero h2
    subst hL
    exact ⟨none, 0, by rw [h1]; rfl, by rw [StmsP]; trivial, by simp, by simp⟩
  · refine ⟨_, cap, hv, StmsC.at (hB g hb) L X 0 (StmsC.keep (fun _ _ _ => rfl) (fun g h _ => ho g h) L X hc) fun j u hj => ?_, hn, hcap⟩
    have := h.cells (g := g) (by rw [hv]; rfl) j u hj
    rw [add_at] at this; rw [Nat.zero_add]; exact this
/-- A statement that a part of the parser answers. -/
def StmV (ok : Nat → Prop) (s : Stm) (u : Value) (w : World) : Prop := ∃ xs, u = .agg xs.toArray ∧ StmP ok w s xs
end Go.Proofs.YtmallladeidkpaaGreatDoor.Pa
