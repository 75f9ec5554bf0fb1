/- Packed texts: ParState, ParName, ParAttrs, ParPort -/
import Derived.Test.YtjaeedbjknejdaaGreatDoorPr34
import Derived.WalkLawsBesides
set_option linter.unusedVariables false
set_option linter.unusedSimpArgs false
set_option maxHeartbeats 16000000
set_option maxRecDepth 100000
namespace Go.Proofs.YtjaeedbjknejdaaGreatDoor.Pa
open Go.RowKit Go.Sort Go.Lib Go.Shelf Fx Lx Tr
def TokIn (pb : Nat) (w : World) (a : Option Addr) (L : List Tok) : Prop :=
  ∀ k (h : k < L.length), ∃ g o, a = some ⟨g, o, none⟩ /\ g < pb /\ w.cell? ⟨g, o + k * 4, none⟩ = some (.int .i64 L[k].kind) /\ w.cell? ⟨g, o + k * 4 + 1, none⟩ = some (.string ⟨L[k].text.toArray⟩) /\
    w.cell? ⟨g, o + k * 4 + 2, none⟩ = some (.int .i64 L[k].n) /\ w.cell? ⟨g, o + k * 4 + 3, none⟩ = some (.int .i64 L[k].line)
theorem TokIn.but {pb : Nat} {w w' : World} {a : Option Addr} {L : List Tok} (h : TokIn pb w a L) (x : But pb w w') : TokIn pb w' a L := fun k hk => by
  obtain ⟨g, o, ha, hg, h0, h1, h2, h3⟩ := h k hk
  have hn := Nat.ne_of_lt hg
  exact ⟨g, o, ha, hg, x.cell (p := ⟨g, _, none⟩) hn h0, x.cell (p := ⟨g, _, none⟩) hn h1, x.cell (p := ⟨g, _, none⟩) hn h2, x.cell (p := ⟨g, _, none⟩) hn h3⟩
theorem TokIn.below {pb n : Nat} {w w' : World} {a : Option Addr} {L : List Tok} (h : TokIn pb w a L) (x : Below n w w') (hn : pb <= n) : TokIn pb w' a L := fun k hk => by
  obtain ⟨g, o, ha, hg, h0, h1, h2, h3⟩ := h k hk
  have hn : g < n := by omega
  exact ⟨g, o, ha, hg, (x.cell (p := ⟨g, _, none⟩) hn).trans h0, (x.cell (p := ⟨g, _, none⟩) hn).trans h1, (x.cell (p := ⟨g, _, none⟩) hn).trans h2, (x.cell (p := ⟨g, _, none⟩) hn).trans h3⟩
def PCells (pb : Nat) (w : World) (a : Option Addr) (N cap k : Nat) (ar : ByteArray) (dep : Int) : Prop :=
  w.heap[pb]? = some (.cells #[.slice a N cap, .int .i64 k, .string ar, .int .i64 dep] 175 (0, 0))
theorem PCells.cells {pb : Nat} {w : World} {a : Option Addr} {N cap k : Nat} {ar : ByteArray} {dep : Int} (h : PCells pb w a N cap k ar dep) :
    w.cell? ⟨pb, 0, none⟩ = some (.slice a N cap) /\ w.cell? ⟨pb, 1, none⟩ = some (.int .i64 k) /\ w.cell? ⟨pb, 2, none⟩ = some (.string ar) /\ w.cell? ⟨pb, 3, none⟩ = some (.int .i64 dep) /\ ∀ i, w.frozen? ⟨pb, i, none⟩ = false := by
  refine ⟨?_, ?_, ?_, ?_, fun i => Lib.frozen_of_heap h i⟩ <;> rw [Lib.cell_of_heap h] <;> rfl
theorem PCells.lt {pb : Nat} {w : World} {a : Option Addr} {N cap k : Nat} {ar : ByteArray} {dep : Int} (h : PCells pb w a N cap k ar dep) : pb < w.heap.size := (Array.getElem?_eq_some_iff.1 h).1
theorem PCells.ext {pb : Nat} {w w' : World} {a : Option Addr} {N cap k : Nat} {ar : ByteArray} {dep : Int} (h : PCells pb w a N cap k ar dep) (x : Ext w w') : PCells pb w' a N cap k ar dep := (x.block pb h.lt).trans h
theorem PCells.at {pb : Nat} {w : World} {a : Option Addr} {N cap k : Nat} {ar : ByteArray} {dep : Int} (h : PCells pb w a N cap k ar dep) (k' : Nat) : PCells pb (w.setCell ⟨pb, 1, none⟩ (.int .i64 k')) a N cap k' ar dep := setOne h 1 _
theorem PCells.arrow {pb : Nat} {w : World} {a : Option Addr} {N cap k : Nat} {ar : ByteArray} {dep : Int} (h : PCells pb w a N cap k ar dep) (ar' : ByteArray) : PCells pb (w.setCell ⟨pb, 2, none⟩ (.string ar')) a N cap k ar' dep := setOne h 2 _
theorem PCells.depth {pb : Nat} {w : World} {a : Option Addr} {N cap k : Nat} {ar : ByteArray} {dep : Int} (h : PCells pb w a N cap k ar dep) (dep' : Int) : PCells pb (w.setCell ⟨pb, 3, none⟩ (.int .i64 dep')) a N cap k ar dep' := setOne h 3 _
def tok0 : Tok := ⟨0, [], 0, 0⟩
def peekT (r : List Tok) : Tok := r.headD tok0
def tokV (t : Tok) : Value := .agg #[.int .i64 t.kind, .string ⟨t.text.toArray⟩, .int .i64 t.n, .int .i64 t.line]
theorem tok_cells (w : World) (k : Int) (x : ByteArray) (n l : Int) : ∀ w1, Ext (w.alloc (.cells #[.int .i64 k, .string x, .int .i64 n, .int .i64 l] 220)) w1 ->
    w1.cell? ⟨w.heap.size, 0, none⟩ = some (.int .i64 k) /\ w1.cell? ⟨w.heap.size, 1, none⟩ = some (.string x) /\ w1.cell? ⟨w.heap.size, 2, none⟩ = some (.int .i64 n) /\ w1.cell? ⟨w.heap.size, 3, none⟩ = some (.int .i64 l) := fun w1 xx => by
  have hb := heap_alloc_new w (.cells #[.int .i64 k, .string x, .int .i64 n, .int .i64 l] 220)
  refine ⟨xx.cell ?_, xx.cell ?_, xx.cell ?_, xx.cell ?_⟩ <;> rw [Lib.cell_of_heap hb] <;> rfl
theorem peek_drop (T : List Tok) (k : Nat) (h : k < T.length) : peekT (T.drop k) = T[k] := by
  unfold peekT; rw [List.drop_eq_getElem_cons h]; rfl
theorem peek_end (T : List Tok) (k : Nat) (h : ¬ k < T.length) : peekT (T.drop k) = tok0 := by
  unfold peekT; rw [List.drop_eq_nil_of_le (by omega)]; rfl
theorem peek_any (pb : Nat) (a : Option Addr) (cap k : Nat) (T : List Tok) (ar : ByteArray) (dep : Int) (w : World) (h : PCells pb w a T.length cap k ar dep) (ht : TokIn pb w a T) (hn : T.length <= 16384) (hk : k <= T.length) :
    Calls Tryz.prog 159 #[.pointer (some ⟨pb, 0, none⟩)] w fun e w' => e = .returned (tokV (peekT (T.drop k))) /\ Ext w w' := by
  obtain ⟨p0, p1, _, _, _⟩ := (h.ext ((Ext.refl w).alloc (.cells #[.int .i64 0, .string ⟨#[]⟩, .int .i64 0, .int .i64 0] 220))).cells
  obtain ⟨N, hN⟩ : ∃ N, N = T.length := ⟨_, rfl⟩
  by_cases hlt : k < T.length
  · obtain ⟨g, o, rfl, hg, c0, c1, c2, c3⟩ := ht k hlt
    rw [peek_drop T k hlt]
    have hx := (Ext.refl w).alloc (.cells #[.int .i64 0, .string ⟨#[]⟩, .int .i64 0, .int .i64 0] 220)
    have d0 := hx.cell c0; have d1 := hx.cell c1; have d2 := hx.cell c2; have d3 := hx.cell c3
    have hlt' : (k : Int) < (N : Int) := by omega
    generalize T[k] = t at *
    obtain ⟨tk, tx, tn, tl⟩ := t
    dsimp only at c0 c1 c2 c3 d0 d1 d2 d3
    rw [<- hN] at p0 hlt hn
    clear ht h hN hk
    go_enter Tryz.func159, Tryz.ntmps159
    go_wp2
    go_region
    all_goals
      go_wp2
      go_region
      all_goals
        go_wp2
        go_returns
        exact ⟨rfl, ((Ext.refl w).alloc _).drew.drew⟩
  rw [peek_end T k hlt]
  have hlt' : ¬ (k : Int) < (N : Int) := by omega
  rw [<- hN] at p0 hn
  clear ht h hN hk hlt
  go_enter Tryz.func159, Tryz.ntmps159
  go_wp2
  go_region
  all_goals
    go_wp2
    go_returns
    exact ⟨rfl, ((Ext.refl w).alloc _).drew⟩
def PEnv (pb : Nat) (w : World) : Prop := ∃ w0, Ext w0 w /\ w0.heap.size <= pb /\ Env w0
theorem PEnv.but {pb : Nat} {w w' : World} (h : PEnv pb w) (x : But pb w w') : PEnv pb w' := by
  obtain ⟨w0, h0, h1, h2⟩ := h
  exact ⟨w0, x.fresh h0 h1, h1, h2⟩
theorem PEnv.env {pb : Nat} {w : World} (h : PEnv pb w) : Env w := by
  obtain ⟨w0, h0, _, h2⟩ := h
  exact h2.ext h0
def TokN (T : List Tok) : Prop := ∀ t ∈ T, -9223372036854775808 <= t.n /\ t.n <= 9223372036854775807
def PSt (pb : Nat) (a : Option Addr) (cap : Nat) (T : List Tok) (ar : ByteArray) (dep : Int) (r : List Tok) (w : World) : Prop :=
  ∃ k, k <= T.length /\ T.length <= 16384 /\ T.drop k = r /\ PCells pb w a T.length cap k ar dep /\ TokIn pb w a T /\ PEnv pb w /\ TokN T
theorem PSt.ext {pb : Nat} {a : Option Addr} {cap : Nat} {T : List Tok} {ar : ByteArray} {dep : Int} {r : List Tok} {w w' : World} (h : PSt pb a cap T ar dep r w) (x : Ext w w') : PSt pb a cap T ar dep r w' := by
  obtain ⟨k, hk, hn, hd, hc, ht, he, hm⟩ := h
  exact ⟨k, hk, hn, hd, hc.ext x, ht.but (But.of x), he.but (But.of x), hm⟩
theorem PSt.below {pb n : Nat} {a : Option Addr} {cap : Nat} {T : List Tok} {ar : ByteArray} {dep : Int} {r : List Tok} {w w' : World} (h : PSt pb a cap T ar dep r w) (x : Below n w w') (hn : pb < n) : PSt pb a cap T ar dep r w' := by
  obtain ⟨k, hk, hn', hd, hc, ht, ⟨w0, h0, h1, h2⟩, hm⟩ := h
  exact ⟨k, hk, hn', hd, (x.block pb hn).trans hc, ht.below x (by omega), ⟨w0, Below.trans h0 (x.mono (by omega)), h1, h2⟩, hm⟩
def lastL (T : List Tok) : Int := match T.getLast? with
  | some t => t.line
  | none => 1
def failE (ln e : Int) : Ending := .panicked [{ v := .iface 172 (.agg #[.int .i64 ln, .int .i64 e]), recovered := false }]
theorem peek_st (pb : Nat) (a : Option Addr) (cap : Nat) (T : List Tok) (ar : ByteArray) (dep : Int) (r : List Tok) (w : World) (h : PSt pb a cap T ar dep r w) :
    Calls Tryz.prog 159 #[.pointer (some ⟨pb, 0, none⟩)] w fun e w' => e = .returned (tokV (peekT r)) /\ Ext w w' := by
  obtain ⟨k, hk, hn, hd, hc, ht, _, _⟩ := h
  rw [<- hd]
  exact peek_any pb a cap k T ar dep w hc ht hn hk
theorem isT_peek (kd : Int) (x : List UInt8) (r : List Tok) (h : kd ≠ 0) : isT kd x r = (decide ((peekT r).kind = kd) && decide ((peekT r).text = x)) := by
  cases r with
  | nil =>
    show false = (decide ((0 : Int) = kd) && decide (([] : List UInt8) = x))
    rw [decide_eq_false (show ¬ (0 : Int) = kd by omega)]; rfl
  | cons t r => rfl
theorem beq_text (l : List UInt8) (x : ByteArray) : (l == x.toList) = decide (l = x.data.toList) := by
  rw [ByteArray.toList_eq, Bool.eq_iff_iff, beq_iff_eq, decide_eq_true_eq]
theorem is_any (pb : Nat) (a : Option Addr) (cap : Nat) (T : List Tok) (ar : ByteArray) (dep : Int) (r : List Tok) (kd : Int) (hkd : kd ≠ 0) (x : ByteArray) (w : World) (h : PSt pb a cap T ar dep r w) :
    Calls Tryz.prog 158 #[.pointer (some ⟨pb, 0, none⟩), .int .i64 kd, .string x] w fun e w' => e = .returned (.bool (isT kd x.data.toList r)) /\ Ext w w' := by
  obtain ⟨k, hk, hn, hd, hc, ht, _, _⟩ := h
  have H := Lib.hid (peek_any pb a cap k T ar dep w hc ht hn hk)
  rw [hd] at H
  rw [isT_peek kd _ r hkd]
  clear hk hn hd hc ht
  generalize peekT r = t at *
  obtain ⟨tk, tx, tn, tl⟩ := t
  unfold tokV at H
  dsimp only at H ⊢
  by_cases e1 : tk = kd
  · subst e1
    rw [decide_eq_true rfl]
    go_enter Tryz.func158, Tryz.ntmps158
    go_wp2_with (go_at_call 159; refine H.out.mono ?_; rintro e w1 ⟨rfl, x1⟩; have hcl := tok_cells w1 tk ⟨tx.toArray⟩ tn tl)
    go_returns
    exact ⟨ret_bool (by rw [Bool.true_and]; exact beq_text _ _), x1.alloc _⟩
  rw [decide_eq_false e1]
  go_enter Tryz.func158, Tryz.ntmps158
  go_wp2_with (go_at_call 159; refine H.out.mono ?_; rintro e w1 ⟨rfl, x1⟩; have hcl := tok_cells w1 tk ⟨tx.toArray⟩ tn tl)
  go_returns
  exact ⟨rfl, x1.alloc _⟩
theorem take_any (pb : Nat) (a : Option Addr) (cap : Nat) (T : List Tok) (ar : ByteArray) (dep : Int) (r : List Tok) (kd : Int) (hkd : kd ≠ 0) (x : ByteArray) (w : World) (h : PSt pb a cap T ar dep r w) :
    Calls Tryz.prog 100 #[.pointer (some ⟨pb, 0, none⟩), .int .i64 kd, .string x] w fun e w' =>
      e = .returned (.bool (isT kd x.data.toList r)) /\ PSt pb a cap T ar dep (if isT kd x.data.toList r = true then r.tail else r) w' /\ But pb w w' := by
  have H := Lib.hid (is_any pb a cap T ar dep r kd hkd x w h)
  have HS := Lib.hid h
  clear h
  cases hi : isT kd x.data.toList r
  · rw [hi] at H
    go_enter Tryz.func100, Tryz.ntmps100
    go_wp2_with (go_at_call 158; refine H.out.mono ?_; rintro e w1 ⟨rfl, x1⟩)
    go_returns
    exact ⟨rfl, HS.out.ext x1, But.of x1⟩
  rw [hi] at H
  have hr : r ≠ [] := by rintro rfl; cases hi
  go_enter Tryz.func100, Tryz.ntmps100
  go_wp2_with (go_at_call 158; refine H.out.mono ?_; rintro e w1 ⟨rfl, x1⟩; obtain ⟨k, hk, hn, hd, hc, ht, he, hm⟩ := HS.out.ext x1; obtain ⟨p0, p1, p2, p3, p4⟩ := hc.cells; have HC := Lib.hid hc; have HT := Lib.hid ht; have HD := Lib.hid hd; clear hc ht hd)
  go_returns
  have hc' : PCells pb (w1.setCell ⟨pb, 1, none⟩ (.int .i64 ((k : Int) + 1))) a T.length cap (k + 1) ar dep := HC.out.at (k + 1)
  have hb : But pb w1 (w1.setCell ⟨pb, 1, none⟩ (.int .i64 ((k : Int) + 1))) := (But.refl pb w1).setCell ⟨pb, 1, none⟩ rfl _
  refine ⟨rfl, ⟨k + 1, ?_, hn, ?_, hc', HT.out.but hb, he.but hb, hm⟩, (But.of x1).trans hb⟩
  · have := HD.out
    have hne : T.drop k ≠ [] := by rw [this]; exact hr
    have : k < T.length := Nat.lt_of_not_le fun hle => hne (List.drop_eq_nil_of_le hle)
    omega
  rw [<- HD.out, List.tail_drop]
theorem fail_any (pb : Nat) (a : Option Addr) (cap : Nat) (T : List Tok) (ar : ByteArray) (dep : Int) (r : List Tok) (er : Int) (w : World) (h : PSt pb a cap T ar dep r w) :
    Calls Tryz.prog 99 #[.pointer (some ⟨pb, 0, none⟩), .int .i64 er] w fun e w' => e = failE (lineOf (lastL T) r) er /\ Ext w w' := by
  obtain ⟨k, hk, hn, hd, hc, ht, _, _⟩ := h
  obtain ⟨p0, p1, _, _, _⟩ := hc.cells
  by_cases h0 : T.length = 0
  · have hT : T = [] := List.eq_nil_of_length_eq_zero h0
    subst hT
    have hr : r = [] := by rw [<- hd]; simp
    subst hr
    clear hd hc ht hk
    go_enter Tryz.func99, Tryz.ntmps99
    go_wp2
    exact ⟨rfl, rfl, Ext.refl _⟩
  by_cases hlt : k < T.length
  · obtain ⟨g, o, rfl, hg, c0, c1, c2, c3⟩ := ht k hlt
    have hl : lineOf (lastL T) r = T[k].line := by rw [<- hd, List.drop_eq_getElem_cons hlt]; rfl
    rw [hl]
    generalize T[k] = t at *
    obtain ⟨tk, tx, tn, tl⟩ := t
    dsimp only at c3 ⊢
    obtain ⟨N, hN⟩ : ∃ N, N = T.length := ⟨_, rfl⟩
    rw [<- hN] at p0 h0 hlt hn
    have hm : min (k : Int) ((N : Int) - 1) = (k : Int) := by omega
    clear hc ht hk hl hd hN c0 c1 c2
    go_enter Tryz.func99, Tryz.ntmps99
    go_wp2
    go_region
    all_goals
      go_wp2
      exact ⟨rfl, rfl, (Ext.refl w).drew⟩
  have hlt2 : T.length - 1 < T.length := by omega
  obtain ⟨g, o, rfl, hg, c0, c1, c2, c3⟩ := ht (T.length - 1) hlt2
  have hl : lineOf (lastL T) r = T[T.length - 1].line := by
    rw [<- hd, List.drop_eq_nil_of_le (by omega)]
    show lastL T = _
    unfold lastL
    rw [List.getLast?_eq_getElem?, List.getElem?_eq_getElem hlt2]
  rw [hl]
  generalize T[T.length - 1] = t at *
  obtain ⟨tk, tx, tn, tl⟩ := t
  dsimp only at c3 ⊢
  obtain ⟨N, hN⟩ : ∃ N, N = T.length := ⟨_, rfl⟩
  rw [<- hN] at p0 h0 hlt hlt2 hn hk c3
  have hkN : k = N := by omega
  subst hkN
  obtain ⟨m, rfl⟩ : ∃ m, k = m + 1 := ⟨k - 1, by omega⟩
  rw [Nat.add_sub_cancel] at c3
  have hm : min ((m : Int) + 1) (m : Int) = (m : Int) := by omega
  clear hc ht hk hl hd hN c0 c1 c2
  go_enter Tryz.func99, Tryz.ntmps99
  go_wp2
  go_region
  all_goals
    go_wp2
    exact ⟨rfl, rfl, (Ext.refl w).drew⟩
end Go.Proofs.YtjaeedbjknejdaaGreatDoor.Pa

namespace Go.Proofs.YtjaeedbjknejdaaGreatDoor.Pa
open Go.RowKit Go.Sort Go.Lib Go.Shelf Fx Lx Tr
def POut (pb : Nat) (a : Option Addr) (cap : Nat) (T : List Tok) (ar : ByteArray) (dep : Int) {α : Type} (V : α -> Value -> World -> Prop) (x : PR α) (e : Ending) (w' : World) : Prop := match x with
  | .ok v r => ∃ u, e = .returned u /\ V v u w' /\ PSt pb a cap T ar dep r w'
  | .err ln er => e = failE ln er
theorem PSt.but_at {pb : Nat} {a : Option Addr} {cap : Nat} {T : List Tok} {ar : ByteArray} {dep : Int} {r : List Tok} {w : World} (h : PSt pb a cap T ar dep r w) (hr : r ≠ []) :
    ∃ k : Nat, k <= 16383 /\ w.cell? ⟨pb, 1, none⟩ = some (.int .i64 k) /\ w.frozen? ⟨pb, 1, none⟩ = false /\
      PSt pb a cap T ar dep r.tail (w.setCell ⟨pb, 1, none⟩ (.int .i64 ((k : Int) + 1))) /\ But pb w (w.setCell ⟨pb, 1, none⟩ (.int .i64 ((k : Int) + 1))) := by
  obtain ⟨k, hk, hn, hd, hc, ht, he, hm⟩ := h
  obtain ⟨_, p1, _, _, p4⟩ := hc.cells
  have hc' : PCells pb (w.setCell ⟨pb, 1, none⟩ (.int .i64 ((k : Int) + 1))) a T.length cap (k + 1) ar dep := hc.at (k + 1)
  have hb : But pb w (w.setCell ⟨pb, 1, none⟩ (.int .i64 ((k : Int) + 1))) := (But.refl pb w).setCell ⟨pb, 1, none⟩ rfl _
  have hlt : k < T.length := Nat.lt_of_not_le fun hle => hr (by rw [<- hd]; exact List.drop_eq_nil_of_le hle)
  exact ⟨k, by omega, p1, p4 1, ⟨k + 1, by omega, hn, by rw [<- hd, List.tail_drop], hc', ht.but hb, he.but hb, hm⟩, hb⟩
theorem mark_any (pb : Nat) (a : Option Addr) (cap : Nat) (T : List Tok) (ar : ByteArray) (dep : Int) (r : List Tok) (x : ByteArray) (w : World) (h : PSt pb a cap T ar dep r w) :
    Calls Tryz.prog 160 #[.pointer (some ⟨pb, 0, none⟩), .string x] w fun e w' =>
      POut pb a cap T ar dep (fun _ u _ => u = .tuple #[]) (pMark (lastL T) x.data.toList r) e w' /\ But pb w w' := by
  have H := Lib.hid (take_any pb a cap T ar dep r 5 (by decide) x w h)
  unfold pMark
  clear h
  cases hi : isT 5 x.data.toList r
  · rw [hi, if_neg (by decide)] at H
    rw [if_neg (by decide)]
    go_enter Tryz.func160, Tryz.ntmps160
    go_wp2_with (first | (go_at_call 100; refine H.out.mono ?_; rintro e w1 ⟨rfl, h1, x1⟩) | (go_at_call 99; refine (fail_any pb a cap T ar dep r 4 _ h1).mono ?_; rintro e w2 ⟨rfl, x2⟩; unfold failE))
    exact ⟨rfl, rfl, x1.ext x2⟩
  rw [hi, if_pos rfl] at H
  rw [if_pos rfl]
  go_enter Tryz.func160, Tryz.ntmps160
  go_wp2_with (first | (go_at_call 100; refine H.out.mono ?_; rintro e w1 ⟨rfl, h1, x1⟩))
  go_returns
  exact ⟨⟨_, rfl, rfl, h1⟩, x1⟩
theorem pName_peek (last : Int) (r : List Tok) : pName last r = if (peekT r).kind = 1 then .ok ⟨(peekT r).text.toArray⟩ r.tail else .err (lineOf last r) 4 := by
  cases r with
  | nil => rfl
  | cons t r => rfl
theorem pVal_peek (last : Int) (r : List Tok) : pVal last r = if (peekT r).kind = 1 \/ (peekT r).kind = 4 then .ok ⟨(peekT r).text.toArray⟩ r.tail else if (peekT r).kind = 3 then .ok ⟨(fmt (peekT r).n).toArray⟩ r.tail else .err (lineOf last r) 4 := by
  cases r with
  | nil => rfl
  | cons t r => rfl
theorem peek_ne {r : List Tok} (h : (peekT r).kind ≠ 0) : r ≠ [] := by rintro rfl; exact h rfl
theorem PSt.lt {pb : Nat} {a : Option Addr} {cap : Nat} {T : List Tok} {ar : ByteArray} {dep : Int} {r : List Tok} {w : World} (h : PSt pb a cap T ar dep r w) : pb < w.heap.size := by
  obtain ⟨k, hk, hn, hd, hc, _⟩ := h
  exact hc.lt
theorem tok_then {pb : Nat} {a : Option Addr} {cap : Nat} {T : List Tok} {ar : ByteArray} {dep : Int} {r : List Tok} {w1 : World} (h : PSt pb a cap T ar dep r w1) (hr : r ≠ []) (tk : Int) (x : ByteArray) (n l : Int) :
    ∃ k : Nat, k <= 16383 /\ (w1.alloc (.cells #[.int .i64 tk, .string x, .int .i64 n, .int .i64 l] 220)).cell? ⟨pb, 1, none⟩ = some (.int .i64 k) /\ (w1.alloc (.cells #[.int .i64 tk, .string x, .int .i64 n, .int .i64 l] 220)).frozen? ⟨pb, 1, none⟩ = false /\
      ((w1.alloc (.cells #[.int .i64 tk, .string x, .int .i64 n, .int .i64 l] 220)).setCell ⟨pb, 1, none⟩ (.int .i64 ((k : Int) + 1))).cell? ⟨w1.heap.size, 1, none⟩ = some (.string x) /\
      PSt pb a cap T ar dep r.tail ((w1.alloc (.cells #[.int .i64 tk, .string x, .int .i64 n, .int .i64 l] 220)).setCell ⟨pb, 1, none⟩ (.int .i64 ((k : Int) + 1))) /\
      But pb w1 ((w1.alloc (.cells #[.int .i64 tk, .string x, .int .i64 n, .int .i64 l] 220)).setCell ⟨pb, 1, none⟩ (.int .i64 ((k : Int) + 1))) := by
  have hx := (Ext.refl w1).alloc (.cells #[.int .i64 tk, .string x, .int .i64 n, .int .i64 l] 220)
  obtain ⟨_, c1, _, _⟩ := tok_cells w1 tk x n l _ (Ext.refl _)
  obtain ⟨k, hk, p1, p4, hs, hb⟩ := (h.ext hx).but_at hr
  have hlt := h.lt
  exact ⟨k, hk, p1, p4, hb.cell (p := ⟨w1.heap.size, 1, none⟩) (show w1.heap.size ≠ pb by omega) c1, hs, (But.of hx).trans hb⟩
theorem name_any (pb : Nat) (a : Option Addr) (cap : Nat) (T : List Tok) (ar : ByteArray) (dep : Int) (r : List Tok) (w : World) (h : PSt pb a cap T ar dep r w) :
    Calls Tryz.prog 101 #[.pointer (some ⟨pb, 0, none⟩)] w fun e w' =>
      POut pb a cap T ar dep (fun v u _ => u = .string v) (pName (lastL T) r) e w' /\ But pb w w' := by
  have H := Lib.hid (peek_st pb a cap T ar dep r w h)
  have HS := Lib.hid h
  clear h
  rw [pName_peek]
  have hne := @peek_ne r
  generalize peekT r = t at *
  obtain ⟨tk, tx, tn, tl⟩ := t
  unfold tokV at H
  dsimp only at H hne ⊢
  by_cases hi : tk = 1
  · subst hi
    rw [if_pos rfl]
    have hr := hne (by decide)
    go_enter Tryz.func101, Tryz.ntmps101
    go_wp2_with (go_at_call 159; refine H.out.mono ?_; rintro e w1 ⟨rfl, x1⟩; have hcl := tok_cells w1 1 ⟨tx.toArray⟩ tn tl; obtain ⟨k, hk, p1, p4, q1, hs, hb⟩ := tok_then (HS.out.ext x1) hr 1 ⟨tx.toArray⟩ tn tl; replace hs := Lib.hid hs; replace hb := Lib.hid hb)
    go_returns
    exact ⟨⟨_, rfl, rfl, hs.out⟩, (But.of x1).trans hb.out⟩
  rw [if_neg hi]
  go_enter Tryz.func101, Tryz.ntmps101
  go_wp2_with (first | (go_at_call 159; refine H.out.mono ?_; rintro e w1 ⟨rfl, x1⟩; have hcl := tok_cells w1 tk ⟨tx.toArray⟩ tn tl) | (go_at_call 99; refine (fail_any pb a cap T ar dep r 4 _ (HS.out.ext (x1.alloc _))).mono ?_; rintro e w2 ⟨rfl, x2⟩; unfold failE))
  exact ⟨rfl, rfl, But.of ((x1.alloc _).trans x2)⟩
theorem value_any (pb : Nat) (a : Option Addr) (cap : Nat) (T : List Tok) (ar : ByteArray) (dep : Int) (r : List Tok) (w : World) (h : PSt pb a cap T ar dep r w) :
    Calls Tryz.prog 214 #[.pointer (some ⟨pb, 0, none⟩)] w fun e w' =>
      POut pb a cap T ar dep (fun v u _ => u = .string v) (pVal (lastL T) r) e w' /\ But pb w w' := by
  have H := Lib.hid (peek_st pb a cap T ar dep r w h)
  have HS := Lib.hid h
  clear h
  rw [pVal_peek]
  have hne := @peek_ne r
  have hnn : (peekT r).kind ≠ 0 -> -9223372036854775808 <= (peekT r).n /\ (peekT r).n <= 9223372036854775807 := fun h0 => by
    obtain ⟨_, _, _, hd, _, _, _, hm⟩ := HS.out
    cases r with
    | nil => exact absurd rfl (hne h0)
    | cons t r => exact hm t (List.mem_of_mem_drop (by rw [hd]; exact List.mem_cons_self))
  generalize peekT r = t at *
  obtain ⟨tk, tx, tn, tl⟩ := t
  unfold tokV at H
  dsimp only at H hne hnn ⊢
  by_cases h1 : tk = 1 \/ tk = 4
  · have hr := hne (by omega)
    rw [if_pos h1]
    clear hnn hne
    rcases h1 with rfl | rfl
    · go_enter Tryz.func214, Tryz.ntmps214
      go_wp2_with (go_at_call 159; refine H.out.mono ?_; rintro e w1 ⟨rfl, x1⟩; have hcl := tok_cells w1 1 ⟨tx.toArray⟩ tn tl; obtain ⟨k, hk, p1, p4, q1, hs, hb⟩ := tok_then (HS.out.ext x1) hr 1 ⟨tx.toArray⟩ tn tl; replace hs := Lib.hid hs; replace hb := Lib.hid hb; clear q1)
      go_returns
      exact ⟨⟨_, rfl, rfl, hs.out⟩, (But.of x1).trans hb.out⟩
    go_enter Tryz.func214, Tryz.ntmps214
    go_wp2_with (go_at_call 159; refine H.out.mono ?_; rintro e w1 ⟨rfl, x1⟩; have hcl := tok_cells w1 4 ⟨tx.toArray⟩ tn tl; obtain ⟨k, hk, p1, p4, q1, hs, hb⟩ := tok_then (HS.out.ext x1) hr 4 ⟨tx.toArray⟩ tn tl; replace hs := Lib.hid hs; replace hb := Lib.hid hb; clear q1)
    go_returns
    exact ⟨⟨_, rfl, rfl, hs.out⟩, (But.of x1).trans hb.out⟩
  rw [if_neg h1]
  by_cases h3 : tk = 3
  · subst h3
    have hr := hne (by decide)
    obtain ⟨hn0, hn1⟩ := hnn (by decide)
    have HN0 := Lib.hid hn0
    have HN1 := Lib.hid hn1
    rw [if_pos rfl]
    clear hnn hne h1 hn0 hn1
    go_enter Tryz.func214, Tryz.ntmps214
    go_wp2_with (first | (go_at_call 159; refine H.out.mono ?_; rintro e w1 ⟨rfl, x1⟩; have hcl := tok_cells w1 3 ⟨tx.toArray⟩ tn tl; have hx2 := x1.alloc (.cells #[.int .i64 3, .string ⟨tx.toArray⟩, .int .i64 tn, .int .i64 tl] 220); obtain ⟨_, _, _, _, _, _, he, _⟩ := HS.out.ext hx2; have HE := Lib.hid he.env; clear he; replace hx2 := Lib.hid hx2) | (go_at_call 63; refine (format_any tn _ HN0.out HN1.out HE.out.1).mono ?_; rintro e w2 ⟨rfl, x2⟩; obtain ⟨k, hk, p1, p4, hs, hb⟩ := (HS.out.ext (hx2.out.trans x2)).but_at hr; replace hs := Lib.hid hs; replace hb := Lib.hid hb))
    go_returns
    exact ⟨⟨_, rfl, rfl, hs.out⟩, (But.of (hx2.out.trans x2)).trans hb.out⟩
  rw [if_neg h3]
  have h4 : ¬ tk = 4 := fun h => h1 (.inr h)
  have h1' : ¬ tk = 1 := fun h => h1 (.inl h)
  clear h1 hnn hne
  go_enter Tryz.func214, Tryz.ntmps214
  go_wp2_with (first | (go_at_call 159; refine H.out.mono ?_; rintro e w1 ⟨rfl, x1⟩; have hcl := tok_cells w1 tk ⟨tx.toArray⟩ tn tl) | (go_at_call 99; refine (fail_any pb a cap T ar dep r 4 _ (HS.out.ext (x1.alloc _))).mono ?_; rintro e w2 ⟨rfl, x2⟩; unfold failE))
  exact ⟨rfl, rfl, But.of ((x1.alloc _).trans x2)⟩
end Go.Proofs.YtjaeedbjknejdaaGreatDoor.Pa

namespace Go.Proofs.YtjaeedbjknejdaaGreatDoor.Pa
open Go.RowKit Go.Sort Go.Lib Go.Shelf Fx Lx Tr
theorem mark_l (pb : Nat) (a : Option Addr) (cap : Nat) (T : List Tok) (ar : ByteArray) (dep : Int) (r : List Tok) (x : ByteArray) (l : List UInt8) (hx : x.data.toList = l) (w : World) (h : PSt pb a cap T ar dep r w) :
    Calls Tryz.prog 160 #[.pointer (some ⟨pb, 0, none⟩), .string x] w fun e w' =>
      POut pb a cap T ar dep (fun _ u _ => u = .tuple #[]) (pMark (lastL T) l r) e w' /\ But pb w w' := by
  subst hx; exact mark_any pb a cap T ar dep r x w h
theorem take_l (pb : Nat) (a : Option Addr) (cap : Nat) (T : List Tok) (ar : ByteArray) (dep : Int) (r : List Tok) (kd : Int) (hkd : kd ≠ 0) (x : ByteArray) (l : List UInt8) (hx : x.data.toList = l) (w : World) (h : PSt pb a cap T ar dep r w) :
    Calls Tryz.prog 100 #[.pointer (some ⟨pb, 0, none⟩), .int .i64 kd, .string x] w fun e w' =>
      e = .returned (.bool (isT kd l r)) /\ PSt pb a cap T ar dep (if isT kd l r = true then r.tail else r) w' /\ But pb w w' := by
  subst hx; exact take_any pb a cap T ar dep r kd hkd x w h
theorem is_l (pb : Nat) (a : Option Addr) (cap : Nat) (T : List Tok) (ar : ByteArray) (dep : Int) (r : List Tok) (kd : Int) (hkd : kd ≠ 0) (x : ByteArray) (l : List UInt8) (hx : x.data.toList = l) (w : World) (h : PSt pb a cap T ar dep r w) :
    Calls Tryz.prog 158 #[.pointer (some ⟨pb, 0, none⟩), .int .i64 kd, .string x] w fun e w' => e = .returned (.bool (isT kd l r)) /\ Ext w w' := by
  subst hx; exact is_any pb a cap T ar dep r kd hkd x w h
theorem isT_cons {kd : Int} {x : List UInt8} {r : List Tok} (h : isT kd x r = true) : r.tail.length + 1 = r.length := by
  cases r with
  | nil => cases h
  | cons t r => rfl
theorem pMark_len {last : Int} {m : List UInt8} {r r' : List Tok} {u : Unit} (h : pMark last m r = .ok u r') : r'.length + 1 = r.length := by
  unfold pMark at h
  by_cases hi : isT 5 m r = true
  · rw [if_pos hi] at h; injection h with _ h; rw [<- h]; exact isT_cons hi
  rw [if_neg hi] at h; cases h
theorem pName_len {last : Int} {r r' : List Tok} {u : ByteArray} (h : pName last r = .ok u r') : r'.length + 1 = r.length := by
  cases r with
  | nil => cases h
  | cons t r =>
    unfold pName at h
    dsimp only at h
    by_cases hi : t.kind = 1
    · rw [if_pos hi] at h; injection h with _ h; rw [<- h]; rfl
    · rw [if_neg hi] at h; cases h
theorem pVal_len {last : Int} {r r' : List Tok} {u : ByteArray} (h : pVal last r = .ok u r') : r'.length + 1 = r.length := by
  cases r with
  | nil => cases h
  | cons t r =>
    unfold pVal at h
    dsimp only at h
    by_cases hi : t.kind = 1 \/ t.kind = 4
    · rw [if_pos hi] at h; injection h with _ h; rw [<- h]; rfl
    · rw [if_neg hi] at h
      by_cases h3 : t.kind = 3
      · rw [if_pos h3] at h; injection h with _ h; rw [<- h]; rfl
      rw [if_neg h3] at h; cases h
theorem PSt.len {pb : Nat} {a : Option Addr} {cap : Nat} {T : List Tok} {ar : ByteArray} {dep : Int} {r : List Tok} {w : World} (h : PSt pb a cap T ar dep r w) : r.length <= T.length /\ T.length <= 16384 := by
  obtain ⟨k, hk, hn, hd, _⟩ := h
  exact ⟨by rw [<- hd, List.length_drop]; omega, hn⟩
def slen : Value -> Nat
  | .slice _ n _ => n
  | _ => 0
theorem own_slice {w : World} {B : Nat} {e : TypeId} {sz : Nat} {v : Value} {n : Nat} {xs : List Value} (h : w.ownsRow B e sz v n xs) : ∃ ao c, v = .slice ao n c := by
  rcases h.2 with ⟨h1, h2⟩ | ⟨g, cap, cur, hv, _⟩
  · exact ⟨none, 0, by rw [h1, h2]⟩
  exact ⟨_, cap, hv⟩
theorem info_attr : (Tryz.prog.info? 69).map (fun i => (i.zero, i.size, i.bytes)) = some (some (.agg #[.string ⟨#[]⟩, .string ⟨#[]⟩]), 2, 32) := by kernel_rfl
theorem attrs_any (pb : Nat) (a : Option Addr) (cap : Nat) (T : List Tok) (ar : ByteArray) (dep : Int) (r : List Tok) (w : World) (h : PSt pb a cap T ar dep r w) :
    Calls Tryz.prog 213 #[.pointer (some ⟨pb, 0, none⟩)] w fun e w' =>
      POut pb a cap T ar dep (fun L u w' => TwoV (w.heap.size <= ·) L u w') (pAttrsB (lastL T) r) e w' /\ But pb w w' := by
  obtain ⟨i0, hi, hz0, hz1, hz2⟩ := info_parts info_attr
  obtain ⟨X, hX⟩ : ∃ X, X = pAttrsB (lastL T) r := ⟨_, rfl⟩
  rw [<- hX]
  unfold pAttrsB at hX
  have HS := Lib.hid h; have HX := Lib.hid hX
  clear h hX
  rcases hm : pMark (lastL T) [91] r with ⟨v, r1⟩ | ⟨ln, er⟩
  · have hX := HX.out
    rw [hm, PR.bind_ok] at hX
    replace HX := Lib.hid hX
    have hm1 := mark_l pb a cap T ar dep r ⟨#[91]⟩ [91] rfl w HS.out
    rw [hm] at hm1
    have HM := Lib.hid hm1
    have HL := Lib.hid (pMark_len hm)
    clear hX hm hm1
    go_enter Tryz.func213, Tryz.ntmps213
    go_wp2_with (go_at_call 160; refine HM.out.mono ?_; rintro e w1 ⟨⟨_, rfl, rfl, hs1⟩, x1⟩; replace hs1 := Lib.hid hs1; replace x1 := Lib.hid x1)
    go_loopw [3] (fun out' wr => ∃ (ao : Option Addr) (n c : Nat) (out : List Two) (r : List Tok) (f : Nat), out' = .slice ao n c /\ n = out.length /\ n + r.length <= 16384 /\ r.length < f /\ Hid (PSt pb a cap T ar dep r wr) /\ Hid (But pb w wr) /\ Hid (wr.ownsRow w.heap.size 69 2 out' n (twosC out)) /\ Hid (X = pAttrs (lastL T) f out r)) (fun out' _ => 16384 - slen out')
    case atStart => exact ⟨none, 0, 0, [], r1, r1.length + 1, rfl, rfl, by have := hs1.out.len; omega, by omega, hs1, x1, Lib.hid (World.ownsRow_nil _ _ _ _), HX⟩
    obtain ⟨ao, n, c, out, r, f, rfl, hn, hlen, hf, hs, hb, hown, hX⟩ := hrel
    replace hn := Lib.hid hn
    clear HX HL hs1 x1 HM
    obtain ⟨f, rfl⟩ : ∃ g, f = g + 1 := ⟨f - 1, by omega⟩
    have hX0 := hX.out
    rw [pAttrs] at hX0
    have htk := take_l pb a cap T ar dep r 5 (by decide) ⟨#[93]⟩ [93] rfl wr hs.out
    by_cases hi : isT 5 [93] r = true
    · rw [if_pos hi] at hX0
      rw [hi, if_pos rfl] at htk
      have HTK := Lib.hid htk; replace hX := Lib.hid hX0
      clear hX0 htk hi
      go_wp2_with (go_at_call 100; refine HTK.out.mono ?_; rintro e w2 ⟨rfl, hs2, x2⟩; replace hs2 := Lib.hid hs2; replace x2 := Lib.hid x2)
      go_returns
      have hlt := HS.out.lt
      rw [hX.out]
      have hn' := hn.out
      subst hn'
      exact ⟨⟨_, rfl, own_two (own_but hown.out x2.out hlt), hs2.out⟩, hb.out.trans x2.out⟩
    rw [if_neg hi] at hX0
    have hi' : isT 5 [93] r = false := by simpa using hi
    rw [hi', if_neg (by decide)] at htk
    have HTK := Lib.hid htk
    clear hX htk hi hi'
    have hlt := HS.out.lt
    have HLT := Lib.hid hlt
    clear hlt
    obtain hcase | ⟨h0, hcase⟩ : (n = 0 /\ Hid (X = (pAttr (lastL T) r).bind fun q r => pAttrs (lastL T) f (out ++ [q]) r)) \/ (¬ n = 0 /\ Hid (X = (pMark (lastL T) [44] r).bind fun _ r => (pAttr (lastL T) r).bind fun q r => pAttrs (lastL T) f (out ++ [q]) r)) := by
      by_cases h0 : n = 0
      · have he : out.isEmpty = true := by rw [List.isEmpty_iff]; exact List.eq_nil_of_length_eq_zero (by rw [<- hn.out]; exact h0)
        rw [if_pos he, PR.bind_ok] at hX0
        exact .inl ⟨h0, Lib.hid hX0⟩
      have he : ¬ out.isEmpty = true := by rw [List.isEmpty_iff]; rintro rfl; exact h0 hn.out
      rw [if_neg he] at hX0
      exact .inr ⟨h0, Lib.hid hX0⟩
    · obtain ⟨h0, hX⟩ := hcase
      subst h0
      clear hX0
      go_wp2_with (go_at_call 100; refine HTK.out.mono ?_; rintro e w2 ⟨rfl, hs2, x2⟩)
      have hown2 := Lib.hid (own_but hown.out x2 HLT.out)
      replace x2 := Lib.hid (hb.out.trans x2)
      clear HTK hown hs hb
      obtain ⟨r2, hr2⟩ : ∃ r2, r2 = r := ⟨_, rfl⟩
      rw [<- hr2] at hs2 hX hlen hf
      clear hr2 r
      rcases hnm : pName (lastL T) r2 with ⟨k, r3⟩ | ⟨ln, er⟩
      · have hX1 := hX.out
        rw [pAttr, hnm, PR.bind_ok] at hX1
        have hn1 := name_any pb a cap T ar dep r2 w2 hs2
        rw [hnm] at hn1
        have HX1 := Lib.hid hX1
        have hl1 := pName_len hnm
        clear hX hX1 hnm hs2
        refine hn1.mono ?_
        rintro e w3 ⟨⟨_, rfl, rfl, hs3⟩, x3⟩
        clear hn1
        have hown3 := Lib.hid (own_but hown2.out x3 HLT.out)
        replace x3 := Lib.hid (x2.out.trans x3)
        clear x2 hown2
        go_wp2_with fail
        rcases hmm : pMark (lastL T) [61] r3 with ⟨v, r4⟩ | ⟨ln, er⟩
        · have hX1 := HX1.out
          rw [hmm, PR.bind_ok] at hX1
          have hn1 := mark_l pb a cap T ar dep r3 ⟨#[61]⟩ [61] rfl w3 hs3
          rw [hmm] at hn1
          have HX2 := Lib.hid hX1
          have hl2 := pMark_len hmm
          clear HX1 hX1 hmm hs3
          refine hn1.mono ?_
          rintro e w4 ⟨⟨_, rfl, rfl, hs4⟩, x4⟩
          clear hn1
          have hown4 := Lib.hid (own_but hown3.out x4 HLT.out)
          replace x4 := Lib.hid (x3.out.trans x4)
          clear x3 hown3
          go_wp2_with fail
          rcases hvv : pVal (lastL T) r4 with ⟨v, r5⟩ | ⟨ln, er⟩
          · have hX1 := HX2.out
            rw [hvv, PR.bind_ok, PR.bind_ok] at hX1
            have hn1 := value_any pb a cap T ar dep r4 w4 hs4
            rw [hvv] at hn1
            have HX3 := Lib.hid hX1
            have hl3 := pVal_len hvv
            clear HX2 hX1 hvv hs4
            refine hn1.mono ?_
            rintro e w5 ⟨⟨_, rfl, rfl, hs5⟩, x5⟩
            clear hn1
            have hown5 := Lib.hid (own_but hown4.out x5 HLT.out)
            replace x5 := Lib.hid (x4.out.trans x5)
            clear x4 hown4
            have hsz := x5.out.size
            go_wp2_with (at_builtin; refine wpList_append_own _ rfl _ _ 65 rfl w.heap.size 69 i0 _ 2 32 Tryz.underlying65 hi hz0 hz1 hz2 rfl (by decide) _ _ _ rfl (own_ext' hown5.out ((Ext.refl w5).alloc _)) ⟨w5.heap.size, 0, none⟩ 1 1 [.string k, .string v] rfl rfl ?c1 ?c2 ?c3 ?c4 ?c5 ?_)
            case c1 => exact World.news_of_block (cs := #[.string k, .string v]) (t := 69) (fr := (0, 0)) (heap_alloc_new w5 _)
            case c2 => simp [Value.oneCell']
            case c3 => unfold maxLen; omega
            case c4 => omega
            case c5 => simp; omega
            intro v' w6 hown' hgrow _
            have hrow : ∀ q, Value.ownBlock (.slice ao 0 c) = some q -> w.heap.size <= q := fun q hq => (hown5.out.lt q hq).1
            have hs6 := Lib.hid (((hs5.ext ((Ext.refl w5).alloc (.cells #[.string k, .string v] 69))).below (Below.grown (Below.refl w.heap.size _) hgrow (by simp; omega) hrow) HLT.out))
            have x6 := Lib.hid (But.grown (x5.out.alloc (.cells #[.string k, .string v] 69)) hgrow hrow)
            have hown6 : Hid (w6.ownsRow w.heap.size 69 2 v' (0 + 1) (twosC (out ++ [(k, v)]))) := Lib.hid (by rw [twosC_snoc]; exact hown')
            clear hown' hgrow hrow hown5 x5 hs5
            obtain ⟨ao', c', rfl⟩ := own_slice hown6.out
            go_wp2
            go_roundw
            case rel => exact ⟨ao', 0 + 1, c', out ++ [(k, v)], r5, f, rfl, by rw [List.length_append, <- hn.out]; rfl, by omega, by omega, hs6, x6, hown6, HX3⟩
            case measure => simp only [slen]; omega
          have hX1 := HX2.out
          rw [hvv, PR.bind_err, PR.bind_err] at hX1
          have hn1 := value_any pb a cap T ar dep r4 w4 hs4
          rw [hvv] at hn1
          have HX3 := Lib.hid hX1
          clear HX2 hX1 hvv hs4
          refine hn1.mono ?_
          rintro e w5 ⟨rfl, x5⟩
          unfold failE
          go_wp2
          exact ⟨rfl, by rw [HX3.out]; exact rfl, x4.out.trans x5⟩
        have hX1 := HX1.out
        rw [hmm, PR.bind_err, PR.bind_err] at hX1
        have hn1 := mark_l pb a cap T ar dep r3 ⟨#[61]⟩ [61] rfl w3 hs3
        rw [hmm] at hn1
        have HX2 := Lib.hid hX1
        clear HX1 hX1 hmm hs3
        refine hn1.mono ?_
        rintro e w4 ⟨rfl, x4⟩
        unfold failE
        go_wp2
        exact ⟨rfl, by rw [HX2.out]; exact rfl, x3.out.trans x4⟩
      have hX1 := hX.out
      rw [pAttr, hnm, PR.bind_err, PR.bind_err] at hX1
      have hn1 := name_any pb a cap T ar dep r2 w2 hs2
      rw [hnm] at hn1
      have HX1 := Lib.hid hX1
      clear hX hX1 hnm hs2
      refine hn1.mono ?_
      rintro e w3 ⟨rfl, x3⟩
      unfold failE
      go_wp2
      exact ⟨rfl, by rw [HX1.out]; exact rfl, x2.out.trans x3⟩
    clear hX0
    go_wp2_with (go_at_call 100; refine HTK.out.mono ?_; rintro e w2 ⟨rfl, hs2, x2⟩)
    have hown2 := Lib.hid (own_but hown.out x2 HLT.out)
    replace x2 := Lib.hid (hb.out.trans x2)
    clear HTK hown hs hb
    rcases hcm : pMark (lastL T) [44] r with ⟨u, r1⟩ | ⟨ln, er⟩
    · have hX1 := hcase.out
      rw [hcm, PR.bind_ok] at hX1
      have hn1 := mark_l pb a cap T ar dep r ⟨#[44]⟩ [44] rfl w2 hs2
      rw [hcm] at hn1
      have hl0 := pMark_len hcm
      have hX := Lib.hid hX1
      clear hcase hX1 hcm hs2
      refine hn1.mono ?_
      rintro e w1' ⟨⟨_, rfl, rfl, hs1'⟩, x1'⟩
      clear hn1
      have hown1 := Lib.hid (own_but hown2.out x1' HLT.out)
      replace x1' := Lib.hid (x2.out.trans x1')
      clear x2 hown2
      obtain ⟨r2, hr2⟩ : ∃ r2, r2 = r1 := ⟨_, rfl⟩
      rw [<- hr2] at hs1' hX hl0
      clear hr2 r1
      have hs2 := hs1'
      have x2 := x1'
      have hown2 := hown1
      clear hs1' x1' hown1
      go_wp2_with fail
      rcases hnm : pName (lastL T) r2 with ⟨k, r3⟩ | ⟨ln, er⟩
      · have hX1 := hX.out
        rw [pAttr, hnm, PR.bind_ok] at hX1
        have hn1 := name_any pb a cap T ar dep r2 w1' hs2
        rw [hnm] at hn1
        have HX1 := Lib.hid hX1
        have hl1 := pName_len hnm
        clear hX hX1 hnm hs2
        refine hn1.mono ?_
        rintro e w3 ⟨⟨_, rfl, rfl, hs3⟩, x3⟩
        clear hn1
        have hown3 := Lib.hid (own_but hown2.out x3 HLT.out)
        replace x3 := Lib.hid (x2.out.trans x3)
        clear x2 hown2
        go_wp2_with fail
        rcases hmm : pMark (lastL T) [61] r3 with ⟨v, r4⟩ | ⟨ln, er⟩
        · have hX1 := HX1.out
          rw [hmm, PR.bind_ok] at hX1
          have hn1 := mark_l pb a cap T ar dep r3 ⟨#[61]⟩ [61] rfl w3 hs3
          rw [hmm] at hn1
          have HX2 := Lib.hid hX1
          have hl2 := pMark_len hmm
          clear HX1 hX1 hmm hs3
          refine hn1.mono ?_
          rintro e w4 ⟨⟨_, rfl, rfl, hs4⟩, x4⟩
          clear hn1
          have hown4 := Lib.hid (own_but hown3.out x4 HLT.out)
          replace x4 := Lib.hid (x3.out.trans x4)
          clear x3 hown3
          go_wp2_with fail
          rcases hvv : pVal (lastL T) r4 with ⟨v, r5⟩ | ⟨ln, er⟩
          · have hX1 := HX2.out
            rw [hvv, PR.bind_ok, PR.bind_ok] at hX1
            have hn1 := value_any pb a cap T ar dep r4 w4 hs4
            rw [hvv] at hn1
            have HX3 := Lib.hid hX1
            have hl3 := pVal_len hvv
            clear HX2 hX1 hvv hs4
            refine hn1.mono ?_
            rintro e w5 ⟨⟨_, rfl, rfl, hs5⟩, x5⟩
            clear hn1
            have hown5 := Lib.hid (own_but hown4.out x5 HLT.out)
            replace x5 := Lib.hid (x4.out.trans x5)
            clear x4 hown4
            have hsz := x5.out.size
            go_wp2_with (at_builtin; refine wpList_append_own _ rfl _ _ 65 rfl w.heap.size 69 i0 _ 2 32 Tryz.underlying65 hi hz0 hz1 hz2 rfl (by decide) _ _ _ rfl (own_ext' hown5.out ((Ext.refl w5).alloc _)) ⟨w5.heap.size, 0, none⟩ 1 1 [.string k, .string v] rfl rfl ?c1 ?c2 ?c3 ?c4 ?c5 ?_)
            case c1 => exact World.news_of_block (cs := #[.string k, .string v]) (t := 69) (fr := (0, 0)) (heap_alloc_new w5 _)
            case c2 => simp [Value.oneCell']
            case c3 => unfold maxLen; omega
            case c4 => omega
            case c5 => simp; omega
            intro v' w6 hown' hgrow _
            have hrow : ∀ q, Value.ownBlock (.slice ao n c) = some q -> w.heap.size <= q := fun q hq => (hown5.out.lt q hq).1
            have hs6 := Lib.hid (((hs5.ext ((Ext.refl w5).alloc (.cells #[.string k, .string v] 69))).below (Below.grown (Below.refl w.heap.size _) hgrow (by simp; omega) hrow) HLT.out))
            have x6 := Lib.hid (But.grown (x5.out.alloc (.cells #[.string k, .string v] 69)) hgrow hrow)
            have hown6 : Hid (w6.ownsRow w.heap.size 69 2 v' (n + 1) (twosC (out ++ [(k, v)]))) := Lib.hid (by rw [twosC_snoc]; exact hown')
            clear hown' hgrow hrow hown5 x5 hs5
            obtain ⟨ao', c', rfl⟩ := own_slice hown6.out
            go_wp2
            go_roundw
            case rel => exact ⟨ao', n + 1, c', out ++ [(k, v)], r5, f, rfl, by rw [List.length_append, <- hn.out]; rfl, by omega, by omega, hs6, x6, hown6, HX3⟩
            case measure => simp only [slen]; omega
          have hX1 := HX2.out
          rw [hvv, PR.bind_err, PR.bind_err] at hX1
          have hn1 := value_any pb a cap T ar dep r4 w4 hs4
          rw [hvv] at hn1
          have HX3 := Lib.hid hX1
          clear HX2 hX1 hvv hs4
          refine hn1.mono ?_
          rintro e w5 ⟨rfl, x5⟩
          unfold failE
          go_wp2
          exact ⟨rfl, by rw [HX3.out]; exact rfl, x4.out.trans x5⟩
        have hX1 := HX1.out
        rw [hmm, PR.bind_err, PR.bind_err] at hX1
        have hn1 := mark_l pb a cap T ar dep r3 ⟨#[61]⟩ [61] rfl w3 hs3
        rw [hmm] at hn1
        have HX2 := Lib.hid hX1
        clear HX1 hX1 hmm hs3
        refine hn1.mono ?_
        rintro e w4 ⟨rfl, x4⟩
        unfold failE
        go_wp2
        exact ⟨rfl, by rw [HX2.out]; exact rfl, x3.out.trans x4⟩
      have hX1 := hX.out
      rw [pAttr, hnm, PR.bind_err, PR.bind_err] at hX1
      have hn1 := name_any pb a cap T ar dep r2 w1' hs2
      rw [hnm] at hn1
      have HX1 := Lib.hid hX1
      clear hX hX1 hnm hs2
      refine hn1.mono ?_
      rintro e w3 ⟨rfl, x3⟩
      unfold failE
      go_wp2
      exact ⟨rfl, by rw [HX1.out]; exact rfl, x2.out.trans x3⟩
    have hX1 := hcase.out
    rw [hcm, PR.bind_err] at hX1
    have hn1 := mark_l pb a cap T ar dep r ⟨#[44]⟩ [44] rfl w2 hs2
    rw [hcm] at hn1
    have HX1 := Lib.hid hX1
    clear hcase hX1 hcm hs2
    refine hn1.mono ?_
    rintro e w3 ⟨rfl, x3⟩
    unfold failE
    go_wp2
    exact ⟨rfl, by rw [HX1.out]; exact rfl, x2.out.trans x3⟩
  have hX := HX.out
  rw [hm, PR.bind_err] at hX
  replace HX := Lib.hid hX
  have hm1 := mark_l pb a cap T ar dep r ⟨#[91]⟩ [91] rfl w HS.out
  rw [hm] at hm1
  have HM := Lib.hid hm1
  clear hX hm hm1
  go_enter Tryz.func213, Tryz.ntmps213
  go_wp2_with (go_at_call 160; refine HM.out.mono ?_; rintro e w1 ⟨rfl, x1⟩; unfold failE)
  exact ⟨rfl, by rw [HX.out]; exact rfl, x1⟩
end Go.Proofs.YtjaeedbjknejdaaGreatDoor.Pa

namespace Go.Proofs.YtjaeedbjknejdaaGreatDoor.Pa
open Go.RowKit Go.Sort Go.Lib Go.Shelf Fx Lx Tr
theorem kept_but {pb B : Nat} {w w' : World} (x : But pb w w') (h : pb < B) : Kept (B <= ·) w w' := fun g hg hl => x.block g hl (by omega)
theorem TwoV.but {pb B B' : Nat} {L : List Two} {u : Value} {w w' : World} (h : TwoV (B <= ·) L u w) (x : But pb w w') (hp : pb < B) (hB : B' <= B) : TwoV (B' <= ·) L u w' := by
  obtain ⟨a, cap, hu, ht, hl⟩ := h
  exact ⟨a, cap, hu, ht.keep (kept_but x hp) (fun g hg _ => by omega), hl⟩
theorem options_any (pb : Nat) (a : Option Addr) (cap : Nat) (T : List Tok) (ar : ByteArray) (dep : Int) (r : List Tok) (w : World) (h : PSt pb a cap T ar dep r w) :
    Calls Tryz.prog 215 #[.pointer (some ⟨pb, 0, none⟩)] w fun e w' =>
      POut pb a cap T ar dep (fun L u w' => TwoV (w.heap.size <= ·) L u w') (pOpt (lastL T) r) e w' /\ But pb w w' := by
  have his := is_l pb a cap T ar dep r 5 (by decide) ⟨#[91]⟩ [91] rfl w h
  have HS := Lib.hid h
  have HLT := Lib.hid h.lt
  obtain ⟨X, hX⟩ : ∃ X, X = pOpt (lastL T) r := ⟨_, rfl⟩
  rw [<- hX]
  unfold pOpt at hX
  clear h
  by_cases hi : isT 5 [91] r = true
  · rw [if_pos hi] at hX
    rw [hi] at his
    have HI := Lib.hid his
    replace hX := Lib.hid hX
    clear his hi
    go_enter Tryz.func215, Tryz.ntmps215
    go_wp2_with (go_at_call 158; refine HI.out.mono ?_; rintro e w1 ⟨rfl, x1⟩)
    have hat := attrs_any pb a cap T ar dep r w1 (HS.out.ext x1)
    have hX1 := hX.out
    rcases hq : pAttrsB (lastL T) r with ⟨L, r1⟩ | ⟨ln, er⟩ <;> rw [hq] at hat hX1 <;> clear hq hX
    · refine hat.mono ?_
      rintro e w2 ⟨⟨u, rfl, hu, hs2⟩, x2⟩
      clear hat
      rw [PR.bind_ok] at hX1
      have hmk := mark_l pb a cap T ar dep r1 ⟨#[59]⟩ [59] rfl w2 hs2
      replace hu := Lib.hid hu
      replace x1 := Lib.hid x1
      replace x2 := Lib.hid x2
      rcases hq : pMark (lastL T) [59] r1 with ⟨v, r2⟩ | ⟨ln, er⟩ <;> rw [hq] at hmk hX1 <;> clear hq
      · rw [PR.bind_ok] at hX1
        have HX := Lib.hid hX1
        have HMK := Lib.hid hmk
        clear hX1 hmk hs2
        go_wp2_with (go_at_call 160; refine HMK.out.mono ?_; rintro e w3 ⟨⟨_, rfl, rfl, hs3⟩, x3⟩; replace hs3 := Lib.hid hs3; replace x3 := Lib.hid x3)
        go_returns
        have hl := x1.out.size
        have := HLT.out
        rw [HX.out]
        exact ⟨⟨_, rfl, hu.out.but x3.out (by omega) hl, hs3.out⟩, (But.of x1.out).trans (x2.out.trans x3.out)⟩
      rw [PR.bind_err] at hX1
      have HX := Lib.hid hX1
      have HMK := Lib.hid hmk
      clear hX1 hmk hs2
      go_wp2_with (go_at_call 160; refine HMK.out.mono ?_; rintro e w3 ⟨rfl, x3⟩; unfold failE)
      exact ⟨rfl, by rw [HX.out]; exact rfl, (But.of x1.out).trans (x2.out.trans x3)⟩
    refine hat.mono ?_
    rintro e w2 ⟨rfl, x2⟩
    rw [PR.bind_err] at hX1
    have HX := Lib.hid hX1
    clear hX1 hat
    unfold failE
    go_wp2
    exact ⟨rfl, by rw [HX.out]; exact rfl, (But.of x1).trans x2⟩
  rw [if_neg hi, PR.bind_ok] at hX
  have hi' : isT 5 [91] r = false := by simpa using hi
  rw [hi'] at his
  have HI := Lib.hid his
  replace hX := Lib.hid hX
  clear his hi hi'
  go_enter Tryz.func215, Tryz.ntmps215
  go_wp2_with (go_at_call 158; refine HI.out.mono ?_; rintro e w1 ⟨rfl, x1⟩)
  have hmk := mark_l pb a cap T ar dep r ⟨#[59]⟩ [59] rfl w1 (HS.out.ext x1)
  have hX1 := hX.out
  rcases hq : pMark (lastL T) [59] r with ⟨v, r2⟩ | ⟨ln, er⟩ <;> rw [hq] at hmk hX1 <;> clear hq hX
  · rw [PR.bind_ok] at hX1
    have HX := Lib.hid hX1
    clear hX1
    refine hmk.mono ?_
    rintro e w3 ⟨⟨_, rfl, rfl, hs3⟩, x3⟩
    clear hmk
    replace hs3 := Lib.hid hs3
    go_wp2
    go_returns
    rw [HX.out]
    exact ⟨⟨_, rfl, twoV_nil _ _, hs3.out⟩, (But.of x1).trans x3⟩
  rw [PR.bind_err] at hX1
  have HX := Lib.hid hX1
  clear hX1
  refine hmk.mono ?_
  rintro e w3 ⟨rfl, x3⟩
  clear hmk
  unfold failE
  go_wp2
  exact ⟨rfl, by rw [HX.out]; exact rfl, (But.of x1).trans x3⟩
def refV (q : Two) : Value := .agg #[.string q.1, .string q.2]
theorem but_two {pb : Nat} {w w' : World} {k v : ByteArray} {b : Nat} {T : TypeId} (x : But pb w w') (h : w.heap[b]? = some (.cells #[.string k, .string v] T (0, 0))) (hb : b ≠ pb) :
    w'.heap[b]? = some (.cells #[.string k, .string v] T (0, 0)) := (x.block b (Array.getElem?_eq_some_iff.1 h).1 hb).trans h
theorem two_cells {w : World} {k v : ByteArray} {b : Nat} {T : TypeId} (h : w.heap[b]? = some (.cells #[.string k, .string v] T (0, 0))) :
    w.cell? ⟨b, 0, none⟩ = some (.string k) /\ w.cell? ⟨b, 1, none⟩ = some (.string v) /\ w.frozen? ⟨b, 0, none⟩ = false /\ w.frozen? ⟨b, 1, none⟩ = false := by
  refine ⟨?_, ?_, Lib.frozen_of_heap h 0, Lib.frozen_of_heap h 1⟩ <;> rw [Lib.cell_of_heap h] <;> rfl
theorem set_two {w : World} {x y : Value} {b : Nat} {T : TypeId} (h : w.heap[b]? = some (.cells #[x, y] T (0, 0))) (u v : Value) :
    ((w.setCell ⟨b, 0, none⟩ u).setCell ⟨b, 1, none⟩ v).heap[b]? = some (.cells #[u, v] T (0, 0)) := setOne (setOne h 0 u) 1 v
theorem info_ref : (Tryz.prog.info? 90).map (fun i => (i.zero, i.size, i.bytes)) = some (some (.agg #[.string ⟨#[]⟩, .string ⟨#[]⟩]), 2, 32) := by kernel_rfl
theorem size_ref : (Tryz.prog.info? 90).map (·.size) = some 2 := by kernel_rfl
theorem but_far {c : Nat} {a b : World} (h : But c a b) {p : Addr} (hp : a.heap.size <= p.block) (u : Value) : But c a (b.setCell p u) :=
  ⟨h.os, h.tape, h.output, by have := h.size; simpa [World.setCell] using this, fun k hk hc => (Below.heap_setCell _ _ _ _ (by omega)).trans (h.block k hk hc)⟩
theorem PSt.far {pb : Nat} {a : Option Addr} {cap : Nat} {T : List Tok} {ar : ByteArray} {dep : Int} {r : List Tok} {w : World} (h : PSt pb a cap T ar dep r w) {p : Addr} (hp : pb < p.block) (u : Value) : PSt pb a cap T ar dep r (w.setCell p u) :=
  h.below (Below.setCell (Below.refl (pb + 1) w) (by omega) u) (by omega)
theorem port_any (pb : Nat) (a : Option Addr) (cap : Nat) (T : List Tok) (ar : ByteArray) (dep : Int) (r : List Tok) (n : ByteArray) (w : World) (h : PSt pb a cap T ar dep r w) :
    Calls Tryz.prog 216 #[.pointer (some ⟨pb, 0, none⟩), .string n] w fun e w' =>
      POut pb a cap T ar dep (fun q u _ => u = refV q) (pPort (lastL T) n r) e w' /\ But pb w w' := by
  have HS := Lib.hid h
  have HLT := Lib.hid h.lt
  obtain ⟨X, hX⟩ : ∃ X, X = pPort (lastL T) n r := ⟨_, rfl⟩
  rw [<- hX]
  unfold pPort at hX
  clear h
  have hw0 := heap_alloc_new w (.cells #[.string ⟨#[]⟩, .string ⟨#[]⟩] 90)
  have hx0 := (Ext.refl w).alloc (.cells #[.string ⟨#[]⟩, .string ⟨#[]⟩] 90)
  have hw1 := heap_alloc_new (w.alloc (.cells #[.string ⟨#[]⟩, .string ⟨#[]⟩] 90)) (.cells #[.string n, .string ⟨#[]⟩] 90)
  have hx1 := hx0.alloc (.cells #[.string n, .string ⟨#[]⟩] 90)
  have hw0' := ((Ext.refl (w.alloc (.cells #[.string ⟨#[]⟩, .string ⟨#[]⟩] 90))).alloc (.cells #[.string n, .string ⟨#[]⟩] 90)).block _ (by simp) |>.trans hw0
  rw [World.size_alloc] at hw1
  obtain ⟨W, hW⟩ : ∃ W, W = (w.alloc (.cells #[.string ⟨#[]⟩, .string ⟨#[]⟩] 90)).alloc (.cells #[.string n, .string ⟨#[]⟩] 90) := ⟨_, rfl⟩
  rw [<- hW] at hw1 hx1 hw0'
  have hn0 : w.heap.size ≠ pb := by have := HLT.out; omega
  have hn1 : w.heap.size + 1 ≠ pb := by have := HLT.out; omega
  have htk := take_l pb a cap T ar dep r 5 (by decide) ⟨#[58]⟩ [58] rfl W (HS.out.ext hx1)
  have HW0 := Lib.hid hw0'; have HW1 := Lib.hid hw1; have HX1 := Lib.hid hx1; have HN0 := Lib.hid hn0; have HN1 := Lib.hid hn1
  have HW := Lib.hid hW
  clear hw0 hx0 hw0' hw1 hx1 hn0 hn1
  by_cases hi : isT 5 [58] r = true
  · rw [if_pos hi] at hX
    rw [hi, if_pos rfl] at htk
    rw [hW] at htk
    have HTK := Lib.hid htk
    replace hX := Lib.hid hX
    clear hi htk hW
    go_enter Tryz.func216, Tryz.ntmps216
    go_wp2_with (go_at_call 100; refine HTK.out.mono ?_; rintro e w1 ⟨rfl, hs1, x1⟩; rw [<- HW.out] at x1)
    have hnm := name_any pb a cap T ar dep r.tail w1 hs1
    have hX1 := hX.out
    rcases hq : pName (lastL T) r.tail with ⟨p, r1⟩ | ⟨ln, er⟩ <;> rw [hq] at hnm hX1 <;> clear hq hX
    · rw [PR.bind_ok] at hX1
      have HX := Lib.hid hX1
      clear hX1 HTK hs1
      refine hnm.mono ?_
      rintro e w2 ⟨⟨_, rfl, rfl, hs2⟩, x2⟩
      have k0 := but_two (x1.trans x2) HW0.out HN0.out
      have k1 := but_two (x1.trans x2) HW1.out HN1.out
      obtain ⟨c00, c01, f00, f01⟩ := two_cells k0
      obtain ⟨c10, c11, f10, f11⟩ := two_cells k1
      have HZ := Lib.hid (set_two ((Below.heap_setCell w2 ⟨w.heap.size + 1, 1, none⟩ (.string p) w.heap.size (by show w.heap.size ≠ w.heap.size + 1; omega)).trans k0) (.string n) (.string p))
      clear hnm k0 k1
      replace hs2 := Lib.hid hs2
      replace x2 := Lib.hid (x1.trans x2)
      clear x1
      go_wp2
      refine bodyPost_ret (results_cell_row rfl _ _ w.heap.size 90 #[.string n, .string p] (0, 0) _ rfl HZ.out Tryz.underlying90 rfl size_ref) rfl ?_
      have hl := HLT.out
      rw [HX.out]
      refine ⟨⟨_, rfl, rfl, ((hs2.out.far (p := ⟨w.heap.size + 1, 1, none⟩) (by show pb < w.heap.size + 1; omega) _).far (p := ⟨w.heap.size, 0, none⟩) hl _).far (p := ⟨w.heap.size, 1, none⟩) hl _⟩, ?_⟩
      exact but_far (but_far (but_far ((But.of HX1.out).trans x2.out) (p := ⟨w.heap.size + 1, 1, none⟩) (by show w.heap.size <= w.heap.size + 1; omega) _) (p := ⟨w.heap.size, 0, none⟩) (Nat.le_refl _) _) (p := ⟨w.heap.size, 1, none⟩) (Nat.le_refl _) _
    rw [PR.bind_err] at hX1
    have HX := Lib.hid hX1
    clear hX1
    refine hnm.mono ?_
    rintro e w2 ⟨rfl, x2⟩
    unfold failE
    go_wp2
    exact ⟨rfl, by rw [HX.out]; exact rfl, (But.of HX1.out).trans (x1.trans x2)⟩
  rw [if_neg hi] at hX
  have hi' : isT 5 [58] r = false := by simpa using hi
  rw [hi', if_neg (by decide)] at htk
  rw [hW] at htk
  have HTK := Lib.hid htk
  replace hX := Lib.hid hX
  clear hi hi' htk hW
  go_enter Tryz.func216, Tryz.ntmps216
  go_wp2_with (go_at_call 100; refine HTK.out.mono ?_; rintro e w1 ⟨rfl, hs1, x1⟩; rw [<- HW.out] at x1; have k0 := but_two x1 HW0.out HN0.out; have k1 := but_two x1 HW1.out HN1.out; obtain ⟨c00, c01, f00, f01⟩ := two_cells k0; obtain ⟨c10, c11, f10, f11⟩ := two_cells k1; have HZ := Lib.hid (set_two k0 (.string n) (.string ⟨#[]⟩)); clear k0 k1; replace hs1 := Lib.hid hs1; replace x1 := Lib.hid x1)
  refine bodyPost_ret (results_cell_row rfl _ _ w.heap.size 90 #[.string n, .string ⟨#[]⟩] (0, 0) _ rfl HZ.out Tryz.underlying90 rfl size_ref) rfl ?_
  have hl := HLT.out
  rw [hX.out]
  refine ⟨⟨_, rfl, rfl, (hs1.out.far (p := ⟨w.heap.size, 0, none⟩) hl _).far (p := ⟨w.heap.size, 1, none⟩) hl _⟩, ?_⟩
  exact but_far (but_far ((But.of HX1.out).trans x1.out) (p := ⟨w.heap.size, 0, none⟩) (Nat.le_refl _) _) (p := ⟨w.heap.size, 1, none⟩) (Nat.le_refl _) _
end Go.Proofs.YtjaeedbjknejdaaGreatDoor.Pa
