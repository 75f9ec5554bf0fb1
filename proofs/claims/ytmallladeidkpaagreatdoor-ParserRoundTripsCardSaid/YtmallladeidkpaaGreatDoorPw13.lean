/- Packed texts: ParName, ParRow, ParAttrs -/
import Derived.Test.YtmallladeidkpaaGreatDoorPw12
import Derived.Test.YtmallladeidkpaaGreatDoorPw03
import Derived.OwnWalk
set_option linter.unusedVariables false
set_option linter.unusedSimpArgs false
/- What the parser's mark, name, value, port return. -/
namespace Go.Proofs.YtmallladeidkpaaGreatDoor.Pa
open Go.RowKit Go.Sort Go.Lib Go.Shelf Fx Lx Tr

/-- What a part of the parser answers, against the plain parser's answer. -/
def POut (pb : Nat) (a : Option Addr) (cap : Nat) (T : List Tok) (ar : ByteArray) (dep : Int) {α : Type} (V : α → Value → World → Prop) (x : PR α) (e : Ending) (w' : World) : Prop := match x with
  | .ok v r => ∃ u, e = .returned u ∧ V v u w' ∧ PSt pb a cap T ar dep r w'
  | .err ln er => e = failE ln er
theorem PSt.but_at {pb : Nat} {a : Option Addr} {cap : Nat} {T : List Tok} {ar : ByteArray} {dep : Int} {r : List Tok} {w : World} (h : PSt pb a cap T ar dep r w) (hr : r ≠ []) :
    ∃ k : Nat, k ≤ 16383 ∧ w.cell? ⟨pb, 1, none⟩ = some (.int .i64 k) ∧ w.frozen? ⟨pb, 1, none⟩ = false ∧
      PSt pb a cap T ar dep r.tail (w.setCell ⟨pb, 1, none⟩ (.int .i64 ((k : Int) + 1))) ∧ But pb w (w.setCell ⟨pb, 1, none⟩ (.int .i64 ((k : Int) + 1))) := by
  obtain ⟨k, hk, hn, hd, hc, ht, he, hm⟩ := h
  obtain ⟨_, p1, _, _, p4⟩ := hc.cells
  have hc' : PCells pb (w.setCell ⟨pb, 1, none⟩ (.int .i64 ((k : Int) + 1))) a T.length cap (k + 1) ar dep := hc.at (k + 1)
  have hb : But pb w (w.setCell ⟨pb, 1, none⟩ (.int .i64 ((k : Int) + 1))) := (But.refl pb w).setCell ⟨pb, 1, none⟩ rfl _
  have hlt : k < T.length := Nat.lt_of_not_le fun hle => hr (by rw [← hd]; exact List.drop_eq_nil_of_le hle)
  exact ⟨k, by omega, p1, p4 1, ⟨k + 1, by omega, hn, by rw [← hd, List.tail_drop], hc', ht.but hb, he.but hb, hm⟩, hb⟩
set_option maxHeartbeats 4000000 in
theorem mark_any (pb : Nat) (a : Option Addr) (cap : Nat) (T : List Tok) (ar : ByteArray) (dep : Int) (r : List Tok) (x : ByteArray) (w : World) (h : PSt pb a cap T ar dep r w) :
    Calls Tryz.prog 42 #[.pointer (some ⟨pb, 0, none⟩), .string x] w fun e w' =>
      POut pb a cap T ar dep (fun _ u _ => u = .tuple #[]) (pMark (lastL T) x.data.toList r) e w' ∧ But pb w w' := by
  have H := Lib.hid (take_any pb a cap T ar dep r 5 (by decide) x w h)
  unfold pMark
  clear h
  cases hi : isT 5 x.data.toList r
  · rw [hi, if_neg (by decide)] at H
    rw [if_neg (by decide)]
    go_enter Tryz.func42, Tryz.ntmps42
    go_wp2_with (first | (go_at_call 34; refine H.out.mono ?_; rintro e w1 ⟨rfl, h1, x1⟩) | (go_at_call 33; refine (fail_any pb a cap T ar dep r 4 _ h1).mono ?_; rintro e w2 ⟨rfl, x2⟩; unfold failE))
    exact ⟨rfl, rfl, x1.ext x2⟩
  · rw [hi, if_pos rfl] at H
    rw [if_pos rfl]
    go_enter Tryz.func42, Tryz.ntmps42
    go_wp2_with (first | (go_at_call 34; refine H.out.mono ?_; rintro e w1 ⟨rfl, h1, x1⟩))
    go_returns
    exact ⟨⟨_, rfl, rfl, h1⟩, x1⟩
theorem pName_peek (last : Int) (r : List Tok) : pName last r = if (peekT r).kind = 1 then .ok ⟨(peekT r).text.toArray⟩ r.tail else .err (lineOf last r) 4 := by
  cases r with
  | nil => rfl
  | cons t r => rfl
theorem pVal_peek (last : Int) (r : List Tok) : pVal last r = if (peekT r).kind = 1 ∨ (peekT r).kind = 4 then .ok ⟨(peekT r).text.toArray⟩ r.tail else if (peekT r).kind = 3 then .ok ⟨(fmt (peekT r).n).toArray⟩ r.tail else .err (lineOf last r) 4 := by
  cases r with
  | nil => rfl
  | cons t r => rfl
theorem peek_ne {r : List Tok} (h : (peekT r).kind ≠ 0) : r ≠ [] := by rintro rfl; exact h rfl
theorem PSt.lt {pb : Nat} {a : Option Addr} {cap : Nat} {T : List Tok} {ar : ByteArray} {dep : Int} {r : List Tok} {w : World} (h : PSt pb a cap T ar dep r w) : pb < w.heap.size := by
  obtain ⟨k, hk, hn, hd, hc, _⟩ := h
  exact hc.lt
/-- A token is laid, and then the parser goes on by one. -/
theorem tok_then {pb : Nat} {a : Option Addr} {cap : Nat} {T : List Tok} {ar : ByteArray} {dep : Int} {r : List Tok} {w1 : World} (h : PSt pb a cap T ar dep r w1) (hr : r ≠ []) (tk : Int) (x : ByteArray) (n l : Int) :
    ∃ k : Nat, k ≤ 16383 ∧ (w1.alloc (.cells #[.int .i64 tk, .string x, .int .i64 n, .int .i64 l] 86)).cell? ⟨pb, 1, none⟩ = some (.int .i64 k) ∧ (w1.alloc (.cells #[.int .i64 tk, .string x, .int .i64 n, .int .i64 l] 86)).frozen? ⟨pb, 1, none⟩ = false ∧
      ((w1.alloc (.cells #[.int .i64 tk, .string x, .int .i64 n, .int .i64 l] 86)).setCell ⟨pb, 1, none⟩ (.int .i64 ((k : Int) + 1))).cell? ⟨w1.heap.size, 1, none⟩ = some (.string x) ∧
      PSt pb a cap T ar dep r.tail ((w1.alloc (.cells #[.int .i64 tk, .string x, .int .i64 n, .int .i64 l] 86)).setCell ⟨pb, 1, none⟩ (.int .i64 ((k : Int) + 1))) ∧
      But pb w1 ((w1.alloc (.cells #[.int .i64 tk, .string x, .int .i64 n, .int .i64 l] 86)).setCell ⟨pb, 1, none⟩ (.int .i64 ((k : Int) + 1))) := by
  have hx := (Ext.refl w1).alloc (.cells #[.int .i64 tk, .string x, .int .i64 n, .int .i64 l] 86)
  obtain ⟨_, c1, _, _⟩ := tok_cells w1 tk x n l _ (Ext.refl _)
  obtain ⟨k, hk, p1, p4, hs, hb⟩ := (h.ext hx).but_at hr
  have hlt := h.lt
  exact ⟨k, hk, p1, p4, hb.cell (p := ⟨w1.heap.size, 1, none⟩) (show w1.heap.size ≠ pb by omega) c1, hs, (But.of hx).trans hb⟩
set_option maxHeartbeats 4000000 in
theorem name_any (pb : Nat) (a : Option Addr) (cap : Nat) (T : List Tok) (ar : ByteArray) (dep : Int) (r : List Tok) (w : World) (h : PSt pb a cap T ar dep r w) :
    Calls Tryz.prog 35 #[.pointer (some ⟨pb, 0, none⟩)] w fun e w' =>
      POut pb a cap T ar dep (fun v u _ => u = .string v) (pName (lastL T) r) e w' ∧ But pb w w' := by
  have H := Lib.hid (peek_st pb a cap T ar dep r w h)
  have HS := Lib.hid h
  clear h
  rw [pName_peek]
  have hne := @peek_ne r
  generalize peekT r = t at *
  obtain ⟨tk, tx, tn, tl⟩ := t
  unfold tokV at H
  dsimp only at H hne ⊢
  by_cases hi : tk = 1
  · subst hi
    rw [if_pos rfl]
    have hr := hne (by decide)
    go_enter Tryz.func35, Tryz.ntmps35
    go_wp2_with (go_at_call 50; refine H.out.mono ?_; rintro e w1 ⟨rfl, x1⟩; have hcl := tok_cells w1 1 ⟨tx.toArray⟩ tn tl; obtain ⟨k, hk, p1, p4, q1, hs, hb⟩ := tok_then (HS.out.ext x1) hr 1 ⟨tx.toArray⟩ tn tl; replace hs := Lib.hid hs; replace hb := Lib.hid hb)
    go_returns
    exact ⟨⟨_, rfl, rfl, hs.out⟩, (But.of x1).trans hb.out⟩
  · rw [if_neg hi]
    go_enter Tryz.func35, Tryz.ntmps35
    go_wp2_with (first | (go_at_call 50; refine H.out.mono ?_; rintro e w1 ⟨rfl, x1⟩; have hcl := tok_cells w1 tk ⟨tx.toArray⟩ tn tl) | (go_at_call 33; refine (fail_any pb a cap T ar dep r 4 _ (HS.out.ext (x1.alloc _))).mono ?_; rintro e w2 ⟨rfl, x2⟩; unfold failE))
    exact ⟨rfl, rfl, But.of ((x1.alloc _).trans x2)⟩
set_option maxHeartbeats 4000000 in
theorem value_any (pb : Nat) (a : Option Addr) (cap : Nat) (T : List Tok) (ar : ByteArray) (dep : Int) (r : List Tok) (w : World) (h : PSt pb a cap T ar dep r w) :
    Calls Tryz.prog 43 #[.pointer (some ⟨pb, 0, none⟩)] w fun e w' =>
      POut pb a cap T ar dep (fun v u _ => u = .string v) (pVal (lastL T) r) e w' ∧ But pb w w' := by
  have H := Lib.hid (peek_st pb a cap T ar dep r w h)
  have HS := Lib.hid h
  clear h
  rw [pVal_peek]
  have hne := @peek_ne r
  have hnn : (peekT r).kind ≠ 0 → -9223372036854775808 ≤ (peekT r).n ∧ (peekT r).n ≤ 9223372036854775807 := fun h0 => by
    obtain ⟨_, _, _, hd, _, _, _, hm⟩ := HS.out
    cases r with
    | nil => exact absurd rfl (hne h0)
    | cons t r => exact hm t (List.mem_of_mem_drop (by rw [hd]; exact List.mem_cons_self))
  generalize peekT r = t at *
  obtain ⟨tk, tx, tn, tl⟩ := t
  unfold tokV at H
  dsimp only at H hne hnn ⊢
  by_cases h1 : tk = 1 ∨ tk = 4
  · have hr := hne (by omega)
    rw [if_pos h1]
    clear hnn hne
    rcases h1 with rfl | rfl
    · go_enter Tryz.func43, Tryz.ntmps43
      go_wp2_with (go_at_call 50; refine H.out.mono ?_; rintro e w1 ⟨rfl, x1⟩; have hcl := tok_cells w1 1 ⟨tx.toArray⟩ tn tl; obtain ⟨k, hk, p1, p4, q1, hs, hb⟩ := tok_then (HS.out.ext x1) hr 1 ⟨tx.toArray⟩ tn tl; replace hs := Lib.hid hs; replace hb := Lib.hid hb; clear q1)
      go_returns
      exact ⟨⟨_, rfl, rfl, hs.out⟩, (But.of x1).trans hb.out⟩
    · go_enter Tryz.func43, Tryz.ntmps43
      go_wp2_with (go_at_call 50; refine H.out.mono ?_; rintro e w1 ⟨rfl, x1⟩; have hcl := tok_cells w1 4 ⟨tx.toArray⟩ tn tl; obtain ⟨k, hk, p1, p4, q1, hs, hb⟩ := tok_then (HS.out.ext x1) hr 4 ⟨tx.toArray⟩ tn tl; replace hs := Lib.hid hs; replace hb := Lib.hid hb; clear q1)
      go_returns
      exact ⟨⟨_, rfl, rfl, hs.out⟩, (But.of x1).trans hb.out⟩
  · rw [if_neg h1]
    by_cases h3 : tk = 3
    · subst h3
      have hr := hne (by decide)
      obtain ⟨hn0, hn1⟩ := hnn (by decide)
      have HN0 := Lib.hid hn0
      have HN1 := Lib.hid hn1
      rw [if_pos rfl]
      clear hnn hne h1 hn0 hn1
      go_enter Tryz.func43, Tryz.ntmps43
      go_wp2_with (first | (go_at_call 50; refine H.out.mono ?_; rintro e w1 ⟨rfl, x1⟩; have hcl := tok_cells w1 3 ⟨tx.toArray⟩ tn tl; have hx2 := x1.alloc (.cells #[.int .i64 3, .string ⟨tx.toArray⟩, .int .i64 tn, .int .i64 tl] 86); obtain ⟨_, _, _, _, _, _, he, _⟩ := HS.out.ext hx2; have HE := Lib.hid he.env; clear he; replace hx2 := Lib.hid hx2) | (go_at_call 58; refine (format_any tn _ HN0.out HN1.out HE.out.1).mono ?_; rintro e w2 ⟨rfl, x2⟩; obtain ⟨k, hk, p1, p4, hs, hb⟩ := (HS.out.ext (hx2.out.trans x2)).but_at hr; replace hs := Lib.hid hs; replace hb := Lib.hid hb))
      go_returns
      exact ⟨⟨_, rfl, rfl, hs.out⟩, (But.of (hx2.out.trans x2)).trans hb.out⟩
    · rw [if_neg h3]
      have h4 : ¬ tk = 4 := fun h => h1 (.inr h)
      have h1' : ¬ tk = 1 := fun h => h1 (.inl h)
      clear h1 hnn hne
      go_enter Tryz.func43, Tryz.ntmps43
      go_wp2_with (first | (go_at_call 50; refine H.out.mono ?_; rintro e w1 ⟨rfl, x1⟩; have hcl := tok_cells w1 tk ⟨tx.toArray⟩ tn tl) | (go_at_call 33; refine (fail_any pb a cap T ar dep r 4 _ (HS.out.ext (x1.alloc _))).mono ?_; rintro e w2 ⟨rfl, x2⟩; unfold failE))
      exact ⟨rfl, rfl, But.of ((x1.alloc _).trans x2)⟩
end Go.Proofs.YtmallladeidkpaaGreatDoor.Pa

/- Lists of pairs and of statements in memory, off some blocks; rows that grow while one block turns. -/
namespace Go.Proofs.YtmallladeidkpaaGreatDoor.Pa
open Go.RowKit Go.Sort Go.Lib Go.Shelf Fx Lx Tr

theorem own_but {c : Nat} {w w' : World} {B : Nat} {e : TypeId} {sz : Nat} {v : Value} {n : Nat} {xs : List Value} (h : w.ownsRow B e sz v n xs) (x : But c w w') (hB : c < B) : w'.ownsRow B e sz v n xs := by
  refine ⟨h.1, ?_⟩
  rcases h.2 with h1 | ⟨g, cap, cur, hv, hb, hg, r⟩
  · exact .inl h1
  · exact .inr ⟨g, cap, cur, hv, hb, (x.block g (Array.getElem?_eq_some_iff.1 hg).1 (by omega)).trans hg, r⟩
theorem But.grown {c : Nat} {a w w' : World} {row : Option Nat} (h : But c a w) (hg : w.grownBy w' row) (hr : ∀ k, row = some k → a.heap.size ≤ k) : But c a w' :=
  ⟨hg.os.trans h.os, hg.tape.trans h.tape, hg.output.trans h.output, Nat.le_trans h.size hg.size, fun k hk hc => (hg.block k (Nat.lt_of_lt_of_le hk h.size) (fun e => by have := hr k e.symm; omega)).trans (h.block k hk hc)⟩
/-- A list of pairs of texts behind a slice, in blocks of a kind. -/
def TwoP (ok : Nat → Prop) (w : World) (a : Option Addr) (L : List Two) : Prop :=
  ∀ k (h : k < L.length), ∃ g o, a = some ⟨g, o, none⟩ ∧ ok g ∧ w.cell? ⟨g, o + k * 2, none⟩ = some (.string L[k].1) ∧ w.cell? ⟨g, o + k * 2 + 1, none⟩ = some (.string L[k].2)
/-- What the blocks of a kind hold has not turned. -/
def Kept (ok : Nat → Prop) (w w' : World) : Prop := ∀ g, ok g → g < w.heap.size → w'.heap[g]? = w.heap[g]?
theorem Kept.cell {ok : Nat → Prop} {w w' : World} (h : Kept ok w w') {p : Addr} {v : Value} (hp : ok p.block) (hv : w.cell? p = some v) : w'.cell? p = some v := by
  rw [World.cell?_of_block (w := w) (h _ hp (World.block_lt_of_cell? _ _ hv))]; exact hv
theorem TwoP.keep {ok ok' : Nat → Prop} {w w' : World} {a : Option Addr} {L : List Two} (h : TwoP ok w a L) (k : Kept ok w w') (ho : ∀ g, ok g → g < w.heap.size → ok' g) : TwoP ok' w' a L := fun i hi => by
  obtain ⟨g, o, ha, hg, h0, h1⟩ := h i hi
  exact ⟨g, o, ha, ho g hg (World.block_lt_of_cell? _ ⟨g, _, none⟩ h0), k.cell (p := ⟨g, _, none⟩) hg h0, k.cell (p := ⟨g, _, none⟩) hg h1⟩
theorem TwoP.at {ok : Nat → Prop} {w : World} {a : Option Addr} {L : List Two} {n : Nat} (h : TwoP ok w a L) (ho : ∀ g, ok g → g < n) : TwoAt n w a L := fun i hi => by
  obtain ⟨g, o, ha, hg, h0, h1⟩ := h i hi
  exact ⟨g, o, ha, ho g hg, h0, h1⟩
def twosC (L : List Two) : List Value := L.flatMap fun q => [.string q.1, .string q.2]
theorem twosC_snoc (L : List Two) (q : Two) : twosC (L ++ [q]) = twosC L ++ [.string q.1, .string q.2] := by unfold twosC; simp
theorem twosC_at : ∀ (L : List Two) (k : Nat) (h : k < L.length), (twosC L)[k * 2]? = some (.string L[k].1) ∧ (twosC L)[k * 2 + 1]? = some (.string L[k].2)
  | [], k, h => absurd h (by simp)
  | q :: L, 0, _ => ⟨rfl, rfl⟩
  | q :: L, k + 1, h => by
    have ih := twosC_at L k (by simpa using h)
    have e : twosC (q :: L) = .string q.1 :: .string q.2 :: twosC L := rfl
    rw [e, show (k + 1) * 2 = k * 2 + 1 + 1 by omega]
    simpa using ih
/-- A slice of pairs that a part of the parser answers. -/
def TwoV (ok : Nat → Prop) (L : List Two) (u : Value) (w : World) : Prop := ∃ a cap, u = .slice a L.length cap ∧ TwoP ok w a L ∧ L.length ≤ cap ∧ cap ≤ maxLen
theorem add_at (g j : Nat) : (⟨g, 0, none⟩ : Addr).add j = ⟨g, j, none⟩ := by simp [Addr.add]; exact fun h => h.symm
theorem own_two {w : World} {B : Nat} {e : TypeId} {v : Value} {L : List Two} (h : w.ownsRow B e 2 v L.length (twosC L)) : TwoV (B ≤ ·) L v w := by
  rcases h.2 with ⟨h1, h2⟩ | ⟨g, cap, cur, hv, hb, hg, hn, hc, _⟩
  · exact ⟨none, 0, by rw [h1, h2], fun k hk => absurd hk (by omega), by omega, by omega⟩
  · refine ⟨_, cap, hv, fun k hk => ⟨g, 0, rfl, hb, ?_, ?_⟩, hn, hc⟩
    · have := h.cells (g := g) (by rw [hv]; rfl) _ _ (twosC_at L k hk).1
      rw [add_at] at this; rw [Nat.zero_add]; exact this
    · have := h.cells (g := g) (by rw [hv]; rfl) _ _ (twosC_at L k hk).2
      rw [add_at] at this; rw [Nat.zero_add]; exact this
theorem twoV_nil (ok : Nat → Prop) (w : World) : TwoV ok [] (.slice none 0 0) w := ⟨none, 0, rfl, fun k hk => absurd hk (by simp), by simp, by simp⟩
mutual
/-- The five cells of a statement, and what they lead to, in blocks of a kind. -/
def StmP (ok : Nat → Prop) (w : World) : Stm → List Value → Prop
  | .mk k nm rs al body, xs => ∃ r rc a ac b bc, xs = [.int .i64 k, .string nm, .slice r rs.length rc, .slice a al.length ac, .slice b body.length bc] ∧
      TwoP ok w r rs ∧ TwoP ok w a al ∧ StmsP ok w b body ∧ rs.length ≤ rc ∧ al.length ≤ ac ∧ rc ≤ maxLen ∧ ac ≤ maxLen ∧ body.length ≤ maxLen
/-- A list of statements behind a slice. -/
def StmsP (ok : Nat → Prop) (w : World) (b : Option Addr) : List Stm → Prop
  | [] => True
  | x :: r => ∃ g o xs, b = some ⟨g, o, none⟩ ∧ ok g ∧ (∀ j u, xs[j]? = some u → w.cell? ⟨g, o + j, none⟩ = some u) ∧ StmP ok w x xs ∧ StmsP ok w (some ⟨g, o + 5, none⟩) r
end
theorem stmP_mk (ok : Nat → Prop) (w : World) (s : Stm) (xs : List Value) : StmP ok w s xs ↔ ∃ r rc a ac b bc, xs = [.int .i64 s.kind, .string s.name, .slice r s.refs.length rc, .slice a s.attrs.length ac, .slice b s.body.length bc] ∧
      TwoP ok w r s.refs ∧ TwoP ok w a s.attrs ∧ StmsP ok w b s.body ∧ s.refs.length ≤ rc ∧ s.attrs.length ≤ ac ∧ rc ≤ maxLen ∧ ac ≤ maxLen ∧ s.body.length ≤ maxLen := by
  cases s; rw [StmP]; rfl
mutual
theorem StmP.keep {ok ok' : Nat → Prop} {w w' : World} (k : Kept ok w w') (ho : ∀ g, ok g → g < w.heap.size → ok' g) : ∀ (s : Stm) (xs : List Value), StmP ok w s xs → StmP ok' w' s xs
  | .mk kd nm rs al body, xs, h => by
    rw [StmP] at h ⊢
    obtain ⟨r, rc, a, ac, b, bc, hx, hr, ha, hb, hl⟩ := h
    exact ⟨r, rc, a, ac, b, bc, hx, hr.keep k ho, ha.keep k ho, StmsP.keep k ho body b hb, hl⟩
theorem StmsP.keep {ok ok' : Nat → Prop} {w w' : World} (k : Kept ok w w') (ho : ∀ g, ok g → g < w.heap.size → ok' g) : ∀ (L : List Stm) (b : Option Addr), StmsP ok w b L → StmsP ok' w' b L
  | [], _, _ => by rw [StmsP]; trivial
  | s :: L, b, h => by
    rw [StmsP] at h ⊢
    obtain ⟨g, o, xs, hb, hg, hc, hs, hr⟩ := h
    have h0 : ∃ u, xs[0]? = some u := by
      obtain ⟨r, rc, a, ac, b, bc, hx, _⟩ := (stmP_mk ok w s xs).1 hs
      exact ⟨_, by rw [hx]; rfl⟩
    obtain ⟨u, hu⟩ := h0
    exact ⟨g, o, xs, hb, ho g hg (World.block_lt_of_cell? _ ⟨g, _, none⟩ (hc 0 u hu)), fun j u hj => k.cell (p := ⟨g, _, none⟩) hg (hc j u hj), StmP.keep k ho s xs hs, StmsP.keep k ho L _ hr⟩
end
mutual
theorem StmP.at {ok : Nat → Prop} {w : World} {n : Nat} (ho : ∀ g, ok g → g < n) : ∀ (s : Stm) (xs : List Value) (g o : Nat), StmP ok w s xs → (∀ j u, xs[j]? = some u → w.cell? ⟨g, o + j, none⟩ = some u) → StmAt n w g o s
  | .mk kd nm rs al body, xs, g, o, h, hc => by
    rw [StmP] at h
    rw [StmAt]
    obtain ⟨r, rc, a, ac, b, bc, hx, hr, ha, hb, hl⟩ := h
    subst hx
    exact ⟨r, rc, a, ac, b, bc, hc 0 _ rfl, hc 1 _ rfl, hc 2 _ rfl, hc 3 _ rfl, hc 4 _ rfl, hr.at ho, ha.at ho, StmsP.at ho body b hb, hl⟩
theorem StmsP.at {ok : Nat → Prop} {w : World} {n : Nat} (ho : ∀ g, ok g → g < n) : ∀ (L : List Stm) (b : Option Addr), StmsP ok w b L → StmsAt n w b L
  | [], _, _ => by rw [StmsAt]; trivial
  | s :: L, b, h => by
    rw [StmsP] at h
    rw [StmsAt]
    obtain ⟨g, o, xs, hb, hg, hc, hs, hr⟩ := h
    exact ⟨g, o, hb, ho g hg, StmP.at ho s xs g o hs hc, StmsP.at ho L _ hr⟩
end
/-- The cells of a row of statements. -/
def StmsC (ok : Nat → Prop) (w : World) : List Stm → List Value → Prop
  | [], X => X = []
  | s :: L, X => ∃ xs Y, X = xs ++ Y ∧ xs.length = 5 ∧ StmP ok w s xs ∧ StmsC ok w L Y
theorem StmsC.snoc {ok : Nat → Prop} {w : World} {s : Stm} {xs : List Value} (hs : StmP ok w s xs) (hl : xs.length = 5) : ∀ (L : List Stm) (X : List Value), StmsC ok w L X → StmsC ok w (L ++ [s]) (X ++ xs)
  | [], X, h => by
    have h : X = [] := h
    subst h
    exact ⟨xs, [], by simp, hl, hs, rfl⟩
  | t :: L, X, h => by
    obtain ⟨ys, Y, hX, h5, ht, hr⟩ := h
    exact ⟨ys, Y ++ xs, by rw [hX, List.append_assoc], h5, ht, StmsC.snoc hs hl L Y hr⟩
theorem StmsC.keep {ok ok' : Nat → Prop} {w w' : World} (k : Kept ok w w') (ho : ∀ g, ok g → g < w.heap.size → ok' g) : ∀ (L : List Stm) (X : List Value), StmsC ok w L X → StmsC ok' w' L X
  | [], _, h => h
  | s :: L, X, h => by
    obtain ⟨xs, Y, hX, hl, hs, hr⟩ := h
    exact ⟨xs, Y, hX, hl, StmP.keep k ho s xs hs, StmsC.keep k ho L Y hr⟩
theorem StmsC.at {ok : Nat → Prop} {w : World} {g : Nat} (hg : ok g) : ∀ (L : List Stm) (X : List Value) (o : Nat), StmsC ok w L X → (∀ j u, X[j]? = some u → w.cell? ⟨g, o + j, none⟩ = some u) → StmsP ok w (some ⟨g, o, none⟩) L
  | [], _, _, _, _ => by rw [StmsP]; trivial
  | s :: L, X, o, h, hc => by
    obtain ⟨xs, Y, hX, hl, hs, hr⟩ := h
    rw [StmsP]
    refine ⟨g, o, xs, rfl, hg, fun j u hj => hc j u ?_, hs, StmsC.at hg L Y (o + 5) hr fun j u hj => ?_⟩
    · rw [hX, List.getElem?_append_left (List.getElem?_eq_some_iff.1 hj).1]; exact hj
    · have := hc (5 + j) u (by rw [hX, List.getElem?_append_right (by omega), hl, Nat.add_sub_cancel_left]; exact hj)
      rw [Nat.add_assoc]; exact this
/-- A slice of statements that a part of the parser answers. -/
def StmsV (ok : Nat → Prop) (L : List Stm) (u : Value) (w : World) : Prop := ∃ b cap, u = .slice b L.length cap ∧ StmsP ok w b L ∧ L.length ≤ cap ∧ cap ≤ maxLen
theorem own_stms {w : World} {B : Nat} {e : TypeId} {v : Value} {L : List Stm} {X : List Value} {ok ok' : Nat → Prop} (h : w.ownsRow B e 5 v L.length X) (hc : StmsC ok w L X) (ho : ∀ g, ok g → ok' g) (hB : ∀ g, B ≤ g → ok' g) : StmsV ok' L v w := by
  rcases h.2 with ⟨h1, h2⟩ | ⟨g, cap, cur, hv, hb, hg, hn, hcap, _⟩
  · have hL : L = [] := List.eq_nil_of_length_eq_zero h2
    subst hL
    exact ⟨none, 0, by rw [h1]; rfl, by rw [StmsP]; trivial, by simp, by simp⟩
  · refine ⟨_, cap, hv, StmsC.at (hB g hb) L X 0 (StmsC.keep (fun _ _ _ => rfl) (fun g h _ => ho g h) L X hc) fun j u hj => ?_, hn, hcap⟩
    have := h.cells (g := g) (by rw [hv]; rfl) j u hj
    rw [add_at] at this; rw [Nat.zero_add]; exact this
/-- A statement that a part of the parser answers. -/
def StmV (ok : Nat → Prop) (s : Stm) (u : Value) (w : World) : Prop := ∃ xs, u = .agg xs.toArray ∧ StmP ok w s xs
end Go.Proofs.YtmallladeidkpaaGreatDoor.Pa

/- What the parser's attrs returns. -/
namespace Go.Proofs.YtmallladeidkpaaGreatDoor.Pa
open Go.RowKit Go.Sort Go.Lib Go.Shelf Fx Lx Tr

theorem mark_l (pb : Nat) (a : Option Addr) (cap : Nat) (T : List Tok) (ar : ByteArray) (dep : Int) (r : List Tok) (x : ByteArray) (l : List UInt8) (hx : x.data.toList = l) (w : World) (h : PSt pb a cap T ar dep r w) :
    Calls Tryz.prog 42 #[.pointer (some ⟨pb, 0, none⟩), .string x] w fun e w' =>
      POut pb a cap T ar dep (fun _ u _ => u = .tuple #[]) (pMark (lastL T) l r) e w' ∧ But pb w w' := by
  subst hx; exact mark_any pb a cap T ar dep r x w h
theorem take_l (pb : Nat) (a : Option Addr) (cap : Nat) (T : List Tok) (ar : ByteArray) (dep : Int) (r : List Tok) (kd : Int) (hkd : kd ≠ 0) (x : ByteArray) (l : List UInt8) (hx : x.data.toList = l) (w : World) (h : PSt pb a cap T ar dep r w) :
    Calls Tryz.prog 34 #[.pointer (some ⟨pb, 0, none⟩), .int .i64 kd, .string x] w fun e w' =>
      e = .returned (.bool (isT kd l r)) ∧ PSt pb a cap T ar dep (if isT kd l r = true then r.tail else r) w' ∧ But pb w w' := by
  subst hx; exact take_any pb a cap T ar dep r kd hkd x w h
theorem is_l (pb : Nat) (a : Option Addr) (cap : Nat) (T : List Tok) (ar : ByteArray) (dep : Int) (r : List Tok) (kd : Int) (hkd : kd ≠ 0) (x : ByteArray) (l : List UInt8) (hx : x.data.toList = l) (w : World) (h : PSt pb a cap T ar dep r w) :
    Calls Tryz.prog 49 #[.pointer (some ⟨pb, 0, none⟩), .int .i64 kd, .string x] w fun e w' => e = .returned (.bool (isT kd l r)) ∧ Ext w w' := by
  subst hx; exact is_any pb a cap T ar dep r kd hkd x w h
theorem isT_cons {kd : Int} {x : List UInt8} {r : List Tok} (h : isT kd x r = true) : r.tail.length + 1 = r.length := by
  cases r with
  | nil => cases h
  | cons t r => rfl
theorem pMark_len {last : Int} {m : List UInt8} {r r' : List Tok} {u : Unit} (h : pMark last m r = .ok u r') : r'.length + 1 = r.length := by
  unfold pMark at h
  by_cases hi : isT 5 m r = true
  · rw [if_pos hi] at h; injection h with _ h; rw [← h]; exact isT_cons hi
  · rw [if_neg hi] at h; cases h
theorem pName_len {last : Int} {r r' : List Tok} {u : ByteArray} (h : pName last r = .ok u r') : r'.length + 1 = r.length := by
  cases r with
  | nil => cases h
  | cons t r =>
    unfold pName at h
    dsimp only at h
    by_cases hi : t.kind = 1
    · rw [if_pos hi] at h; injection h with _ h; rw [← h]; rfl
    · rw [if_neg hi] at h; cases h
theorem pVal_len {last : Int} {r r' : List Tok} {u : ByteArray} (h : pVal last r = .ok u r') : r'.length + 1 = r.length := by
  cases r with
  | nil => cases h
  | cons t r =>
    unfold pVal at h
    dsimp only at h
    by_cases hi : t.kind = 1 ∨ t.kind = 4
    · rw [if_pos hi] at h; injection h with _ h; rw [← h]; rfl
    · rw [if_neg hi] at h
      by_cases h3 : t.kind = 3
      · rw [if_pos h3] at h; injection h with _ h; rw [← h]; rfl
      · rw [if_neg h3] at h; cases h
theorem PSt.len {pb : Nat} {a : Option Addr} {cap : Nat} {T : List Tok} {ar : ByteArray} {dep : Int} {r : List Tok} {w : World} (h : PSt pb a cap T ar dep r w) : r.length ≤ T.length ∧ T.length ≤ 16384 := by
  obtain ⟨k, hk, hn, hd, _⟩ := h
  exact ⟨by rw [← hd, List.length_drop]; omega, hn⟩
def slen : Value → Nat
  | .slice _ n _ => n
  | _ => 0
theorem own_slice {w : World} {B : Nat} {e : TypeId} {sz : Nat} {v : Value} {n : Nat} {xs : List Value} (h : w.ownsRow B e sz v n xs) : ∃ ao c, v = .slice ao n c := by
  rcases h.2 with ⟨h1, h2⟩ | ⟨g, cap, cur, hv, _⟩
  · exact ⟨none, 0, by rw [h1, h2]⟩
  · exact ⟨_, cap, hv⟩
theorem info_attr : (Tryz.prog.info? 61).map (fun i => (i.zero, i.size, i.bytes)) = some (some (.agg #[.string ⟨#[]⟩, .string ⟨#[]⟩]), 2, 32) := by kernel_rfl
set_option maxHeartbeats 4000000 in
set_option maxRecDepth 100000 in
theorem attrs_any (pb : Nat) (a : Option Addr) (cap : Nat) (T : List Tok) (ar : ByteArray) (dep : Int) (r : List Tok) (w : World) (h : PSt pb a cap T ar dep r w) :
    Calls Tryz.prog 26 #[.pointer (some ⟨pb, 0, none⟩)] w fun e w' =>
      POut pb a cap T ar dep (fun L u w' => TwoV (w.heap.size ≤ ·) L u w') (pAttrsB (lastL T) r) e w' ∧ But pb w w' := by
  obtain ⟨i0, hi, hz0, hz1, hz2⟩ := info_parts info_attr
  obtain ⟨X, hX⟩ : ∃ X, X = pAttrsB (lastL T) r := ⟨_, rfl⟩
  rw [← hX]
  unfold pAttrsB at hX
  have HS := Lib.hid h; have HX := Lib.hid hX
  clear h hX
  rcases hm : pMark (lastL T) [91] r with ⟨v, r1⟩ | ⟨ln, er⟩
  · have hX := HX.out
    rw [hm, PR.bind_ok] at hX
    replace HX := Lib.hid hX
    have hm1 := mark_l pb a cap T ar dep r ⟨#[91]⟩ [91] rfl w HS.out
    rw [hm] at hm1
    have HM := Lib.hid hm1
    have HL := Lib.hid (pMark_len hm)
    clear hX hm hm1
    go_enter Tryz.func26, Tryz.ntmps26
    go_wp2_with (go_at_call 42; refine HM.out.mono ?_; rintro e w1 ⟨⟨_, rfl, rfl, hs1⟩, x1⟩; replace hs1 := Lib.hid hs1; replace x1 := Lib.hid x1)
    go_loopw [3] (fun out' wr => ∃ (ao : Option Addr) (n c : Nat) (out : List Two) (r : List Tok) (f : Nat), out' = .slice ao n c ∧ n = out.length ∧ n + r.length ≤ 16384 ∧ r.length < f ∧ Hid (PSt pb a cap T ar dep r wr) ∧ Hid (But pb w wr) ∧ Hid (wr.ownsRow w.heap.size 61 2 out' n (twosC out)) ∧ Hid (X = pAttrs (lastL T) f out r)) (fun out' _ => 16384 - slen out')
    case atStart => exact ⟨none, 0, 0, [], r1, r1.length + 1, rfl, rfl, by have := hs1.out.len; omega, by omega, hs1, x1, Lib.hid (World.ownsRow_nil _ _ _ _), HX⟩
    case round =>
      obtain ⟨ao, n, c, out, r, f, rfl, hn, hlen, hf, hs, hb, hown, hX⟩ := hrel
      replace hn := Lib.hid hn
      clear HX HL hs1 x1 HM
      obtain ⟨f, rfl⟩ : ∃ g, f = g + 1 := ⟨f - 1, by omega⟩
      have hX0 := hX.out
      rw [pAttrs] at hX0
      have htk := take_l pb a cap T ar dep r 5 (by decide) ⟨#[93]⟩ [93] rfl wr hs.out
      by_cases hi : isT 5 [93] r = true
      · rw [if_pos hi] at hX0
        rw [hi, if_pos rfl] at htk
        have HTK := Lib.hid htk; replace hX := Lib.hid hX0
        clear hX0 htk hi
        go_wp2_with (go_at_call 34; refine HTK.out.mono ?_; rintro e w2 ⟨rfl, hs2, x2⟩; replace hs2 := Lib.hid hs2; replace x2 := Lib.hid x2)
        go_returns
        have hlt := HS.out.lt
        rw [hX.out]
        have hn' := hn.out
        subst hn'
        exact ⟨⟨_, rfl, own_two (own_but hown.out x2.out hlt), hs2.out⟩, hb.out.trans x2.out⟩
      · rw [if_neg hi] at hX0
        have hi' : isT 5 [93] r = false := by simpa using hi
        rw [hi', if_neg (by decide)] at htk
        have HTK := Lib.hid htk
        clear hX htk hi hi'
        have hlt := HS.out.lt
        have HLT := Lib.hid hlt
        clear hlt
        obtain hcase | ⟨h0, hcase⟩ : (n = 0 ∧ Hid (X = (pAttr (lastL T) r).bind fun q r => pAttrs (lastL T) f (out ++ [q]) r)) ∨ (¬ n = 0 ∧ Hid (X = (pMark (lastL T) [44] r).bind fun _ r => (pAttr (lastL T) r).bind fun q r => pAttrs (lastL T) f (out ++ [q]) r)) := by
          by_cases h0 : n = 0
          · have he : out.isEmpty = true := by rw [List.isEmpty_iff]; exact List.eq_nil_of_length_eq_zero (by rw [← hn.out]; exact h0)
            rw [if_pos he, PR.bind_ok] at hX0
            exact .inl ⟨h0, Lib.hid hX0⟩
          · have he : ¬ out.isEmpty = true := by rw [List.isEmpty_iff]; rintro rfl; exact h0 hn.out
            rw [if_neg he] at hX0
            exact .inr ⟨h0, Lib.hid hX0⟩
        · obtain ⟨h0, hX⟩ := hcase
          subst h0
          clear hX0
          go_wp2_with (go_at_call 34; refine HTK.out.mono ?_; rintro e w2 ⟨rfl, hs2, x2⟩)
          have hown2 := Lib.hid (own_but hown.out x2 HLT.out)
          replace x2 := Lib.hid (hb.out.trans x2)
          clear HTK hown hs hb
          obtain ⟨r2, hr2⟩ : ∃ r2, r2 = r := ⟨_, rfl⟩
          rw [← hr2] at hs2 hX hlen hf
          clear hr2 r
          rcases hnm : pName (lastL T) r2 with ⟨k, r3⟩ | ⟨ln, er⟩
          · have hX1 := hX.out
            rw [pAttr, hnm, PR.bind_ok] at hX1
            have hn1 := name_any pb a cap T ar dep r2 w2 hs2
            rw [hnm] at hn1
            have HX1 := Lib.hid hX1
            have hl1 := pName_len hnm
            clear hX hX1 hnm hs2
            refine hn1.mono ?_
            rintro e w3 ⟨⟨_, rfl, rfl, hs3⟩, x3⟩
            clear hn1
            have hown3 := Lib.hid (own_but hown2.out x3 HLT.out)
            replace x3 := Lib.hid (x2.out.trans x3)
            clear x2 hown2
            go_wp2_with fail
            rcases hmm : pMark (lastL T) [61] r3 with ⟨v, r4⟩ | ⟨ln, er⟩
            · have hX1 := HX1.out
              rw [hmm, PR.bind_ok] at hX1
              have hn1 := mark_l pb a cap T ar dep r3 ⟨#[61]⟩ [61] rfl w3 hs3
              rw [hmm] at hn1
              have HX2 := Lib.hid hX1
              have hl2 := pMark_len hmm
              clear HX1 hX1 hmm hs3
              refine hn1.mono ?_
              rintro e w4 ⟨⟨_, rfl, rfl, hs4⟩, x4⟩
              clear hn1
              have hown4 := Lib.hid (own_but hown3.out x4 HLT.out)
              replace x4 := Lib.hid (x3.out.trans x4)
              clear x3 hown3
              go_wp2_with fail
              rcases hvv : pVal (lastL T) r4 with ⟨v, r5⟩ | ⟨ln, er⟩
              · have hX1 := HX2.out
                rw [hvv, PR.bind_ok, PR.bind_ok] at hX1
                have hn1 := value_any pb a cap T ar dep r4 w4 hs4
                rw [hvv] at hn1
                have HX3 := Lib.hid hX1
                have hl3 := pVal_len hvv
                clear HX2 hX1 hvv hs4
                refine hn1.mono ?_
                rintro e w5 ⟨⟨_, rfl, rfl, hs5⟩, x5⟩
                clear hn1
                have hown5 := Lib.hid (own_but hown4.out x5 HLT.out)
                replace x5 := Lib.hid (x4.out.trans x5)
                clear x4 hown4
                have hsz := x5.out.size
                go_wp2_with (at_builtin; refine wpList_append_own _ rfl _ _ 35 rfl w.heap.size 61 i0 _ 2 32 Tryz.underlying35 hi hz0 hz1 hz2 rfl (by decide) _ _ _ rfl (own_ext' hown5.out ((Ext.refl w5).alloc _)) ⟨w5.heap.size, 0, none⟩ 1 1 [.string k, .string v] rfl rfl ?c1 ?c2 ?c3 ?c4 ?c5 ?_)
                case c1 => exact World.news_of_block (cs := #[.string k, .string v]) (t := 61) (fr := (0, 0)) (heap_alloc_new w5 _)
                case c2 => simp [Value.oneCell']
                case c3 => unfold maxLen; omega
                case c4 => omega
                case c5 => simp; omega
                intro v' w6 hown' hgrow _
                have hrow : ∀ q, Value.ownBlock (.slice ao 0 c) = some q → w.heap.size ≤ q := fun q hq => (hown5.out.lt q hq).1
                have hs6 := Lib.hid (((hs5.ext ((Ext.refl w5).alloc (.cells #[.string k, .string v] 61))).below (Below.grown (Below.refl w.heap.size _) hgrow (by simp; omega) hrow) HLT.out))
                have x6 := Lib.hid (But.grown (x5.out.alloc (.cells #[.string k, .string v] 61)) hgrow hrow)
                have hown6 : Hid (w6.ownsRow w.heap.size 61 2 v' (0 + 1) (twosC (out ++ [(k, v)]))) := Lib.hid (by rw [twosC_snoc]; exact hown')
                clear hown' hgrow hrow hown5 x5 hs5
                obtain ⟨ao', c', rfl⟩ := own_slice hown6.out
                go_wp2
                go_roundw
                case rel => exact ⟨ao', 0 + 1, c', out ++ [(k, v)], r5, f, rfl, by rw [List.length_append, ← hn.out]; rfl, by omega, by omega, hs6, x6, hown6, HX3⟩
                case measure => simp only [slen]; omega
              · have hX1 := HX2.out
                rw [hvv, PR.bind_err, PR.bind_err] at hX1
                have hn1 := value_any pb a cap T ar dep r4 w4 hs4
                rw [hvv] at hn1
                have HX3 := Lib.hid hX1
                clear HX2 hX1 hvv hs4
                refine hn1.mono ?_
                rintro e w5 ⟨rfl, x5⟩
                unfold failE
                go_wp2
                exact ⟨rfl, by rw [HX3.out]; exact rfl, x4.out.trans x5⟩
            · have hX1 := HX1.out
              rw [hmm, PR.bind_err, PR.bind_err] at hX1
              have hn1 := mark_l pb a cap T ar dep r3 ⟨#[61]⟩ [61] rfl w3 hs3
              rw [hmm] at hn1
              have HX2 := Lib.hid hX1
              clear HX1 hX1 hmm hs3
              refine hn1.mono ?_
              rintro e w4 ⟨rfl, x4⟩
              unfold failE
              go_wp2
              exact ⟨rfl, by rw [HX2.out]; exact rfl, x3.out.trans x4⟩
          · have hX1 := hX.out
            rw [pAttr, hnm, PR.bind_err, PR.bind_err] at hX1
            have hn1 := name_any pb a cap T ar dep r2 w2 hs2
            rw [hnm] at hn1
            have HX1 := Lib.hid hX1
            clear hX hX1 hnm hs2
            refine hn1.mono ?_
            rintro e w3 ⟨rfl, x3⟩
            unfold failE
            go_wp2
            exact ⟨rfl, by rw [HX1.out]; exact rfl, x2.out.trans x3⟩
        · clear hX0
          go_wp2_with (go_at_call 34; refine HTK.out.mono ?_; rintro e w2 ⟨rfl, hs2, x2⟩)
          have hown2 := Lib.hid (own_but hown.out x2 HLT.out)
          replace x2 := Lib.hid (hb.out.trans x2)
          clear HTK hown hs hb
          rcases hcm : pMark (lastL T) [44] r with ⟨u, r1⟩ | ⟨ln, er⟩
          · have hX1 := hcase.out
            rw [hcm, PR.bind_ok] at hX1
            have hn1 := mark_l pb a cap T ar dep r ⟨#[44]⟩ [44] rfl w2 hs2
            rw [hcm] at hn1
            have hl0 := pMark_len hcm
            have hX := Lib.hid hX1
            clear hcase hX1 hcm hs2
            refine hn1.mono ?_
            rintro e w1' ⟨⟨_, rfl, rfl, hs1'⟩, x1'⟩
            clear hn1
            have hown1 := Lib.hid (own_but hown2.out x1' HLT.out)
            replace x1' := Lib.hid (x2.out.trans x1')
            clear x2 hown2
            obtain ⟨r2, hr2⟩ : ∃ r2, r2 = r1 := ⟨_, rfl⟩
            rw [← hr2] at hs1' hX hl0
            clear hr2 r1
            have hs2 := hs1'
            have x2 := x1'
            have hown2 := hown1
            clear hs1' x1' hown1
            go_wp2_with fail
            rcases hnm : pName (lastL T) r2 with ⟨k, r3⟩ | ⟨ln, er⟩
            · have hX1 := hX.out
              rw [pAttr, hnm, PR.bind_ok] at hX1
              have hn1 := name_any pb a cap T ar dep r2 w1' hs2
              rw [hnm] at hn1
              have HX1 := Lib.hid hX1
              have hl1 := pName_len hnm
              clear hX hX1 hnm hs2
              refine hn1.mono ?_
              rintro e w3 ⟨⟨_, rfl, rfl, hs3⟩, x3⟩
              clear hn1
              have hown3 := Lib.hid (own_but hown2.out x3 HLT.out)
              replace x3 := Lib.hid (x2.out.trans x3)
              clear x2 hown2
              go_wp2_with fail
              rcases hmm : pMark (lastL T) [61] r3 with ⟨v, r4⟩ | ⟨ln, er⟩
              · have hX1 := HX1.out
                rw [hmm, PR.bind_ok] at hX1
                have hn1 := mark_l pb a cap T ar dep r3 ⟨#[61]⟩ [61] rfl w3 hs3
                rw [hmm] at hn1
                have HX2 := Lib.hid hX1
                have hl2 := pMark_len hmm
                clear HX1 hX1 hmm hs3
                refine hn1.mono ?_
                rintro e w4 ⟨⟨_, rfl, rfl, hs4⟩, x4⟩
                clear hn1
                have hown4 := Lib.hid (own_but hown3.out x4 HLT.out)
                replace x4 := Lib.hid (x3.out.trans x4)
                clear x3 hown3
                go_wp2_with fail
                rcases hvv : pVal (lastL T) r4 with ⟨v, r5⟩ | ⟨ln, er⟩
                · have hX1 := HX2.out
                  rw [hvv, PR.bind_ok, PR.bind_ok] at hX1
                  have hn1 := value_any pb a cap T ar dep r4 w4 hs4
                  rw [hvv] at hn1
                  have HX3 := Lib.hid hX1
                  have hl3 := pVal_len hvv
                  clear HX2 hX1 hvv hs4
                  refine hn1.mono ?_
                  rintro e w5 ⟨⟨_, rfl, rfl, hs5⟩, x5⟩
                  clear hn1
                  have hown5 := Lib.hid (own_but hown4.out x5 HLT.out)
                  replace x5 := Lib.hid (x4.out.trans x5)
                  clear x4 hown4
                  have hsz := x5.out.size
                  go_wp2_with (at_builtin; refine wpList_append_own _ rfl _ _ 35 rfl w.heap.size 61 i0 _ 2 32 Tryz.underlying35 hi hz0 hz1 hz2 rfl (by decide) _ _ _ rfl (own_ext' hown5.out ((Ext.refl w5).alloc _)) ⟨w5.heap.size, 0, none⟩ 1 1 [.string k, .string v] rfl rfl ?c1 ?c2 ?c3 ?c4 ?c5 ?_)
                  case c1 => exact World.news_of_block (cs := #[.string k, .string v]) (t := 61) (fr := (0, 0)) (heap_alloc_new w5 _)
                  case c2 => simp [Value.oneCell']
                  case c3 => unfold maxLen; omega
                  case c4 => omega
                  case c5 => simp; omega
                  intro v' w6 hown' hgrow _
                  have hrow : ∀ q, Value.ownBlock (.slice ao n c) = some q → w.heap.size ≤ q := fun q hq => (hown5.out.lt q hq).1
                  have hs6 := Lib.hid (((hs5.ext ((Ext.refl w5).alloc (.cells #[.string k, .string v] 61))).below (Below.grown (Below.refl w.heap.size _) hgrow (by simp; omega) hrow) HLT.out))
                  have x6 := Lib.hid (But.grown (x5.out.alloc (.cells #[.string k, .string v] 61)) hgrow hrow)
                  have hown6 : Hid (w6.ownsRow w.heap.size 61 2 v' (n + 1) (twosC (out ++ [(k, v)]))) := Lib.hid (by rw [twosC_snoc]; exact hown')
                  clear hown' hgrow hrow hown5 x5 hs5
                  obtain ⟨ao', c', rfl⟩ := own_slice hown6.out
                  go_wp2
                  go_roundw
                  case rel => exact ⟨ao', n + 1, c', out ++ [(k, v)], r5, f, rfl, by rw [List.length_append, ← hn.out]; rfl, by omega, by omega, hs6, x6, hown6, HX3⟩
                  case measure => simp only [slen]; omega
                · have hX1 := HX2.out
                  rw [hvv, PR.bind_err, PR.bind_err] at hX1
                  have hn1 := value_any pb a cap T ar dep r4 w4 hs4
                  rw [hvv] at hn1
                  have HX3 := Lib.hid hX1
                  clear HX2 hX1 hvv hs4
                  refine hn1.mono ?_
                  rintro e w5 ⟨rfl, x5⟩
                  unfold failE
                  go_wp2
                  exact ⟨rfl, by rw [HX3.out]; exact rfl, x4.out.trans x5⟩
              · have hX1 := HX1.out
                rw [hmm, PR.bind_err, PR.bind_err] at hX1
                have hn1 := mark_l pb a cap T ar dep r3 ⟨#[61]⟩ [61] rfl w3 hs3
                rw [hmm] at hn1
                have HX2 := Lib.hid hX1
                clear HX1 hX1 hmm hs3
                refine hn1.mono ?_
                rintro e w4 ⟨rfl, x4⟩
                unfold failE
                go_wp2
                exact ⟨rfl, by rw [HX2.out]; exact rfl, x3.out.trans x4⟩
            · have hX1 := hX.out
              rw [pAttr, hnm, PR.bind_err, PR.bind_err] at hX1
              have hn1 := name_any pb a cap T ar dep r2 w1' hs2
              rw [hnm] at hn1
              have HX1 := Lib.hid hX1
              clear hX hX1 hnm hs2
              refine hn1.mono ?_
              rintro e w3 ⟨rfl, x3⟩
              unfold failE
              go_wp2
              exact ⟨rfl, by rw [HX1.out]; exact rfl, x2.out.trans x3⟩
          · have hX1 := hcase.out
            rw [hcm, PR.bind_err] at hX1
            have hn1 := mark_l pb a cap T ar dep r ⟨#[44]⟩ [44] rfl w2 hs2
            rw [hcm] at hn1
            have HX1 := Lib.hid hX1
            clear hcase hX1 hcm hs2
            refine hn1.mono ?_
            rintro e w3 ⟨rfl, x3⟩
            unfold failE
            go_wp2
            exact ⟨rfl, by rw [HX1.out]; exact rfl, x2.out.trans x3⟩
  · have hX := HX.out
    rw [hm, PR.bind_err] at hX
    replace HX := Lib.hid hX
    have hm1 := mark_l pb a cap T ar dep r ⟨#[91]⟩ [91] rfl w HS.out
    rw [hm] at hm1
    have HM := Lib.hid hm1
    clear hX hm hm1
    go_enter Tryz.func26, Tryz.ntmps26
    go_wp2_with (go_at_call 42; refine HM.out.mono ?_; rintro e w1 ⟨rfl, x1⟩; unfold failE)
    exact ⟨rfl, by rw [HX.out]; exact rfl, x1⟩
end Go.Proofs.YtmallladeidkpaaGreatDoor.Pa
