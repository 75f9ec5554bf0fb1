/- Packed texts: NorLawO, ParRow, NorIgnA, NorBare -/
import Derived.Test.YtnancphlkbfglaaGreatDoorPn37
import Derived.Test.YtnancphlkbfglaaGreatDoorPn38
import Derived.Laws.StructEq
import Derived.Test.YtnancphlkbfglaaGreatDoorPn30
import Derived.Test.YtnancphlkbfglaaGreatDoorPn19
import Derived.Test.YtnancphlkbfglaaGreatDoorPn34
import Derived.Test.YtnancphlkbfglaaGreatDoorPn31
set_option linter.unusedVariables false
set_option linter.unusedSimpArgs false
/- NormalizeOptions, walked. -/
namespace Go.Proofs.YtnancphlkbfglaaGreatDoor.Nm
open Go.RowKit Go.Sort Go.Lib Go.Shelf Fx Lx Tr At Pa

theorem cells5a {w : World} {g : Nat} {T : TypeId} {c0 c1 c2 c3 c4 : Value} (h : w.heap[g]? = some (.cells #[c0, c1, c2, c3, c4] T (0, 0))) (ob : Obj) :
    (w.alloc ob).cell? ⟨g, 0, none⟩ = some c0 ∧ (w.alloc ob).cell? ⟨g, 1, none⟩ = some c1 ∧ (w.alloc ob).cell? ⟨g, 2, none⟩ = some c2 ∧ (w.alloc ob).cell? ⟨g, 3, none⟩ = some c3 ∧ (w.alloc ob).cell? ⟨g, 4, none⟩ = some c4 := cells5g (At.heap_ext h ((Ext.refl w).alloc ob))
theorem few_bounds {L : List Stm} (h : fewB 0 L = true) : cntL L ≤ 1099511627776 ∧ ∀ p ∈ flatL 0 L, p.1.refs.length ≤ 10 ∧ p.1.attrs.length ≤ 20 := by
  have := few_flat h
  rw [cntL_flat] at this
  exact this
set_option maxHeartbeats 4000000 in
set_option maxRecDepth 100000 in
theorem opts_walk (nm : ByteArray) (dir : Bool) (b : Option Addr) (L : List Stm) (cap : Nat) (w : World) (h : StmsAt w.heap.size w b L) (hlen : L.length ≤ maxLen) (hbig : BigL L) (hnm : nm.size ≤ 9223372036854775807) (he : Env w) :
    Calls Tryz.prog 6 #[.agg #[.string nm, .bool dir, .slice b L.length cap]] w fun e w' => e = .returned (.bool true) ∧ Ext w w' := by
  have hfw := fun (w5 : World) (x : Ext w w5) => few_any (sizeL L) L b cap w.heap.size 0 w5 (Nat.le_refl _) hlen (by omega) x.size (StmsAt.below x L h)
  have hawk := fun (w5 : World) (x : Ext w w5) => awake_any w5 (he.ext x)
  have hop := fun (hf : fewB 0 L = true) (w5 : World) (x : Ext w w5) => optsP_any nm dir b L cap w.heap.size w5 x.size (StmsAt.below x L h) hlen (few_bounds hf).1 hbig hnm (few_bounds hf).2 (he.ext x)
  have hod := fun (hf : fewB 0 L = true) (w5 : World) (x : Ext w w5) => optsD_any nm dir b L cap w.heap.size w5 x.size (StmsAt.below x L h) hlen (few_bounds hf).1 hbig hnm (few_bounds hf).2
  have hok := fun o => @options_ok nm L o
  obtain ⟨F, hF⟩ : ∃ F, F = fewB 0 L := ⟨_, rfl⟩
  obtain ⟨R, hR⟩ : ∃ R, R = optionsT nm L := ⟨_, rfl⟩
  rw [← hF] at hop hod
  simp only [← hF] at hfw
  simp only [← hR] at hop hod hok
  obtain ⟨N, hN⟩ : ∃ N, N = L.length := ⟨_, rfl⟩
  simp only [← hN] at hfw hop hod
  rw [← hN]
  have HFW := Lib.hid hfw; have HAWK := Lib.hid hawk; have HOP := Lib.hid hop; have HOD := Lib.hid hod; have HOK := Lib.hid hok
  have X0 : Hid (Ext w (w.alloc (.cells #[.string nm, .bool dir, .slice b N cap] 24))) := Lib.hid ((Ext.refl _).alloc _)
  clear hfw hawk hop hod hok hF hR hN h hlen hbig hnm he
  cases F with
  | false =>
    go_enter Tryz.func6, Tryz.ntmps6
    go_wp2_with (first
      | (go_at_call 8; refine Calls.mono (by exact HFW.out _ X0.out) ?_; rintro e w1 ⟨rfl, x1⟩; have X1 := Lib.hid (X0.out.trans x1))
      | (go_at_call 9; refine Calls.mono (by with_reducible exact HAWK.out _ X1.out) ?_; rintro e w2 ⟨rfl, x2⟩))
    go_returns
    exact ⟨rfl, X1.out.trans x2⟩
  | true =>
    have HP := Lib.hid (HOP.out rfl); have HD := Lib.hid (HOD.out rfl)
    clear HOP HOD
    cases R with
    | error er =>
      go_enter Tryz.func6, Tryz.ntmps6
      go_wp2_with (first
        | (go_at_call 8; refine Calls.mono (by exact HFW.out _ X0.out) ?_; rintro e w1 ⟨rfl, x1⟩; have X1 := Lib.hid (X0.out.trans x1); have HB1 := Lib.hid (At.heap_ext (heap_alloc_new w _) x1); have t0 : w1.cell? ⟨w.heap.size, 0, none⟩ = some (.string nm) := (by rw [Lib.cell_of_heap HB1.out]; rfl); have t1 : w1.cell? ⟨w.heap.size, 1, none⟩ = some (.bool dir) := (by rw [Lib.cell_of_heap HB1.out]; rfl); have t2 : w1.cell? ⟨w.heap.size, 2, none⟩ = some (.slice b N cap) := (by rw [Lib.cell_of_heap HB1.out]; rfl))
        | (go_at_call 18; refine Calls.mono (by with_reducible exact HP.out _ X1.out) ?_; rintro e w2 ⟨⟨rfl, her⟩, x2⟩; obtain ⟨g1, g2⟩ := nfacts her; have X2 := Lib.hid (X1.out.trans x2); have u0 := fun ob => (x2.alloc ob).cell t0; have u1 := fun ob => (x2.alloc ob).cell t1; have u2 := fun ob => (x2.alloc ob).cell t2; unfold opV; dsimp only)
        | (go_at_call 20; refine Calls.mono (by with_reducible exact HD.out _ (X2.out.alloc _)) ?_; rintro e w3 ⟨⟨rfl, -⟩, x3⟩; have X3 := Lib.hid ((X2.out.alloc _).trans x3); have HC3 := Lib.hid (At.heap_ext (heap_alloc_new w2 (.cells #[.int .i64 0, .int .i64 0, .int .i64 0, .int .i64 0, .int .i64 0] 48)) x3); have y0 := fun ob => (cells5a HC3.out ob).1; have y1 := fun ob => (cells5a HC3.out ob).2.1; have y2 := fun ob => (cells5a HC3.out ob).2.2.1; have y3 := fun ob => (cells5a HC3.out ob).2.2.2.1; have y4 := fun ob => (cells5a HC3.out ob).2.2.2.2; unfold opV; dsimp only)
        | (go_at_call 9; refine Calls.mono (by with_reducible exact HAWK.out _ (X3.out.alloc _)) ?_; rintro e w4 ⟨rfl, x4⟩))
      go_returns
      exact ⟨rfl, (X3.out.alloc _).trans x4⟩
    | ok o =>
      have hvo := fun w5 => vopP_any o w5
      rw [show okOb o = true from okOb_of (HOK.out o rfl)] at hvo
      have HPO := Lib.hid (show ∀ (w5 : World), Ext w w5 → Calls Tryz.prog 18 #[.agg #[.string nm, .bool dir, .slice b N cap]] w5 fun e w' => e = .returned (.tuple #[opV o, .int .i64 0]) ∧ Ext w5 w' from HP.out)
      have HDO := Lib.hid (show ∀ (w5 : World), Ext w w5 → Calls Tryz.prog 20 #[.agg #[.string nm, .bool dir, .slice b N cap]] w5 fun e w' => e = .returned (.tuple #[opV o, .int .i64 0]) ∧ Ext w5 w' from HD.out)
      obtain ⟨m, a, b2, c, d⟩ := o
      unfold opV at hvo HPO HDO
      dsimp only at hvo HPO HDO
      have HVO := Lib.hid hvo
      clear hvo HP HD HOK
      go_enter Tryz.func6, Tryz.ntmps6
      go_wp2_with (first
        | (go_at_call 8; refine Calls.mono (by exact HFW.out _ X0.out) ?_; rintro e w1 ⟨rfl, x1⟩; have X1 := Lib.hid (X0.out.trans x1); have HB1 := Lib.hid (At.heap_ext (heap_alloc_new w _) x1); have t0 : w1.cell? ⟨w.heap.size, 0, none⟩ = some (.string nm) := (by rw [Lib.cell_of_heap HB1.out]; rfl); have t1 : w1.cell? ⟨w.heap.size, 1, none⟩ = some (.bool dir) := (by rw [Lib.cell_of_heap HB1.out]; rfl); have t2 : w1.cell? ⟨w.heap.size, 2, none⟩ = some (.slice b N cap) := (by rw [Lib.cell_of_heap HB1.out]; rfl))
        | (go_at_call 18; refine Calls.mono (by with_reducible exact HPO.out _ X1.out) ?_; rintro e w2 ⟨rfl, x2⟩; have X2 := Lib.hid (X1.out.trans x2); have u0 := fun ob => (x2.alloc ob).cell t0; have u1 := fun ob => (x2.alloc ob).cell t1; have u2 := fun ob => (x2.alloc ob).cell t2)
        | (go_at_call 20; refine Calls.mono (by with_reducible exact HDO.out _ (X2.out.alloc _)) ?_; rintro e w3 ⟨rfl, x3⟩; have X3 := Lib.hid ((X2.out.alloc _).trans x3); have HC3 := Lib.hid (At.heap_ext (heap_alloc_new w2 (.cells #[.int .i64 m, .int .i64 a, .int .i64 b2, .int .i64 c, .int .i64 d] 48)) x3); have y0 := fun ob => (cells5a HC3.out ob).1; have y1 := fun ob => (cells5a HC3.out ob).2.1; have y2 := fun ob => (cells5a HC3.out ob).2.2.1; have y3 := fun ob => (cells5a HC3.out ob).2.2.2.1; have y4 := fun ob => (cells5a HC3.out ob).2.2.2.2)
        | (go_at_call 21; refine Calls.mono (by with_reducible exact HVO.out _) ?_; rintro e w4 ⟨rfl, x4⟩; have X4 := Lib.hid ((X3.out.alloc _).trans x4))
        | (go_at_call 9; refine Calls.mono (by with_reducible exact HAWK.out _ X4.out) ?_; rintro e w6 ⟨rfl, x6⟩))
      go_returns
      exact ⟨rfl, X4.out.trans x6⟩
theorem opts_card (v : Value) (w : World) (hv : TreeArg w v) (he : Env w) : Calls Tryz.prog 6 #[v] w fun e w' => e = .returned (.bool true) ∧ Ext w w' := by
  obtain ⟨nm, dir, b, L, cap, rfl, h1, h2, h3, h4⟩ := hv
  exact opts_walk nm dir b L cap w h1 h2 h3 (by unfold reachN at h4; omega) he
end Go.Proofs.YtnancphlkbfglaaGreatDoor.Nm

/- Lists of pairs and of statements in memory, off some blocks; rows that grow while one block turns. -/
namespace Go.Proofs.YtnancphlkbfglaaGreatDoor.Pa
open Go.RowKit Go.Sort Go.Lib Go.Shelf Fx Lx Tr

theorem own_but {c : Nat} {w w' : World} {B : Nat} {e : TypeId} {sz : Nat} {v : Value} {n : Nat} {xs : List Value} (h : w.ownsRow B e sz v n xs) (x : But c w w') (hB : c < B) : w'.ownsRow B e sz v n xs := by
  refine ⟨h.1, ?_⟩
  rcases h.2 with h1 | ⟨g, cap, cur, hv, hb, hg, r⟩
  · exact .inl h1
  · exact .inr ⟨g, cap, cur, hv, hb, (x.block g (Array.getElem?_eq_some_iff.1 hg).1 (by omega)).trans hg, r⟩
theorem But.grown {c : Nat} {a w w' : World} {row : Option Nat} (h : But c a w) (hg : w.grownBy w' row) (hr : ∀ k, row = some k → a.heap.size ≤ k) : But c a w' :=
  ⟨hg.os.trans h.os, hg.tape.trans h.tape, hg.output.trans h.output, Nat.le_trans h.size hg.size, fun k hk hc => (hg.block k (Nat.lt_of_lt_of_le hk h.size) (fun e => by have := hr k e.symm; omega)).trans (h.block k hk hc)⟩
/-- A list of pairs of texts behind a slice, in blocks of a kind. -/
def TwoP (ok : Nat → Prop) (w : World) (a : Option Addr) (L : List Two) : Prop :=
  ∀ k (h : k < L.length), ∃ g o, a = some ⟨g, o, none⟩ ∧ ok g ∧ w.cell? ⟨g, o + k * 2, none⟩ = some (.string L[k].1) ∧ w.cell? ⟨g, o + k * 2 + 1, none⟩ = some (.string L[k].2)
/-- What the blocks of a kind hold has not turned. -/
def Kept (ok : Nat → Prop) (w w' : World) : Prop := ∀ g, ok g → g < w.heap.size → w'.heap[g]? = w.heap[g]?
theorem Kept.cell {ok : Nat → Prop} {w w' : World} (h : Kept ok w w') {p : Addr} {v : Value} (hp : ok p.block) (hv : w.cell? p = some v) : w'.cell? p = some v := by
  rw [World.cell?_of_block (w := w) (h _ hp (World.block_lt_of_cell? _ _ hv))]; exact hv
theorem TwoP.keep {ok ok' : Nat → Prop} {w w' : World} {a : Option Addr} {L : List Two} (h : TwoP ok w a L) (k : Kept ok w w') (ho : ∀ g, ok g → g < w.heap.size → ok' g) : TwoP ok' w' a L := fun i hi => by
  obtain ⟨g, o, ha, hg, h0, h1⟩ := h i hi
  exact ⟨g, o, ha, ho g hg (World.block_lt_of_cell? _ ⟨g, _, none⟩ h0), k.cell (p := ⟨g, _, none⟩) hg h0, k.cell (p := ⟨g, _, none⟩) hg h1⟩
theorem TwoP.at {ok : Nat → Prop} {w : World} {a : Option Addr} {L : List Two} {n : Nat} (h : TwoP ok w a L) (ho : ∀ g, ok g → g < n) : TwoAt n w a L := fun i hi => by
  obtain ⟨g, o, ha, hg, h0, h1⟩ := h i hi
  exact ⟨g, o, ha, ho g hg, h0, h1⟩
def twosC (L : List Two) : List Value := L.flatMap fun q => [.string q.1, .string q.2]
theorem twosC_snoc (L : List Two) (q : Two) : twosC (L ++ [q]) = twosC L ++ [.string q.1, .string q.2] := by unfold twosC; simp
theorem twosC_at : ∀ (L : List Two) (k : Nat) (h : k < L.length), (twosC L)[k * 2]? = some (.string L[k].1) ∧ (twosC L)[k * 2 + 1]? = some (.string L[k].2)
  | [], k, h => absurd h (by simp)
  | q :: L, 0, _ => ⟨rfl, rfl⟩
  | q :: L, k + 1, h => by
    have ih := twosC_at L k (by simpa using h)
    have e : twosC (q :: L) = .string q.1 :: .string q.2 :: twosC L := rfl
    rw [e, show (k + 1) * 2 = k * 2 + 1 + 1 by omega]
    simpa using ih
/-- A slice of pairs that a part of the parser answers. -/
def TwoV (ok : Nat → Prop) (L : List Two) (u : Value) (w : World) : Prop := ∃ a cap, u = .slice a L.length cap ∧ TwoP ok w a L ∧ L.length ≤ cap ∧ cap ≤ maxLen
theorem add_at (g j : Nat) : (⟨g, 0, none⟩ : Addr).add j = ⟨g, j, none⟩ := by simp [Addr.add]; exact fun h => h.symm
theorem own_two {w : World} {B : Nat} {e : TypeId} {v : Value} {L : List Two} (h : w.ownsRow B e 2 v L.length (twosC L)) : TwoV (B ≤ ·) L v w := by
  rcases h.2 with ⟨h1, h2⟩ | ⟨g, cap, cur, hv, hb, hg, hn, hc, _⟩
  · exact ⟨none, 0, by rw [h1, h2], fun k hk => absurd hk (by omega), by omega, by omega⟩
  · refine ⟨_, cap, hv, fun k hk => ⟨g, 0, rfl, hb, ?_, ?_⟩, hn, hc⟩
    · have := h.cells (g := g) (by rw [hv]; rfl) _ _ (twosC_at L k hk).1
      rw [add_at] at this; rw [Nat.zero_add]; exact this
    · have := h.cells (g := g) (by rw [hv]; rfl) _ _ (twosC_at L k hk).2
      rw [add_at] at this; rw [Nat.zero_add]; exact this
theorem twoV_nil (ok : Nat → Prop) (w : World) : TwoV ok [] (.slice none 0 0) w := ⟨none, 0, rfl, fun k hk => absurd hk (by simp), by simp, by simp⟩
mutual
/-- The five cells of a statement, and what they lead to, in blocks of a kind. -/
def StmP (ok : Nat → Prop) (w : World) : Stm → List Value → Prop
  | .mk k nm rs al body, xs => ∃ r rc a ac b bc, xs = [.int .i64 k, .string nm, .slice r rs.length rc, .slice a al.length ac, .slice b body.length bc] ∧
      TwoP ok w r rs ∧ TwoP ok w a al ∧ StmsP ok w b body ∧ rs.length ≤ rc ∧ al.length ≤ ac ∧ rc ≤ maxLen ∧ ac ≤ maxLen ∧ body.length ≤ maxLen
/-- A list of statements behind a slice. -/
def StmsP (ok : Nat → Prop) (w : World) (b : Option Addr) : List Stm → Prop
  | [] => True
  | x :: r => ∃ g o xs, b = some ⟨g, o, none⟩ ∧ ok g ∧ (∀ j u, xs[j]? = some u → w.cell? ⟨g, o + j, none⟩ = some u) ∧ StmP ok w x xs ∧ StmsP ok w (some ⟨g, o + 5, none⟩) r
end
theorem stmP_mk (ok : Nat → Prop) (w : World) (s : Stm) (xs : List Value) : StmP ok w s xs ↔ ∃ r rc a ac b bc, xs = [.int .i64 s.kind, .string s.name, .slice r s.refs.length rc, .slice a s.attrs.length ac, .slice b s.body.length bc] ∧
      TwoP ok w r s.refs ∧ TwoP ok w a s.attrs ∧ StmsP ok w b s.body ∧ s.refs.length ≤ rc ∧ s.attrs.length ≤ ac ∧ rc ≤ maxLen ∧ ac ≤ maxLen ∧ s.body.length ≤ maxLen := by
  cases s; rw [StmP]; rfl
mutual
theorem StmP.keep {ok ok' : Nat → Prop} {w w' : World} (k : Kept ok w w') (ho : ∀ g, ok g → g < w.heap.size → ok' g) : ∀ (s : Stm) (xs : List Value), StmP ok w s xs → StmP ok' w' s xs
  | .mk kd nm rs al body, xs, h => by
    rw [StmP] at h ⊢
    obtain ⟨r, rc, a, ac, b, bc, hx, hr, ha, hb, hl⟩ := h
    exact ⟨r, rc, a, ac, b, bc, hx, hr.keep k ho, ha.keep k ho, StmsP.keep k ho body b hb, hl⟩
theorem StmsP.keep {ok ok' : Nat → Prop} {w w' : World} (k : Kept ok w w') (ho : ∀ g, ok g → g < w.heap.size → ok' g) : ∀ (L : List Stm) (b : Option Addr), StmsP ok w b L → StmsP ok' w' b L
  | [], _, _ => by rw [StmsP]; trivial
  | s :: L, b, h => by
    rw [StmsP] at h ⊢
    obtain ⟨g, o, xs, hb, hg, hc, hs, hr⟩ := h
    have h0 : ∃ u, xs[0]? = some u := by
      obtain ⟨r, rc, a, ac, b, bc, hx, _⟩ := (stmP_mk ok w s xs).1 hs
      exact ⟨_, by rw [hx]; rfl⟩
    obtain ⟨u, hu⟩ := h0
    exact ⟨g, o, xs, hb, ho g hg (World.block_lt_of_cell? _ ⟨g, _, none⟩ (hc 0 u hu)), fun j u hj => k.cell (p := ⟨g, _, none⟩) hg (hc j u hj), StmP.keep k ho s xs hs, StmsP.keep k ho L _ hr⟩
end
mutual
theorem StmP.at {ok : Nat → Prop} {w : World} {n : Nat} (ho : ∀ g, ok g → g < n) : ∀ (s : Stm) (xs : List Value) (g o : Nat), StmP ok w s xs → (∀ j u, xs[j]? = some u → w.cell? ⟨g, o + j, none⟩ = some u) → StmAt n w g o s
  | .mk kd nm rs al body, xs, g, o, h, hc => by
    rw [StmP] at h
    rw [StmAt]
    obtain ⟨r, rc, a, ac, b, bc, hx, hr, ha, hb, hl⟩ := h
    subst hx
    exact ⟨r, rc, a, ac, b, bc, hc 0 _ rfl, hc 1 _ rfl, hc 2 _ rfl, hc 3 _ rfl, hc 4 _ rfl, hr.at ho, ha.at ho, StmsP.at ho body b hb, hl⟩
theorem StmsP.at {ok : Nat → Prop} {w : World} {n : Nat} (ho : ∀ g, ok g → g < n) : ∀ (L : List Stm) (b : Option Addr), StmsP ok w b L → StmsAt n w b L
  | [], _, _ => by rw [StmsAt]; trivial
  | s :: L, b, h => by
    rw [StmsP] at h
    rw [StmsAt]
    obtain ⟨g, o, xs, hb, hg, hc, hs, hr⟩ := h
    exact ⟨g, o, hb, ho g hg, StmP.at ho s xs g o hs hc, StmsP.at ho L _ hr⟩
end
/-- The cells of a row of statements. -/
def StmsC (ok : Nat → Prop) (w : World) : List Stm → List Value → Prop
  | [], X => X = []
  | s :: L, X => ∃ xs Y, X = xs ++ Y ∧ xs.length = 5 ∧ StmP ok w s xs ∧ StmsC ok w L Y
theorem StmsC.snoc {ok : Nat → Prop} {w : World} {s : Stm} {xs : List Value} (hs : StmP ok w s xs) (hl : xs.length = 5) : ∀ (L : List Stm) (X : List Value), StmsC ok w L X → StmsC ok w (L ++ [s]) (X ++ xs)
  | [], X, h => by
    have h : X = [] := h
    subst h
    exact ⟨xs, [], by simp, hl, hs, rfl⟩
  | t :: L, X, h => by
    obtain ⟨ys, Y, hX, h5, ht, hr⟩ := h
    exact ⟨ys, Y ++ xs, by rw [hX, List.append_assoc], h5, ht, StmsC.snoc hs hl L Y hr⟩
theorem StmsC.keep {ok ok' : Nat → Prop} {w w' : World} (k : Kept ok w w') (ho : ∀ g, ok g → g < w.heap.size → ok' g) : ∀ (L : List Stm) (X : List Value), StmsC ok w L X → StmsC ok' w' L X
  | [], _, h => h
  | s :: L, X, h => by
    obtain ⟨xs, Y, hX, hl, hs, hr⟩ := h
    exact ⟨xs, Y, hX, hl, StmP.keep k ho s xs hs, StmsC.keep k ho L Y hr⟩
theorem StmsC.at {ok : Nat → Prop} {w : World} {g : Nat} (hg : ok g) : ∀ (L : List Stm) (X : List Value) (o : Nat), StmsC ok w L X → (∀ j u, X[j]? = some u → w.cell? ⟨g, o + j, none⟩ = some u) → StmsP ok w (some ⟨g, o, none⟩) L
  | [], _, _, _, _ => by rw [StmsP]; trivial
  | s :: L, X, o, h, hc => by
    obtain ⟨xs, Y, hX, hl, hs, hr⟩ := h
    rw [StmsP]
    refine ⟨g, o, xs, rfl, hg, fun j u hj => hc j u ?_, hs, StmsC.at hg L Y (o + 5) hr fun j u hj => ?_⟩
    · rw [hX, List.getElem?_append_left (List.getElem?_eq_some_iff.1 hj).1]; exact hj
    · have := hc (5 + j) u (by rw [hX, List.getElem?_append_right (by omega), hl, Nat.add_sub_cancel_left]; exact hj)
      rw [Nat.add_assoc]; exact this
/-- A slice of statements that a part of the parser answers. -/
def StmsV (ok : Nat → Prop) (L : List Stm) (u : Value) (w : World) : Prop := ∃ b cap, u = .slice b L.length cap ∧ StmsP ok w b L ∧ L.length ≤ cap ∧ cap ≤ maxLen
theorem own_stms {w : World} {B : Nat} {e : TypeId} {v : Value} {L : List Stm} {X : List Value} {ok ok' : Nat → Prop} (h : w.ownsRow B e 5 v L.length X) (hc : StmsC ok w L X) (ho : ∀ g, ok g → ok' g) (hB : ∀ g, B ≤ g → ok' g) : StmsV ok' L v w := by
  rcases h.2 with ⟨h1, h2⟩ | ⟨g, cap, cur, hv, hb, hg, hn, hcap, _⟩
  · have hL : L = [] := List.eq_nil_of_length_eq_zero h2
    subst hL
    exact ⟨none, 0, by rw [h1]; rfl, by rw [StmsP]; trivial, by simp, by simp⟩
  · refine ⟨_, cap, hv, StmsC.at (hB g hb) L X 0 (StmsC.keep (fun _ _ _ => rfl) (fun g h _ => ho g h) L X hc) fun j u hj => ?_, hn, hcap⟩
    have := h.cells (g := g) (by rw [hv]; rfl) j u hj
    rw [add_at] at this; rw [Nat.zero_add]; exact this
/-- A statement that a part of the parser answers. -/
def StmV (ok : Nat → Prop) (s : Stm) (u : Value) (w : World) : Prop := ∃ xs, u = .agg xs.toArray ∧ StmP ok w s xs
end Go.Proofs.YtnancphlkbfglaaGreatDoor.Pa

/- Rows of statements that the law makes: what they hold. -/
namespace Go.Proofs.YtnancphlkbfglaaGreatDoor.Nm
open Go.RowKit Go.Sort Go.Lib Go.Shelf Fx Lx Tr At Pa

mutual
theorem stmAt_p {n : Nat} {w : World} : ∀ (s : Stm) (g o : Nat), StmAt n w g o s → ∃ xs : List Value, xs.length = 5 ∧ StmP (· < n) w s xs ∧ ∀ j u, xs[j]? = some u → w.cell? ⟨g, o + j, none⟩ = some u
  | .mk k nm rs al body, g, o, h => by
    rw [StmAt] at h
    obtain ⟨r, rc, a, ac, b, bc, h0, h1, h2, h3, h4, hr, ha, hb, hl⟩ := h
    refine ⟨[.int .i64 k, .string nm, .slice r rs.length rc, .slice a al.length ac, .slice b body.length bc], rfl, ?_, ?_⟩
    · rw [StmP]; exact ⟨r, rc, a, ac, b, bc, rfl, hr, ha, stmsAt_p body b hb, hl⟩
    · intro j u hj
      rcases j with _ | _ | _ | _ | _ | j
      · rw [← Option.some.inj hj]; exact h0
      · rw [← Option.some.inj hj]; exact h1
      · rw [← Option.some.inj hj]; exact h2
      · rw [← Option.some.inj hj]; exact h3
      · rw [← Option.some.inj hj]; exact h4
      · cases hj
theorem stmsAt_p {n : Nat} {w : World} : ∀ (L : List Stm) (b : Option Addr), StmsAt n w b L → StmsP (· < n) w b L
  | [], _, _ => by rw [StmsP]; trivial
  | s :: L, b, h => by
    rw [StmsAt] at h
    obtain ⟨g, o, hb, hg, hs, hr⟩ := h
    obtain ⟨xs, -, h1, h2⟩ := stmAt_p s g o hs
    rw [StmsP]
    exact ⟨g, o, xs, hb, hg, h2, h1, stmsAt_p L _ hr⟩
end
theorem kept_ext {ok : Nat → Prop} {w w' : World} (x : Ext w w') : Kept ok w w' := fun g _ hg => x.block g hg
theorem twoAt_p {n : Nat} {w : World} {a : Option Addr} {L : List Two} (h : TwoAt n w a L) : TwoP (· < n) w a L := fun k hk => h k hk
theorem bareL_snoc : ∀ (L : List Stm) (x : Stm), bareL (L ++ [x]) = bareL L ++ (if x.kind = 4 then [] else [bareS x])
  | [], x => by rw [List.nil_append, bareL_cons, bareL_nil]; rfl
  | y :: r, x => by
    rw [List.cons_append, bareL_cons, bareL_cons, bareL_snoc r x]
    split <;> simp
/-- The blocks that a row's statements may lie in. -/
def OkB (nn B : Nat) (v : Value) : Nat → Prop := fun g => g < nn ∨ (B ≤ g ∧ some g ≠ v.ownBlock)
structure BarAt (B nn : Nat) (K : List Stm) (ov : Value) (wr : World) : Prop where
  own : ∃ X, wr.ownsRow B 56 5 ov K.length X ∧ StmsC (OkB nn B ov) wr K X
theorem BarAt.next {B nn : Nat} {K : List Stm} {ov : Value} {wr wA w7 : World} {X xs : List Value} {s : Stm} {g7 c7 : Nat} (own : wr.ownsRow B 56 5 ov K.length X) (hc : StmsC (OkB nn B ov) wr K X) (hn : nn ≤ B) (hB : B ≤ wr.heap.size) (x : Ext wr wA)
    (hs : StmP (fun g => g < nn ∨ wr.heap.size ≤ g) wA s xs) (hl : xs.length = 5) (hg : wA.grownBy w7 ov.ownBlock) (ho : w7.ownsRow B 56 5 (.slice (some ⟨g7, 0, none⟩) (K.length + 1) c7) (K.length + 1) (X ++ xs)) (hor : ov.ownBlock = some g7 ∨ g7 = wA.heap.size) :
    BarAt B nn (K ++ [s]) (.slice (some ⟨g7, 0, none⟩) (K.length + 1) c7) w7 := by
  have e : (Value.slice (some ⟨g7, 0, none⟩) (K.length + 1) c7).ownBlock = some g7 := rfl
  have hz := x.size
  refine ⟨X ++ xs, by rw [List.length_append]; exact ho, StmsC.snoc ?_ hl K X ?_⟩
  · refine StmP.keep (fun g hk hlt => hg.block g hlt fun e2 => ?_) (fun g hk hlt => ?_) s xs hs
    · have := own.lt g e2.symm
      omega
    · rcases hk with hk | hk
      · exact .inl hk
      · refine .inr ⟨by omega, ?_⟩
        rw [e]
        intro e3
        injection e3 with e3
        rcases hor with h | h
        · have := own.lt g7 h; omega
        · omega
  · refine StmsC.keep (fun g hk hlt => hg.block g hlt fun e2 => ?_) (fun g hk hlt => ?_) K X (StmsC.keep (kept_ext x) (fun g hk _ => hk) K X hc)
    · rcases hk with hk | hk
      · have := own.lt g e2.symm; omega
      · exact hk.2 e2
    · rcases hk with hk | hk
      · exact .inl hk
      · refine .inr ⟨hk.1, ?_⟩
        rw [e]
        intro e3
        injection e3 with e3
        rcases hor with h | h
        · exact hk.2 (by rw [h, e3])
        · omega
end Go.Proofs.YtnancphlkbfglaaGreatDoor.Nm

/- The law's bare. -/
namespace Go.Proofs.YtnancphlkbfglaaGreatDoor.Nm
open Go.RowKit Go.Sort Go.Lib Go.Shelf Fx Lx Tr At Pa

theorem info_stm : (Tryz.prog.info? 56).map (fun i => (i.zero, i.size, i.bytes)) = some (some (.agg #[.int .i64 0, .string ⟨#[]⟩, .slice none 0 0, .slice none 0 0, .slice none 0 0]), 5, 96) := by kernel_rfl
theorem ext_set_new {a w5 : World} {cs : Array Value} {T : TypeId} {j : Nat} (h : Ext a (a.alloc (.cells cs T))) (x : Ext (a.alloc (.cells cs T)) w5) (u : Value) : Ext a (w5.setCell ⟨a.heap.size, j, none⟩ u) := (h.trans x).setCell (Nat.le_refl _) u
theorem size_setC (w : World) (b j : Nat) (u : Value) : (w.setCell ⟨b, j, none⟩ u).heap.size = w.heap.size := by simp [World.setCell]
theorem keep_setS {nn B j : Nat} {w5 : World} {b : Option Addr} {L : List Stm} (hn : nn ≤ B) (h : StmsP (fun g => g < nn ∨ B + 1 ≤ g) w5 b L) (u : Value) (o : Obj) : StmsP (fun g => g < nn ∨ B ≤ g) ((w5.setCell ⟨B, j, none⟩ u).alloc o) b L :=
  StmsP.keep (fun g hk hlt => by
    rw [((Ext.refl (w5.setCell ⟨B, j, none⟩ u)).alloc o).block g (by rw [size_setC]; exact hlt)]
    exact Below.heap_setCell _ _ _ _ (fun e => by have e : g = B := by simpa using e
                                                  rcases hk with hk | hk <;> omega)) (fun g hk _ => hk.imp id (fun h => by omega)) L b h
def BareC (w0 : World) (nn M : Nat) : Prop :=
  ∀ (L : List Stm) (b : Option Addr) (cap : Nat) (w : World), cntL L ≤ M → cntL L ≤ 1099511627776 → StmsAt nn w0 b L → L.length ≤ maxLen → Ext w0 w →
    Calls Tryz.prog 17 #[.slice b L.length cap] w fun e w' => (∃ u, e = .returned u ∧ StmsV (fun g => g < nn ∨ w.heap.size ≤ g) (bareL L) u w') ∧ Ext w w'
set_option maxHeartbeats 8000000 in
set_option maxRecDepth 100000 in
theorem bare_step (w0 : World) (nn M : Nat) (hnn : nn ≤ w0.heap.size) (IH : ∀ M', M' < M → BareC w0 nn M') : BareC w0 nn M := by
  intro L b cap w hcM hcm hst hlen hx0
  obtain ⟨j0, hj, hjz0, hjz1, hjz2⟩ := info_parts info_stm
  obtain ⟨N, hN⟩ : ∃ N, N = L.length := ⟨_, rfl⟩
  have hlen2 : N ≤ 1099511627776 := by have := cntL_len L; omega
  have hnw : nn ≤ w.heap.size := Nat.le_trans hnn hx0.size
  have hC : Hid (BarAt w.heap.size nn (bareL (L.take 0)) (.slice none 0 0) w) := Lib.hid ⟨[], by rw [List.take_zero, bareL_nil]; exact World.ownsRow_nil _ _ _ _, by rw [List.take_zero, bareL_nil]; rfl⟩
  have hON : Hid (0 = (bareL (L.take 0)).length) := Lib.hid (by rw [List.take_zero, bareL_nil]; rfl)
  rw [← hN]
  have HST := Lib.hid hst; have HIH := Lib.hid IH; have HN := Lib.hid hN; have HCM := Lib.hid hcM; have HCm := Lib.hid hcm; have HNN := Lib.hid hnn; have HNW := Lib.hid hnw; have HX0 := Lib.hid hx0
  clear hst IH hN hcM hcm hnn hnw hx0 hlen
  go_enter Tryz.func17, Tryz.ntmps17
  go_wp2_with fail
  go_loopw [3, 4] (fun ov i' wr => ∃ (i : Nat) (oa : Option Addr) (oc ON : Nat), i ≤ N ∧ i' = .int .i64 i ∧ ov = .slice oa ON oc ∧ Hid (ON = (bareL (L.take i)).length) ∧ Hid (BarAt w.heap.size nn (bareL (L.take i)) (.slice oa ON oc) wr) ∧ Hid (Ext w wr)) (fun _ i' _ => N - (RowKit.intOf i').toNat)
  case atStart => exact ⟨0, none, 0, 0, Nat.zero_le _, rfl, rfl, hON, hC, Lib.hid (Ext.refl _)⟩
  case round =>
    clear hC hON
    obtain ⟨i, oa, oc, ON, hi, rfl, rfl, HON, hC, HX⟩ := hrel
    by_cases hlt : i < N
    · have hkl : i < L.length := by rw [← HN.out]; exact hlt
      have hx := HX0.out.trans HX.out
      obtain ⟨g, o, rfl, hg, hst⟩ := StmsAt.at L HST.out i hkl
      have hct := cntL_take L i hkl
      have hcle := cntL_le L (i + 1)
      obtain ⟨x, hxe⟩ : ∃ x, x = L[i] := ⟨_, rfl⟩
      have htk : x.kind ≠ 4 → bareL (L.take (i + 1)) = bareL (L.take i) ++ [bareS x] := fun h => by rw [List.take_succ_eq_append_getElem hkl, bareL_snoc, ← hxe, if_neg h]
      have ht4 : x.kind = 4 → bareL (L.take (i + 1)) = bareL (L.take i) := fun h => by rw [List.take_succ_eq_append_getElem hkl, bareL_snoc, ← hxe, if_pos h, List.append_nil]
      rw [← hxe] at hst hct
      obtain ⟨kind, nm, rs, al, body⟩ := x
      have hbs' : bareS (.mk kind nm rs al body) = .mk kind nm rs al (bareL body) := by rw [bareS]
      rw [hbs'] at htk
      simp only [Stm.kind] at htk ht4
      rw [StmAt] at hst
      obtain ⟨r, rc, a, ac, b', bc, c0', c1', c2', c3', c4', hr, ha, hbs, hl1, hl2, hl3, hl4, hl5⟩ := hst
      have c0 := hx.cell c0'; have c1 := hx.cell c1'; have c2 := hx.cell c2'; have c3 := hx.cell c3'; have c4 := hx.cell c4'
      have hcb := cntS_body (.mk kind nm rs al body)
      simp only [Stm.body] at hcb
      have hbM : cntL body < M := by have := HCM.out; rw [hcb] at hct; omega
      have hbm : cntL body ≤ 1099511627776 := by have := HCm.out; rw [hcb] at hct; omega
      have hih := fun (w5 : World) (x : Ext w0 w5) => HIH.out (M - 1) (by omega) body b' bc w5 (by omega) hbm hbs hl5 x
      have hbl := bareL_len body
      have hrp := twoAt_p hr
      have hap := twoAt_p ha
      have hstm := fun (wA : World) (b5 : Option Addr) (c5 : Nat) (x : Ext w0 wA) (h : StmsP (fun g => g < nn ∨ wr.heap.size ≤ g) wA b5 (bareL body)) => (stmP_mk (fun g => g < nn ∨ wr.heap.size ≤ g) wA (.mk kind nm rs al (bareL body)) [.int .i64 kind, .string nm, .slice r rs.length rc, .slice a al.length ac, .slice b5 (bareL body).length c5]).2 ⟨r, rc, a, ac, b5, c5, rfl, hrp.keep (kept_ext x) (fun g hg _ => .inl hg), hap.keep (kept_ext x) (fun g hg _ => .inl hg), h, hl1, hl2, hl3, hl4, by have := hl5; show (bareL body).length ≤ maxLen; omega⟩
      obtain ⟨RN, hRN⟩ : ∃ n, n = rs.length := ⟨_, rfl⟩
      obtain ⟨AN, hAN⟩ : ∃ n, n = al.length := ⟨_, rfl⟩
      obtain ⟨BN, hBN⟩ : ∃ n, n = body.length := ⟨_, rfl⟩
      obtain ⟨BM, hBM⟩ : ∃ n, n = bareL body := ⟨_, rfl⟩
      rw [← hRN] at c2; rw [← hAN] at c3; rw [← hBN] at c4
      simp only [← hBN, ← hBM] at hih
      simp only [← hRN, ← hAN, ← hBM] at hstm
      rw [← hBM] at htk
      have HIB := Lib.hid hih; have HX1 := Lib.hid hx; have HTK := Lib.hid htk; have HT4 := Lib.hid ht4; have HSTM := Lib.hid hstm
      have b0 : (0 : Int) ≤ (i : Int) := by omega
      have b1 : (i : Int) < (N : Int) := by omega
      clear c0' c1' c2' c3' c4' hr ha hbs hl1 hl2 hl3 hl4 hl5 hrp hap hstm hih hx htk ht4 hct hcle hcb hbM hbm hxe hg hRN hAN hBN hBM hbl hbs'
      by_cases h4 : kind = 4
      · subst h4
        have ht : Hid (bareL (L.take (i + 1)) = bareL (L.take i)) := Lib.hid (HT4.out rfl)
        go_wp2_with fail
        go_roundw
        case rel => exact ⟨i + 1, oa, oc, ON, by omega, by go_num, rfl, Lib.hid (by rw [ht.out]; exact HON.out), Lib.hid (by rw [ht.out]; obtain ⟨X, o1, o2⟩ := hC.out.own; exact ⟨X, At.own_ext o1 ((Ext.refl _).alloc _), StmsC.keep (kept_ext ((Ext.refl _).alloc _)) (fun g hk _ => hk) _ X o2⟩), Lib.hid (HX.out.alloc _)⟩
        case measure => simp [RowKit.intOf]; omega
      · have f4 : (kind == 4) = false := by rw [beq_eq_false_iff_ne]; exact h4
        have f4' : (kind != 4) = true := by rw [bne, f4]; rfl
        have ht : Hid (bareL (L.take (i + 1)) = bareL (L.take i) ++ [.mk kind nm rs al BM]) := Lib.hid (HTK.out h4)
        obtain ⟨X, hown, hrow⟩ := hC.out.own
        have OW := Lib.hid hown; have HR := Lib.hid hrow
        have hONl : ON ≤ i := by
          rw [HON.out]
          have := bareL_len (L.take i)
          have := List.length_take_le i L
          omega
        clear hown hrow HTK
        go_wp2_with (first
          | (go_at_call 17; refine Calls.mono (by with_reducible exact HIB.out _ (HX1.out.alloc _)) ?_; rintro e w5 ⟨⟨u, rfl, b5, c5, rfl, hsp, -, -⟩, x5⟩; have X5 := Lib.hid x5; have SP := Lib.hid hsp; have HB5 := Lib.hid (At.heap_ext (heap_alloc_new wr _) x5); have d4 := (cells5g HB5.out).2.2.2.2; have z4 := Lib.frozen_of_heap HB5.out 4; obtain ⟨t0, t1, t2, t3, t4⟩ := cells5g (show (w5.setCell ⟨wr.heap.size, 4, none⟩ (.slice b5 BM.length c5)).heap[wr.heap.size]? = some (.cells #[.int .i64 kind, .string nm, .slice r RN rc, .slice a AN ac, .slice b5 BM.length c5] 56 (0, 0)) from blk_set HB5.out 4 (.slice b5 BM.length c5)); have X6 := Lib.hid (ext_set_new (j := 4) ((Ext.refl wr).alloc _) x5 (.slice b5 BM.length c5)); clear x5 hsp)
          | (at_builtin; refine wpList_append_lies _ rfl _ _ 22 rfl w.heap.size 56 j0 _ 5 96 Tryz.underlying22 hj hjz0 hjz1 hjz2 rfl (by decide) _ _ _ rfl (At.own_ext OW.out (X6.out.alloc _)) ⟨w5.heap.size, 0, none⟩ 1 1 [.int .i64 kind, .string nm, .slice r RN rc, .slice a AN ac, .slice b5 BM.length c5] rfl rfl ?c1 ?c2 (by decide) ?c3 ?c4 ?c5 _ rfl ?_))
        case c1 => exact World.news_of_block (cs := #[.int .i64 kind, .string nm, .slice r RN rc, .slice a AN ac, .slice b5 BM.length c5]) (t := 56) (fr := (0, 0)) (by have h := heap_alloc_new (w5.setCell ⟨wr.heap.size, 4, none⟩ (.slice b5 BM.length c5)) (.cells #[.int .i64 kind, .string nm, .slice r RN rc, .slice a AN ac, .slice b5 BM.length c5] 56); rw [size_setC] at h; exact h)
        case c2 => intro u hu; simp at hu; rcases hu with rfl | rfl | rfl | rfl | rfl <;> rfl
        case c3 => rw [← HON.out]; unfold maxLen; omega
        case c4 => rw [← HON.out]; omega
        case c5 => have := HX.out.size; have := X5.out.size; simp at *; omega
        intro g7 c7 w7 hown1 hgrow hor _
        have hnx := BarAt.next OW.out HR.out HNW.out HX.out.size (X6.out.alloc (.cells #[.int .i64 kind, .string nm, .slice r RN rc, .slice a AN ac, .slice b5 BM.length c5] 56)) (HSTM.out _ b5 c5 (HX1.out.trans (X6.out.alloc _)) (keep_setS (Nat.le_trans HNW.out HX.out.size) (by have h := SP.out; rw [World.size_alloc] at h; exact h) _ _)) rfl hgrow hown1 (hor.imp id fun h => by rw [World.size_alloc, size_setC]; exact h)
        have X7 := Lib.hid (ext_grown (HX.out.trans (X6.out.alloc (.cells #[.int .i64 kind, .string nm, .slice r RN rc, .slice a AN ac, .slice b5 BM.length c5] 56))) hgrow (fun k e => (OW.out.lt k e).1))
        rw [← ht.out] at hnx
        go_wp2_with fail
        go_roundw
        case rel => exact ⟨i + 1, some ⟨g7, 0, none⟩, c7, _, by omega, by go_num, rfl, Lib.hid (by rw [ht.out, List.length_append]; rfl), Lib.hid hnx, X7⟩
        case measure => simp [RowKit.intOf]; omega
    · clear HST HIH HCM HCm
      have hr : Hid (bareL (L.take i) = bareL L) := Lib.hid (by rw [List.take_of_length_le (by rw [← HN.out]; omega)])
      have b1 : ¬ (i : Int) < (N : Int) := by omega
      go_wp2
      go_returns
      obtain ⟨X, hown, hrow⟩ := hC.out.own
      have h := own_stms (ok' := fun g => g < nn ∨ w.heap.size ≤ g) (L := bareL (L.take i)) (by rw [← HON.out]; rw [← HON.out] at hown; exact hown) hrow (fun g hk => hk.imp id And.left) (fun g hk => .inr hk)
      rw [hr.out] at h
      exact ⟨⟨_, rfl, h⟩, HX.out⟩
theorem bare_all (w0 : World) (nn : Nat) (hnn : nn ≤ w0.heap.size) : ∀ M, BareC w0 nn M := fun M => by
  induction M using Nat.strongRecOn with
  | _ M ih => exact bare_step w0 nn M hnn ih
/-- bare: its rows lie in old blocks and new ones. -/
theorem bare_any (L : List Stm) (b : Option Addr) (cap nn : Nat) (w : World) (hn : nn ≤ w.heap.size) (h : StmsAt nn w b L) (hs : cntL L ≤ 1099511627776) (hlen : L.length ≤ maxLen) :
    Calls Tryz.prog 17 #[.slice b L.length cap] w fun e w' => (∃ a c, e = .returned (.slice a (bareL L).length c) ∧ StmsAt w'.heap.size w' a (bareL L)) ∧ Ext w w' := by
  refine (bare_all w nn hn (cntL L) L b cap w (Nat.le_refl _) hs h hlen (Ext.refl _)).mono ?_
  rintro e w' ⟨⟨u, rfl, a, c, rfl, hp, -, -⟩, x⟩
  refine ⟨⟨a, c, rfl, ?_⟩, x⟩
  exact StmsP.at (ok := (· < w'.heap.size)) (fun g h => h) _ a (StmsP.keep (ok' := (· < w'.heap.size)) (fun _ _ _ => rfl) (fun g _ hlt => hlt) _ a hp)
end Go.Proofs.YtnancphlkbfglaaGreatDoor.Nm
