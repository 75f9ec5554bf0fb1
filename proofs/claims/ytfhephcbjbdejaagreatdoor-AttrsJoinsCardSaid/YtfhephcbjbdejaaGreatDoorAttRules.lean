/- What the program's rules returns. -/
import Derived.Test.YtfhephcbjbdejaaGreatDoorAttName
import Derived.Maps.OwnSet
import Derived.Deep.AppendLies
import Derived.StringKeys
namespace Go.Proofs.YtfhephcbjbdejaaGreatDoor.At
open Go.RowKit Go.Sort Go.Lib Go.Shelf Fx Lx

/-- A store of a literal's entry into a map that the call owns. -/
theorem wpList_insert_own {H : Type} {P : Program} (w : World) {ops : Array Oper} {rest : List Oper} {o : Oper} {a : Act} {Q : Exit → Act → World → Prop}
    (hg : o.guard = none) (m x v : Operand) (t : TypeId) (hop : o.op = Op.insert t m x v)
    (k e : TypeId) (K : Go.Maps.Keyed P k) (ht : P.underlying t = some (.map k e)) (R : Value → Option (DataW H × List MemPlace)) (b n : Nat) (D : DataW H)
    (hm : a.eval m = .map (some b)) (hown : w.ownsMap P k R b n D) (hn : n < maxLen) (key val : Value) (kl : Lit) (hx : a.eval x = key) (hv : a.eval v = val) (hkey : keyOf P k key = some kl)
    (d : DataW H) (ps : List MemPlace) (hval : R val = some (d, ps))
    (hK : ∀ w', w'.ownsMap P k R b (n + 1) (D.put kl d) → w.grownBy w' (some b) → wpList P ops Q rest (a.put o.dst undef) w') :
    wpList P ops Q (o :: rest) a w := by
  refine wpList_plain hg fun K' hK' => ?_
  obtain ⟨w', hrun, r1, r2⟩ := hown.update K ht hn hkey hval
  unfold Oper.wp
  simp [execOp, hop, hm, hx, hv, hrun, Result.andThen]
  exact hK' _ _ (hK w' r1 r2)
theorem small_lt {n : Nat} (h : n < 100) : n < maxLen := by unfold maxLen; omega
theorem small_le {n : Nat} (h : n ≤ 100) : n ≤ maxLen := by unfold maxLen; omega
/-- A rule is read as it stands. -/
def RH (v : Value) : Option (DataW Value × List MemPlace) := some (.held v, [])
def mkRule (what lo hi d : Int) (ws : Value) : Value := .agg #[.int .i64 what, .int .i64 lo, .int .i64 hi, .int .i64 d, ws]
theorem key9 : Go.Maps.Keyed Tryz.prog 9 := Go.Maps.string_keyed Tryz.underlying9
def nodeD : DataW Value := (DataW.put (DataW.put (DataW.put (DataW.put (.map [] : DataW Value) (.string [108, 97, 98, 101, 108]) (.held (mkRule 1 0 0 0 (.slice none 0 0)))) (.string [119, 105, 100, 116, 104]) (.held (mkRule 3 1 1048576 20000 (.slice none 0 0)))) (.string [104, 101, 105, 103, 104, 116]) (.held (mkRule 3 1 1048576 10000 (.slice none 0 0)))) (.string [112, 111, 114, 116, 115]) (.held (mkRule 2 0 0 0 (.slice none 0 0))))
def edgeD : DataW Value := (DataW.put (DataW.put (DataW.put (.map [] : DataW Value) (.string [108, 97, 98, 101, 108]) (.held (mkRule 1 0 0 0 (.slice none 0 0)))) (.string [119, 101, 105, 103, 104, 116]) (.held (mkRule 4 1000 1000000 1000 (.slice none 0 0)))) (.string [108, 101, 110]) (.held (mkRule 4 1000 64000 1000 (.slice none 0 0))))
def setD (ws : Value) : DataW Value := (DataW.put (DataW.put (DataW.put (DataW.put (DataW.put (.map [] : DataW Value) (.string [109, 111, 100, 101]) (.held (mkRule 5 0 0 0 ws))) (.string [110, 111, 100, 101, 115, 101, 112]) (.held (mkRule 3 0 1048576 10000 (.slice none 0 0)))) (.string [114, 97, 110, 107, 115, 101, 112]) (.held (mkRule 3 0 1048576 20000 (.slice none 0 0)))) (.string [109, 97, 114, 103, 105, 110]) (.held (mkRule 3 0 1048576 5000 (.slice none 0 0)))) (.string [114, 111, 117, 110, 100, 115]) (.held (mkRule 4 0 100000 8000 (.slice none 0 0))))
set_option maxHeartbeats 1000000 in
set_option maxRecDepth 100000 in
theorem rules_node (w : World) :
    Calls Tryz.prog 33 #[.int .i64 1] w fun e w' => e = .returned (.map (some w.heap.size)) ∧ w'.ownsMap Tryz.prog 9 RH w.heap.size 4 (nodeD) ∧ Ext w w' := by
  have hmm := @run_makeMap Tryz.prog
  have h0 := World.ownsMap_made w Tryz.prog 9 RH
  have x0 : Ext w (w.alloc (.map #[] 0)) := (Ext.refl _).alloc _
  obtain ⟨w1, r1, h1, g1⟩ := h0.update key9 Tryz.underlying62 (small_lt (by decide)) (key := .string ⟨#[108, 97, 98, 101, 108]⟩) (val := .agg #[.int .i64 1, .int .i64 0, .int .i64 0, .int .i64 0, .slice none 0 0]) (kl := .string [108, 97, 98, 101, 108]) (d := .held (mkRule 1 0 0 0 (.slice none 0 0))) (ps := []) (Go.WideMaps.keyOf_string_mk Tryz.underlying9 (small_le (by decide))) rfl
  have x1 : Ext w w1 := Below.grown x0 g1 (by simp) (fun k hk => by injection hk with hk; omega)
  obtain ⟨w2, r2, h2, g2⟩ := h1.update key9 Tryz.underlying62 (small_lt (by decide)) (key := .string ⟨#[119, 105, 100, 116, 104]⟩) (val := .agg #[.int .i64 3, .int .i64 1, .int .i64 1048576, .int .i64 20000, .slice none 0 0]) (kl := .string [119, 105, 100, 116, 104]) (d := .held (mkRule 3 1 1048576 20000 (.slice none 0 0))) (ps := []) (Go.WideMaps.keyOf_string_mk Tryz.underlying9 (small_le (by decide))) rfl
  have x2 : Ext w w2 := Below.grown x1 g2 x1.size (fun k hk => by injection hk with hk; omega)
  obtain ⟨w3, r3, h3, g3⟩ := h2.update key9 Tryz.underlying62 (small_lt (by decide)) (key := .string ⟨#[104, 101, 105, 103, 104, 116]⟩) (val := .agg #[.int .i64 3, .int .i64 1, .int .i64 1048576, .int .i64 10000, .slice none 0 0]) (kl := .string [104, 101, 105, 103, 104, 116]) (d := .held (mkRule 3 1 1048576 10000 (.slice none 0 0))) (ps := []) (Go.WideMaps.keyOf_string_mk Tryz.underlying9 (small_le (by decide))) rfl
  have x3 : Ext w w3 := Below.grown x2 g3 x2.size (fun k hk => by injection hk with hk; omega)
  obtain ⟨w4, r4, h4, g4⟩ := h3.update key9 Tryz.underlying62 (small_lt (by decide)) (key := .string ⟨#[112, 111, 114, 116, 115]⟩) (val := .agg #[.int .i64 2, .int .i64 0, .int .i64 0, .int .i64 0, .slice none 0 0]) (kl := .string [112, 111, 114, 116, 115]) (d := .held (mkRule 2 0 0 0 (.slice none 0 0))) (ps := []) (Go.WideMaps.keyOf_string_mk Tryz.underlying9 (small_le (by decide))) rfl
  have x4 : Ext w w4 := Below.grown x3 g4 x3.size (fun k hk => by injection hk with hk; omega)
  clear h0
  clear h1
  clear h2
  clear h3
  have HF := Lib.hid h4
  clear h4 g1 g2 g3 g4
  go_enter Tryz.func33, Tryz.ntmps33
  go_wp2
  go_returns
  exact ⟨rfl, HF.out, x4⟩
set_option maxHeartbeats 1000000 in
set_option maxRecDepth 100000 in
theorem rules_edge (w : World) :
    Calls Tryz.prog 33 #[.int .i64 2] w fun e w' => e = .returned (.map (some w.heap.size)) ∧ w'.ownsMap Tryz.prog 9 RH w.heap.size 3 (edgeD) ∧ Ext w w' := by
  have hmm := @run_makeMap Tryz.prog
  have h0 := World.ownsMap_made w Tryz.prog 9 RH
  have x0 : Ext w (w.alloc (.map #[] 0)) := (Ext.refl _).alloc _
  obtain ⟨w1, r1, h1, g1⟩ := h0.update key9 Tryz.underlying62 (small_lt (by decide)) (key := .string ⟨#[108, 97, 98, 101, 108]⟩) (val := .agg #[.int .i64 1, .int .i64 0, .int .i64 0, .int .i64 0, .slice none 0 0]) (kl := .string [108, 97, 98, 101, 108]) (d := .held (mkRule 1 0 0 0 (.slice none 0 0))) (ps := []) (Go.WideMaps.keyOf_string_mk Tryz.underlying9 (small_le (by decide))) rfl
  have x1 : Ext w w1 := Below.grown x0 g1 (by simp) (fun k hk => by injection hk with hk; omega)
  obtain ⟨w2, r2, h2, g2⟩ := h1.update key9 Tryz.underlying62 (small_lt (by decide)) (key := .string ⟨#[119, 101, 105, 103, 104, 116]⟩) (val := .agg #[.int .i64 4, .int .i64 1000, .int .i64 1000000, .int .i64 1000, .slice none 0 0]) (kl := .string [119, 101, 105, 103, 104, 116]) (d := .held (mkRule 4 1000 1000000 1000 (.slice none 0 0))) (ps := []) (Go.WideMaps.keyOf_string_mk Tryz.underlying9 (small_le (by decide))) rfl
  have x2 : Ext w w2 := Below.grown x1 g2 x1.size (fun k hk => by injection hk with hk; omega)
  obtain ⟨w3, r3, h3, g3⟩ := h2.update key9 Tryz.underlying62 (small_lt (by decide)) (key := .string ⟨#[108, 101, 110]⟩) (val := .agg #[.int .i64 4, .int .i64 1000, .int .i64 64000, .int .i64 1000, .slice none 0 0]) (kl := .string [108, 101, 110]) (d := .held (mkRule 4 1000 64000 1000 (.slice none 0 0))) (ps := []) (Go.WideMaps.keyOf_string_mk Tryz.underlying9 (small_le (by decide))) rfl
  have x3 : Ext w w3 := Below.grown x2 g3 x2.size (fun k hk => by injection hk with hk; omega)
  clear h0
  clear h1
  clear h2
  have HF := Lib.hid h3
  clear h3 g1 g2 g3
  go_enter Tryz.func33, Tryz.ntmps33
  go_wp2
  go_returns
  exact ⟨rfl, HF.out, x3⟩
set_option maxHeartbeats 1000000 in
set_option maxRecDepth 100000 in
theorem rules_set (w : World) :
    Calls Tryz.prog 33 #[.int .i64 4] w fun e w' => e = .returned (.map (some w.heap.size)) ∧ w'.ownsMap Tryz.prog 9 RH w.heap.size 5 (setD (.slice (some ⟨w.heap.size + 1, 0, none⟩) 5 5)) ∧ Ext w w' ∧ ∀ j, j < 5 → w'.cell? ⟨w.heap.size + 1, 0 + j, none⟩ = some (.string (modesL.getD j ByteArray.empty)) := by
  have hmm := @run_makeMap Tryz.prog
  have h0 := (World.ownsMap_made w Tryz.prog 9 RH).alloc (.cells modesC 9)
  unfold modesC at h0
  have hz := modes_cell (w.alloc (.map #[] 0))
  rw [World.size_alloc] at hz
  unfold modesC at hz
  have x0 : Ext w ((w.alloc (.map #[] 0)).alloc (.cells modesC 9)) := ((Ext.refl _).alloc _).alloc _
  unfold modesC at x0
  obtain ⟨w1, r1, h1, g1⟩ := h0.update key9 Tryz.underlying62 (small_lt (by decide)) (key := .string ⟨#[109, 111, 100, 101]⟩) (val := .agg #[.int .i64 5, .int .i64 0, .int .i64 0, .int .i64 0, .slice (some ⟨w.heap.size + 1, 0, none⟩) 5 5]) (kl := .string [109, 111, 100, 101]) (d := .held (mkRule 5 0 0 0 (.slice (some ⟨w.heap.size + 1, 0, none⟩) 5 5))) (ps := []) (Go.WideMaps.keyOf_string_mk Tryz.underlying9 (small_le (by decide))) rfl
  have x1 : Ext w w1 := Below.grown x0 g1 (by simp; omega) (fun k hk => by injection hk with hk; omega)
  have z1 : ∀ j, j < 5 → w1.cell? ⟨w.heap.size + 1, 0 + j, none⟩ = some (.string (modesL.getD j ByteArray.empty)) := fun j hj => by
    rw [g1.cell_far ⟨w.heap.size + 1, 0 + j, none⟩ (by simp) (fun e => by injection e with e; simp at e)]
    exact hz j hj
  have s1 : w.heap.size + 1 < w1.heap.size := Nat.lt_of_lt_of_le (by simp) g1.size
  obtain ⟨w2, r2, h2, g2⟩ := h1.update key9 Tryz.underlying62 (small_lt (by decide)) (key := .string ⟨#[110, 111, 100, 101, 115, 101, 112]⟩) (val := .agg #[.int .i64 3, .int .i64 0, .int .i64 1048576, .int .i64 10000, .slice none 0 0]) (kl := .string [110, 111, 100, 101, 115, 101, 112]) (d := .held (mkRule 3 0 1048576 10000 (.slice none 0 0))) (ps := []) (Go.WideMaps.keyOf_string_mk Tryz.underlying9 (small_le (by decide))) rfl
  have x2 : Ext w w2 := Below.grown x1 g2 x1.size (fun k hk => by injection hk with hk; omega)
  have z2 : ∀ j, j < 5 → w2.cell? ⟨w.heap.size + 1, 0 + j, none⟩ = some (.string (modesL.getD j ByteArray.empty)) := fun j hj => by
    rw [g2.cell_far ⟨w.heap.size + 1, 0 + j, none⟩ s1 (fun e => by injection e with e; simp at e)]
    exact z1 j hj
  have s2 : w.heap.size + 1 < w2.heap.size := Nat.lt_of_lt_of_le s1 g2.size
  obtain ⟨w3, r3, h3, g3⟩ := h2.update key9 Tryz.underlying62 (small_lt (by decide)) (key := .string ⟨#[114, 97, 110, 107, 115, 101, 112]⟩) (val := .agg #[.int .i64 3, .int .i64 0, .int .i64 1048576, .int .i64 20000, .slice none 0 0]) (kl := .string [114, 97, 110, 107, 115, 101, 112]) (d := .held (mkRule 3 0 1048576 20000 (.slice none 0 0))) (ps := []) (Go.WideMaps.keyOf_string_mk Tryz.underlying9 (small_le (by decide))) rfl
  have x3 : Ext w w3 := Below.grown x2 g3 x2.size (fun k hk => by injection hk with hk; omega)
  have z3 : ∀ j, j < 5 → w3.cell? ⟨w.heap.size + 1, 0 + j, none⟩ = some (.string (modesL.getD j ByteArray.empty)) := fun j hj => by
    rw [g3.cell_far ⟨w.heap.size + 1, 0 + j, none⟩ s2 (fun e => by injection e with e; simp at e)]
    exact z2 j hj
  have s3 : w.heap.size + 1 < w3.heap.size := Nat.lt_of_lt_of_le s2 g3.size
  obtain ⟨w4, r4, h4, g4⟩ := h3.update key9 Tryz.underlying62 (small_lt (by decide)) (key := .string ⟨#[109, 97, 114, 103, 105, 110]⟩) (val := .agg #[.int .i64 3, .int .i64 0, .int .i64 1048576, .int .i64 5000, .slice none 0 0]) (kl := .string [109, 97, 114, 103, 105, 110]) (d := .held (mkRule 3 0 1048576 5000 (.slice none 0 0))) (ps := []) (Go.WideMaps.keyOf_string_mk Tryz.underlying9 (small_le (by decide))) rfl
  have x4 : Ext w w4 := Below.grown x3 g4 x3.size (fun k hk => by injection hk with hk; omega)
  have z4 : ∀ j, j < 5 → w4.cell? ⟨w.heap.size + 1, 0 + j, none⟩ = some (.string (modesL.getD j ByteArray.empty)) := fun j hj => by
    rw [g4.cell_far ⟨w.heap.size + 1, 0 + j, none⟩ s3 (fun e => by injection e with e; simp at e)]
    exact z3 j hj
  have s4 : w.heap.size + 1 < w4.heap.size := Nat.lt_of_lt_of_le s3 g4.size
  obtain ⟨w5, r5, h5, g5⟩ := h4.update key9 Tryz.underlying62 (small_lt (by decide)) (key := .string ⟨#[114, 111, 117, 110, 100, 115]⟩) (val := .agg #[.int .i64 4, .int .i64 0, .int .i64 100000, .int .i64 8000, .slice none 0 0]) (kl := .string [114, 111, 117, 110, 100, 115]) (d := .held (mkRule 4 0 100000 8000 (.slice none 0 0))) (ps := []) (Go.WideMaps.keyOf_string_mk Tryz.underlying9 (small_le (by decide))) rfl
  have x5 : Ext w w5 := Below.grown x4 g5 x4.size (fun k hk => by injection hk with hk; omega)
  have z5 : ∀ j, j < 5 → w5.cell? ⟨w.heap.size + 1, 0 + j, none⟩ = some (.string (modesL.getD j ByteArray.empty)) := fun j hj => by
    rw [g5.cell_far ⟨w.heap.size + 1, 0 + j, none⟩ s4 (fun e => by injection e with e; simp at e)]
    exact z4 j hj
  have s5 : w.heap.size + 1 < w5.heap.size := Nat.lt_of_lt_of_le s4 g5.size
  clear h0
  clear h1
  clear h2
  clear h3
  clear h4
  have HF := Lib.hid h5
  clear h5 g1 g2 g3 g4 g5
  go_enter Tryz.func33, Tryz.ntmps33
  go_wp2
  go_returns
  exact ⟨rfl, HF.out, x5, z5⟩
end Go.Proofs.YtfhephcbjbdejaaGreatDoor.At
