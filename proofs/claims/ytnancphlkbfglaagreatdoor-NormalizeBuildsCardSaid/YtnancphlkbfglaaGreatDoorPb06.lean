/- Packed texts: AttName, AttRules, AttRule, AttKnown -/
import Derived.Test.YtnancphlkbfglaaGreatDoorPb05
import Derived.Maps.OwnSet
import Derived.Deep.AppendLies
import Derived.StringKeys
set_option linter.unusedVariables false
set_option linter.unusedSimpArgs false
namespace Go.Proofs.YtnancphlkbfglaaGreatDoor.At
open Go.RowKit Go.Sort Go.Lib Go.Shelf Fx Lx
set_option maxHeartbeats 2000000 in
theorem sideR_any (x : ByteArray) (w : World) :
    Calls Tryz.prog 128 #[.string x] w fun e w' => e = .returned (.int .i64 (sideN x)) ∧ Ext w w' := by
  have hz := sides_cell w
  unfold sidesC at hz
  have HZ := Lib.hid hz
  clear hz
  go_enter Tryz.func128, Tryz.ntmps128
  go_wp2_with fail
  go_loop [4] (fun i' => ∃ k : Nat, k ≤ 4 ∧ i' = .int .i64 k ∧ Hid (∀ j, j < k → sidesL.getD j ByteArray.empty ≠ x)) (fun i' => 4 - (RowKit.intOf i').toNat)
  case atStart => exact ⟨0, by omega, rfl, Lib.hid (fun j h => absurd h (by omega))⟩
  case round =>
    obtain ⟨k, hk, rfl, hall⟩ := hrel
    by_cases hlt : k < 4
    · have c0 := HZ.out k hlt
      rw [Nat.zero_add] at c0
      obtain ⟨z, hz⟩ : ∃ z, z = sidesL.getD k ByteArray.empty := ⟨_, rfl⟩
      rw [← hz] at c0
      have HZK := Lib.hid hz
      clear hz
      by_cases heq : z = x
      · have hf : Hid (sideN x = k) := Lib.hid (by
          have := Lib.idxFromS_hit x sidesL k 0 hlt (by rw [← HZK.out]; exact heq) hall.out
          unfold sideN Lib.idxOfS; rw [this]; simp)
        have g1 : (z.toList == x.toList) = true := by rw [beqs]; exact decide_eq_true heq
        clear heq hall HZK
        go_wp2_with fail
        go_returns
        exact ⟨by rw [hf.out]; rfl, (Ext.refl _).alloc _⟩
      · have hf : Hid (∀ j, j < k + 1 → sidesL.getD j ByteArray.empty ≠ x) := Lib.hid (fun j h => by
          by_cases e : j = k
          · subst e; rw [← HZK.out]; exact heq
          · exact hall.out j (by omega))
        have g1 : (z.toList == x.toList) = false := by rw [beqs]; exact decide_eq_false heq
        clear heq hall HZK
        go_wp2_with fail
        go_round
        case rel => exact ⟨k + 1, by omega, by go_num, hf⟩
        case measure => simp [RowKit.intOf]; omega
    · obtain rfl : k = 4 := by omega
      have hf : Hid (sideN x = -1) := Lib.hid (by
        unfold sideN Lib.idxOfS
        exact Lib.idxFromS_miss x sidesL 0 (fun j hj => hall.out j hj))
      clear hall
      go_wp2_with fail
      go_returns
      exact ⟨by rw [hf.out]; rfl, (Ext.refl _).alloc _⟩
def modesL : List ByteArray := [⟨#[108, 97, 121, 101, 114, 101, 100]⟩, ⟨#[111, 114, 116, 104, 111, 103, 111, 110, 97, 108]⟩, ⟨#[115, 116, 114, 97, 105, 103, 104, 116]⟩, ⟨#[116, 105, 100, 121]⟩, ⟨#[114, 97, 100, 105, 97, 108]⟩]
def modeN (s : ByteArray) : Int := Lib.idxOfS modesL s
def modesC : Array Value := #[.string ⟨#[108, 97, 121, 101, 114, 101, 100]⟩, .string ⟨#[111, 114, 116, 104, 111, 103, 111, 110, 97, 108]⟩, .string ⟨#[115, 116, 114, 97, 105, 103, 104, 116]⟩, .string ⟨#[116, 105, 100, 121]⟩, .string ⟨#[114, 97, 100, 105, 97, 108]⟩]
theorem modes_cell (w : World) (j : Nat) (hj : j < modesL.length) : (w.alloc (.cells modesC 9)).cell? ⟨w.heap.size, 0 + j, none⟩ = some (.string (modesL.getD j ByteArray.empty)) := by
  have hb := heap_alloc_new w (.cells modesC 9)
  rw [Lib.cell_of_heap hb]
  have : j < 5 := hj
  match j, this with
  | 0, _ => rfl
  | 1, _ => rfl
  | 2, _ => rfl
  | 3, _ => rfl
  | 4, _ => rfl
set_option maxHeartbeats 2000000 in
theorem modeR_any (x : ByteArray) (w : World) :
    Calls Tryz.prog 92 #[.string x] w fun e w' => e = .returned (.int .i64 (modeN x)) ∧ Ext w w' := by
  have hz := modes_cell w
  unfold modesC at hz
  have HZ := Lib.hid hz
  clear hz
  go_enter Tryz.func92, Tryz.ntmps92
  go_wp2_with fail
  go_loop [4] (fun i' => ∃ k : Nat, k ≤ 5 ∧ i' = .int .i64 k ∧ Hid (∀ j, j < k → modesL.getD j ByteArray.empty ≠ x)) (fun i' => 5 - (RowKit.intOf i').toNat)
  case atStart => exact ⟨0, by omega, rfl, Lib.hid (fun j h => absurd h (by omega))⟩
  case round =>
    obtain ⟨k, hk, rfl, hall⟩ := hrel
    by_cases hlt : k < 5
    · have c0 := HZ.out k hlt
      rw [Nat.zero_add] at c0
      obtain ⟨z, hz⟩ : ∃ z, z = modesL.getD k ByteArray.empty := ⟨_, rfl⟩
      rw [← hz] at c0
      have HZK := Lib.hid hz
      clear hz
      by_cases heq : z = x
      · have hf : Hid (modeN x = k) := Lib.hid (by
          have := Lib.idxFromS_hit x modesL k 0 hlt (by rw [← HZK.out]; exact heq) hall.out
          unfold modeN Lib.idxOfS; rw [this]; simp)
        have g1 : (z.toList == x.toList) = true := by rw [beqs]; exact decide_eq_true heq
        clear heq hall HZK
        go_wp2_with fail
        go_returns
        exact ⟨by rw [hf.out]; rfl, (Ext.refl _).alloc _⟩
      · have hf : Hid (∀ j, j < k + 1 → modesL.getD j ByteArray.empty ≠ x) := Lib.hid (fun j h => by
          by_cases e : j = k
          · subst e; rw [← HZK.out]; exact heq
          · exact hall.out j (by omega))
        have g1 : (z.toList == x.toList) = false := by rw [beqs]; exact decide_eq_false heq
        clear heq hall HZK
        go_wp2_with fail
        go_round
        case rel => exact ⟨k + 1, by omega, by go_num, hf⟩
        case measure => simp [RowKit.intOf]; omega
    · obtain rfl : k = 5 := by omega
      have hf : Hid (modeN x = -1) := Lib.hid (by
        unfold modeN Lib.idxOfS
        exact Lib.idxFromS_miss x modesL 0 (fun j hj => hall.out j hj))
      clear hall
      go_wp2_with fail
      go_returns
      exact ⟨by rw [hf.out]; rfl, (Ext.refl _).alloc _⟩
end Go.Proofs.YtnancphlkbfglaaGreatDoor.At

namespace Go.Proofs.YtnancphlkbfglaaGreatDoor.At
open Go.RowKit Go.Sort Go.Lib Go.Shelf Fx Lx
theorem small_lt {n : Nat} (h : n < 100) : n < maxLen := by unfold maxLen; omega
theorem small_le {n : Nat} (h : n ≤ 100) : n ≤ maxLen := by unfold maxLen; omega
def RH (v : Value) : Option (DataW Value × List MemPlace) := some (.held v, [])
def mkRule (what lo hi d : Int) (ws : Value) : Value := .agg #[.int .i64 what, .int .i64 lo, .int .i64 hi, .int .i64 d, ws]
theorem key9 : Go.Maps.Keyed Tryz.prog 9 := Go.Maps.string_keyed Tryz.underlying9
def nodeD : DataW Value := (DataW.put (DataW.put (DataW.put (DataW.put (.map [] : DataW Value) (.string [108, 97, 98, 101, 108]) (.held (mkRule 1 0 0 0 (.slice none 0 0)))) (.string [119, 105, 100, 116, 104]) (.held (mkRule 3 1 1048576 20000 (.slice none 0 0)))) (.string [104, 101, 105, 103, 104, 116]) (.held (mkRule 3 1 1048576 10000 (.slice none 0 0)))) (.string [112, 111, 114, 116, 115]) (.held (mkRule 2 0 0 0 (.slice none 0 0))))
def edgeD : DataW Value := (DataW.put (DataW.put (DataW.put (.map [] : DataW Value) (.string [108, 97, 98, 101, 108]) (.held (mkRule 1 0 0 0 (.slice none 0 0)))) (.string [119, 101, 105, 103, 104, 116]) (.held (mkRule 4 1000 1000000 1000 (.slice none 0 0)))) (.string [108, 101, 110]) (.held (mkRule 4 1000 64000 1000 (.slice none 0 0))))
def setD (ws : Value) : DataW Value := (DataW.put (DataW.put (DataW.put (DataW.put (DataW.put (.map [] : DataW Value) (.string [109, 111, 100, 101]) (.held (mkRule 5 0 0 0 ws))) (.string [110, 111, 100, 101, 115, 101, 112]) (.held (mkRule 3 0 1048576 10000 (.slice none 0 0)))) (.string [114, 97, 110, 107, 115, 101, 112]) (.held (mkRule 3 0 1048576 20000 (.slice none 0 0)))) (.string [109, 97, 114, 103, 105, 110]) (.held (mkRule 3 0 1048576 5000 (.slice none 0 0)))) (.string [114, 111, 117, 110, 100, 115]) (.held (mkRule 4 0 100000 8000 (.slice none 0 0))))
set_option maxHeartbeats 1000000 in
set_option maxRecDepth 100000 in
theorem rules_node (w : World) :
    Calls Tryz.prog 60 #[.int .i64 1] w fun e w' => e = .returned (.map (some w.heap.size)) ∧ w'.ownsMap Tryz.prog 9 RH w.heap.size 4 (nodeD) ∧ Ext w w' := by
  have hmm := @run_makeMap Tryz.prog
  have h0 := World.ownsMap_made w Tryz.prog 9 RH
  have x0 : Ext w (w.alloc (.map #[] 0)) := (Ext.refl _).alloc _
  obtain ⟨w1, r1, h1, g1⟩ := h0.update key9 Tryz.underlying121 (small_lt (by decide)) (key := .string ⟨#[108, 97, 98, 101, 108]⟩) (val := .agg #[.int .i64 1, .int .i64 0, .int .i64 0, .int .i64 0, .slice none 0 0]) (kl := .string [108, 97, 98, 101, 108]) (d := .held (mkRule 1 0 0 0 (.slice none 0 0))) (ps := []) (Go.WideMaps.keyOf_string_mk Tryz.underlying9 (small_le (by decide))) rfl
  have x1 : Ext w w1 := Below.grown x0 g1 (by simp) (fun k hk => by injection hk with hk; omega)
  obtain ⟨w2, r2, h2, g2⟩ := h1.update key9 Tryz.underlying121 (small_lt (by decide)) (key := .string ⟨#[119, 105, 100, 116, 104]⟩) (val := .agg #[.int .i64 3, .int .i64 1, .int .i64 1048576, .int .i64 20000, .slice none 0 0]) (kl := .string [119, 105, 100, 116, 104]) (d := .held (mkRule 3 1 1048576 20000 (.slice none 0 0))) (ps := []) (Go.WideMaps.keyOf_string_mk Tryz.underlying9 (small_le (by decide))) rfl
  have x2 : Ext w w2 := Below.grown x1 g2 x1.size (fun k hk => by injection hk with hk; omega)
  obtain ⟨w3, r3, h3, g3⟩ := h2.update key9 Tryz.underlying121 (small_lt (by decide)) (key := .string ⟨#[104, 101, 105, 103, 104, 116]⟩) (val := .agg #[.int .i64 3, .int .i64 1, .int .i64 1048576, .int .i64 10000, .slice none 0 0]) (kl := .string [104, 101, 105, 103, 104, 116]) (d := .held (mkRule 3 1 1048576 10000 (.slice none 0 0))) (ps := []) (Go.WideMaps.keyOf_string_mk Tryz.underlying9 (small_le (by decide))) rfl
  have x3 : Ext w w3 := Below.grown x2 g3 x2.size (fun k hk => by injection hk with hk; omega)
  obtain ⟨w4, r4, h4, g4⟩ := h3.update key9 Tryz.underlying121 (small_lt (by decide)) (key := .string ⟨#[112, 111, 114, 116, 115]⟩) (val := .agg #[.int .i64 2, .int .i64 0, .int .i64 0, .int .i64 0, .slice none 0 0]) (kl := .string [112, 111, 114, 116, 115]) (d := .held (mkRule 2 0 0 0 (.slice none 0 0))) (ps := []) (Go.WideMaps.keyOf_string_mk Tryz.underlying9 (small_le (by decide))) rfl
  have x4 : Ext w w4 := Below.grown x3 g4 x3.size (fun k hk => by injection hk with hk; omega)
  clear h0
  clear h1
  clear h2
  clear h3
  have HF := Lib.hid h4
  clear h4 g1 g2 g3 g4
  go_enter Tryz.func60, Tryz.ntmps60
  go_wp2
  go_returns
  exact ⟨rfl, HF.out, x4⟩
set_option maxHeartbeats 1000000 in
set_option maxRecDepth 100000 in
theorem rules_edge (w : World) :
    Calls Tryz.prog 60 #[.int .i64 2] w fun e w' => e = .returned (.map (some w.heap.size)) ∧ w'.ownsMap Tryz.prog 9 RH w.heap.size 3 (edgeD) ∧ Ext w w' := by
  have hmm := @run_makeMap Tryz.prog
  have h0 := World.ownsMap_made w Tryz.prog 9 RH
  have x0 : Ext w (w.alloc (.map #[] 0)) := (Ext.refl _).alloc _
  obtain ⟨w1, r1, h1, g1⟩ := h0.update key9 Tryz.underlying121 (small_lt (by decide)) (key := .string ⟨#[108, 97, 98, 101, 108]⟩) (val := .agg #[.int .i64 1, .int .i64 0, .int .i64 0, .int .i64 0, .slice none 0 0]) (kl := .string [108, 97, 98, 101, 108]) (d := .held (mkRule 1 0 0 0 (.slice none 0 0))) (ps := []) (Go.WideMaps.keyOf_string_mk Tryz.underlying9 (small_le (by decide))) rfl
  have x1 : Ext w w1 := Below.grown x0 g1 (by simp) (fun k hk => by injection hk with hk; omega)
  obtain ⟨w2, r2, h2, g2⟩ := h1.update key9 Tryz.underlying121 (small_lt (by decide)) (key := .string ⟨#[119, 101, 105, 103, 104, 116]⟩) (val := .agg #[.int .i64 4, .int .i64 1000, .int .i64 1000000, .int .i64 1000, .slice none 0 0]) (kl := .string [119, 101, 105, 103, 104, 116]) (d := .held (mkRule 4 1000 1000000 1000 (.slice none 0 0))) (ps := []) (Go.WideMaps.keyOf_string_mk Tryz.underlying9 (small_le (by decide))) rfl
  have x2 : Ext w w2 := Below.grown x1 g2 x1.size (fun k hk => by injection hk with hk; omega)
  obtain ⟨w3, r3, h3, g3⟩ := h2.update key9 Tryz.underlying121 (small_lt (by decide)) (key := .string ⟨#[108, 101, 110]⟩) (val := .agg #[.int .i64 4, .int .i64 1000, .int .i64 64000, .int .i64 1000, .slice none 0 0]) (kl := .string [108, 101, 110]) (d := .held (mkRule 4 1000 64000 1000 (.slice none 0 0))) (ps := []) (Go.WideMaps.keyOf_string_mk Tryz.underlying9 (small_le (by decide))) rfl
  have x3 : Ext w w3 := Below.grown x2 g3 x2.size (fun k hk => by injection hk with hk; omega)
  clear h0
  clear h1
  clear h2
  have HF := Lib.hid h3
  clear h3 g1 g2 g3
  go_enter Tryz.func60, Tryz.ntmps60
  go_wp2
  go_returns
  exact ⟨rfl, HF.out, x3⟩
set_option maxHeartbeats 1000000 in
set_option maxRecDepth 100000 in
theorem rules_set (w : World) :
    Calls Tryz.prog 60 #[.int .i64 4] w fun e w' => e = .returned (.map (some w.heap.size)) ∧ w'.ownsMap Tryz.prog 9 RH w.heap.size 5 (setD (.slice (some ⟨w.heap.size + 1, 0, none⟩) 5 5)) ∧ Ext w w' ∧ ∀ j, j < 5 → w'.cell? ⟨w.heap.size + 1, 0 + j, none⟩ = some (.string (modesL.getD j ByteArray.empty)) := by
  have hmm := @run_makeMap Tryz.prog
  have h0 := (World.ownsMap_made w Tryz.prog 9 RH).alloc (.cells modesC 9)
  unfold modesC at h0
  have hz := modes_cell (w.alloc (.map #[] 0))
  rw [World.size_alloc] at hz
  unfold modesC at hz
  have x0 : Ext w ((w.alloc (.map #[] 0)).alloc (.cells modesC 9)) := ((Ext.refl _).alloc _).alloc _
  unfold modesC at x0
  obtain ⟨w1, r1, h1, g1⟩ := h0.update key9 Tryz.underlying121 (small_lt (by decide)) (key := .string ⟨#[109, 111, 100, 101]⟩) (val := .agg #[.int .i64 5, .int .i64 0, .int .i64 0, .int .i64 0, .slice (some ⟨w.heap.size + 1, 0, none⟩) 5 5]) (kl := .string [109, 111, 100, 101]) (d := .held (mkRule 5 0 0 0 (.slice (some ⟨w.heap.size + 1, 0, none⟩) 5 5))) (ps := []) (Go.WideMaps.keyOf_string_mk Tryz.underlying9 (small_le (by decide))) rfl
  have x1 : Ext w w1 := Below.grown x0 g1 (by simp; omega) (fun k hk => by injection hk with hk; omega)
  have z1 : ∀ j, j < 5 → w1.cell? ⟨w.heap.size + 1, 0 + j, none⟩ = some (.string (modesL.getD j ByteArray.empty)) := fun j hj => by
    rw [g1.cell_far ⟨w.heap.size + 1, 0 + j, none⟩ (by simp) (fun e => by injection e with e; simp at e)]
    exact hz j hj
  have s1 : w.heap.size + 1 < w1.heap.size := Nat.lt_of_lt_of_le (by simp) g1.size
  obtain ⟨w2, r2, h2, g2⟩ := h1.update key9 Tryz.underlying121 (small_lt (by decide)) (key := .string ⟨#[110, 111, 100, 101, 115, 101, 112]⟩) (val := .agg #[.int .i64 3, .int .i64 0, .int .i64 1048576, .int .i64 10000, .slice none 0 0]) (kl := .string [110, 111, 100, 101, 115, 101, 112]) (d := .held (mkRule 3 0 1048576 10000 (.slice none 0 0))) (ps := []) (Go.WideMaps.keyOf_string_mk Tryz.underlying9 (small_le (by decide))) rfl
  have x2 : Ext w w2 := Below.grown x1 g2 x1.size (fun k hk => by injection hk with hk; omega)
  have z2 : ∀ j, j < 5 → w2.cell? ⟨w.heap.size + 1, 0 + j, none⟩ = some (.string (modesL.getD j ByteArray.empty)) := fun j hj => by
    rw [g2.cell_far ⟨w.heap.size + 1, 0 + j, none⟩ s1 (fun e => by injection e with e; simp at e)]
    exact z1 j hj
  have s2 : w.heap.size + 1 < w2.heap.size := Nat.lt_of_lt_of_le s1 g2.size
  obtain ⟨w3, r3, h3, g3⟩ := h2.update key9 Tryz.underlying121 (small_lt (by decide)) (key := .string ⟨#[114, 97, 110, 107, 115, 101, 112]⟩) (val := .agg #[.int .i64 3, .int .i64 0, .int .i64 1048576, .int .i64 20000, .slice none 0 0]) (kl := .string [114, 97, 110, 107, 115, 101, 112]) (d := .held (mkRule 3 0 1048576 20000 (.slice none 0 0))) (ps := []) (Go.WideMaps.keyOf_string_mk Tryz.underlying9 (small_le (by decide))) rfl
  have x3 : Ext w w3 := Below.grown x2 g3 x2.size (fun k hk => by injection hk with hk; omega)
  have z3 : ∀ j, j < 5 → w3.cell? ⟨w.heap.size + 1, 0 + j, none⟩ = some (.string (modesL.getD j ByteArray.empty)) := fun j hj => by
    rw [g3.cell_far ⟨w.heap.size + 1, 0 + j, none⟩ s2 (fun e => by injection e with e; simp at e)]
    exact z2 j hj
  have s3 : w.heap.size + 1 < w3.heap.size := Nat.lt_of_lt_of_le s2 g3.size
  obtain ⟨w4, r4, h4, g4⟩ := h3.update key9 Tryz.underlying121 (small_lt (by decide)) (key := .string ⟨#[109, 97, 114, 103, 105, 110]⟩) (val := .agg #[.int .i64 3, .int .i64 0, .int .i64 1048576, .int .i64 5000, .slice none 0 0]) (kl := .string [109, 97, 114, 103, 105, 110]) (d := .held (mkRule 3 0 1048576 5000 (.slice none 0 0))) (ps := []) (Go.WideMaps.keyOf_string_mk Tryz.underlying9 (small_le (by decide))) rfl
  have x4 : Ext w w4 := Below.grown x3 g4 x3.size (fun k hk => by injection hk with hk; omega)
  have z4 : ∀ j, j < 5 → w4.cell? ⟨w.heap.size + 1, 0 + j, none⟩ = some (.string (modesL.getD j ByteArray.empty)) := fun j hj => by
    rw [g4.cell_far ⟨w.heap.size + 1, 0 + j, none⟩ s3 (fun e => by injection e with e; simp at e)]
    exact z3 j hj
  have s4 : w.heap.size + 1 < w4.heap.size := Nat.lt_of_lt_of_le s3 g4.size
  obtain ⟨w5, r5, h5, g5⟩ := h4.update key9 Tryz.underlying121 (small_lt (by decide)) (key := .string ⟨#[114, 111, 117, 110, 100, 115]⟩) (val := .agg #[.int .i64 4, .int .i64 0, .int .i64 100000, .int .i64 8000, .slice none 0 0]) (kl := .string [114, 111, 117, 110, 100, 115]) (d := .held (mkRule 4 0 100000 8000 (.slice none 0 0))) (ps := []) (Go.WideMaps.keyOf_string_mk Tryz.underlying9 (small_le (by decide))) rfl
  have x5 : Ext w w5 := Below.grown x4 g5 x4.size (fun k hk => by injection hk with hk; omega)
  have z5 : ∀ j, j < 5 → w5.cell? ⟨w.heap.size + 1, 0 + j, none⟩ = some (.string (modesL.getD j ByteArray.empty)) := fun j hj => by
    rw [g5.cell_far ⟨w.heap.size + 1, 0 + j, none⟩ s4 (fun e => by injection e with e; simp at e)]
    exact z4 j hj
  have s5 : w.heap.size + 1 < w5.heap.size := Nat.lt_of_lt_of_le s4 g5.size
  clear h0
  clear h1
  clear h2
  clear h3
  clear h4
  have HF := Lib.hid h5
  clear h5 g1 g2 g3 g4 g5
  go_enter Tryz.func60, Tryz.ntmps60
  go_wp2
  go_returns
  exact ⟨rfl, HF.out, x5, z5⟩
end Go.Proofs.YtnancphlkbfglaaGreatDoor.At

namespace Go.Proofs.YtnancphlkbfglaaGreatDoor.At
open Go.RowKit Go.Sort Go.Lib Go.Shelf Fx Lx
abbrev Rul := Int × Int × Int × Int
def nodeR (l : List UInt8) : Rul := if l = [108, 97, 98, 101, 108] then (1, 0, 0, 0) else if l = [119, 105, 100, 116, 104] then (3, 1, 1048576, 20000) else if l = [104, 101, 105, 103, 104, 116] then (3, 1, 1048576, 10000) else if l = [112, 111, 114, 116, 115] then (2, 0, 0, 0) else (0, 0, 0, 0)
def edgeR (l : List UInt8) : Rul := if l = [108, 97, 98, 101, 108] then (1, 0, 0, 0) else if l = [119, 101, 105, 103, 104, 116] then (4, 1000, 1000000, 1000) else if l = [108, 101, 110] then (4, 1000, 64000, 1000) else (0, 0, 0, 0)
def setR (l : List UInt8) : Rul := if l = [109, 111, 100, 101] then (5, 0, 0, 0) else if l = [110, 111, 100, 101, 115, 101, 112] then (3, 0, 1048576, 10000) else if l = [114, 97, 110, 107, 115, 101, 112] then (3, 0, 1048576, 20000) else if l = [109, 97, 114, 103, 105, 110] then (3, 0, 1048576, 5000) else if l = [114, 111, 117, 110, 100, 115] then (4, 0, 100000, 8000) else (0, 0, 0, 0)
def ruleT (kind : Int) (l : List UInt8) : Rul := if kind = 1 then nodeR l else if kind = 2 then edgeR l else if kind = 4 then setR l else (0, 0, 0, 0)
def ruleVal (r : Rul) (ws : Value) : Value := mkRule r.1 r.2.1 r.2.2.1 r.2.2.2 (if r.1 = 5 then ws else .slice none 0 0)
def zeroR : Value := mkRule 0 0 0 0 (.slice none 0 0)
theorem zero_rule (w : World) : (zeroValue 120).run Tryz.prog w = .ok zeroR w := by
  kernel_rfl
def WordsAt (w : World) (ws : Value) : Prop := ∃ g, ws = .slice (some ⟨g, 0, none⟩) 5 5 ∧ ∀ j, j < 5 → w.cell? ⟨g, 0 + j, none⟩ = some (.string (modesL.getD j ByteArray.empty))
def WordsN (n : Nat) (w : World) (ws : Value) : Prop := ∃ g, n ≤ g ∧ ws = .slice (some ⟨g, 0, none⟩) 5 5 ∧ ∀ j, j < 5 → w.cell? ⟨g, 0 + j, none⟩ = some (.string (modesL.getD j ByteArray.empty))
theorem WordsN.at {n : Nat} {w : World} {ws : Value} (h : WordsN n w ws) : WordsAt w ws := by
  obtain ⟨g, _, h1, h2⟩ := h
  exact ⟨g, h1, h2⟩
theorem WordsN.set {n : Nat} {w : World} {ws : Value} (h : WordsN n w ws) {B : Nat} (hB : B < n) (i : Nat) (v : Value) : WordsN n (w.setCell ⟨B, i, none⟩ v) ws := by
  obtain ⟨g, h0, h1, h2⟩ := h
  exact ⟨g, h0, h1, fun j hj => by rw [World.cell?_setCell_other (h := fun e => by injection e with e; omega)]; exact h2 j hj⟩
theorem WordsN.alloc {n : Nat} {w : World} {ws : Value} (h : WordsN n w ws) (o : Obj) : WordsN n (w.alloc o) ws := by
  obtain ⟨g, h0, h1, h2⟩ := h
  exact ⟨g, h0, h1, fun j hj => ((Ext.refl _).alloc o).cell (h2 j hj)⟩
def LookAt (w : World) (m : Value) (kind : Int) (ws : Value) : Prop := ∀ key : ByteArray, key.size ≤ maxLen →
  (Instr.lookup 121 m (.string key) true).run Tryz.prog w = .ok (.tuple #[ruleVal (ruleT kind key.data.toList) ws, .bool (decide ((ruleT kind key.data.toList).1 ≠ 0))]) w ∧
  (Instr.lookup 121 m (.string key) false).run Tryz.prog w = .ok (ruleVal (ruleT kind key.data.toList) ws) w
theorem key_lit (l : List UInt8) : WideAt.IsKeyLit (.string l) := by
  unfold WideAt.IsKeyLit; trivial
theorem look_at {w : World} {b n : Nat} {D : DataW Value} {kind : Int} {ws : Value} (h : w.ownsMap Tryz.prog 9 RH b n D)
    (h1 : ∀ l, D.atKey (.string l) (.held zeroR) = .held (ruleVal (ruleT kind l) ws)) (h2 : ∀ l, Go.Maps.has D (.string l) = decide ((ruleT kind l).1 ≠ 0)) : LookAt w (.map (some b)) kind ws := fun key hk => by
  have hkey := Go.WideMaps.keyOf_string_mk (P := Tryz.prog) Tryz.underlying9 hk
  obtain ⟨v, ps, hr, hv⟩ := h.look_ok key9 Tryz.underlying121 (zero_rule w) (zd := .held zeroR) (zp := []) rfl hkey
  obtain ⟨v2, ps2, hr2, hv2⟩ := h.lookup key9 Tryz.underlying121 (zero_rule w) (zd := .held zeroR) (zp := []) rfl hkey
  rw [h1] at hv hv2
  unfold RH at hv hv2
  simp only [Option.some.injEq, Prod.mk.injEq, DataW.held.injEq] at hv hv2
  rw [hv.1, h2] at hr
  rw [hv2.1] at hr2
  exact ⟨hr, hr2⟩
theorem lit_ne {a b : List UInt8} (h : a ≠ b) : (Lit.string a) ≠ .string b := fun e => h (by injection e)
theorem node_at (l : List UInt8) (ws : Value) : (nodeD).atKey (.string l) (.held zeroR) = .held (ruleVal (ruleT 1 l) ws) ∧ Go.Maps.has (nodeD) (.string l) = decide ((ruleT 1 l).1 ≠ 0) := by
  have e : ruleT 1 l = nodeR l := rfl
  rw [e]
  unfold nodeD nodeR
  have m0 : Go.Maps.IsMap (.map [] : DataW Value) := Go.Maps.isMap_empty
  have m1 := m0.put (.string [108, 97, 98, 101, 108]) (.held (mkRule 1 0 0 0 (.slice none 0 0)))
  have m2 := m1.put (.string [119, 105, 100, 116, 104]) (.held (mkRule 3 1 1048576 20000 (.slice none 0 0)))
  have m3 := m2.put (.string [104, 101, 105, 103, 104, 116]) (.held (mkRule 3 1 1048576 10000 (.slice none 0 0)))
  have m4 := m3.put (.string [112, 111, 114, 116, 115]) (.held (mkRule 2 0 0 0 (.slice none 0 0)))
  by_cases n0 : l = [108, 97, 98, 101, 108]
  · subst n0
    exact ⟨by rw [Go.Maps.atKey_put_other (lit_ne (a := [108, 97, 98, 101, 108]) (b := [112, 111, 114, 116, 115]) (by decide)), Go.Maps.atKey_put_other (lit_ne (a := [108, 97, 98, 101, 108]) (b := [104, 101, 105, 103, 104, 116]) (by decide)), Go.Maps.atKey_put_other (lit_ne (a := [108, 97, 98, 101, 108]) (b := [119, 105, 100, 116, 104]) (by decide)), Go.Maps.atKey_put_same m0 (key_lit _)]; rfl, by rw [Go.Maps.has_put_other (lit_ne (a := [108, 97, 98, 101, 108]) (b := [112, 111, 114, 116, 115]) (by decide)), Go.Maps.has_put_other (lit_ne (a := [108, 97, 98, 101, 108]) (b := [104, 101, 105, 103, 104, 116]) (by decide)), Go.Maps.has_put_other (lit_ne (a := [108, 97, 98, 101, 108]) (b := [119, 105, 100, 116, 104]) (by decide)), Go.Maps.has_put_same m0 (key_lit _)]; rfl⟩
  by_cases n1 : l = [119, 105, 100, 116, 104]
  · subst n1
    exact ⟨by rw [Go.Maps.atKey_put_other (lit_ne (a := [119, 105, 100, 116, 104]) (b := [112, 111, 114, 116, 115]) (by decide)), Go.Maps.atKey_put_other (lit_ne (a := [119, 105, 100, 116, 104]) (b := [104, 101, 105, 103, 104, 116]) (by decide)), Go.Maps.atKey_put_same m1 (key_lit _)]; rfl, by rw [Go.Maps.has_put_other (lit_ne (a := [119, 105, 100, 116, 104]) (b := [112, 111, 114, 116, 115]) (by decide)), Go.Maps.has_put_other (lit_ne (a := [119, 105, 100, 116, 104]) (b := [104, 101, 105, 103, 104, 116]) (by decide)), Go.Maps.has_put_same m1 (key_lit _)]; rfl⟩
  by_cases n2 : l = [104, 101, 105, 103, 104, 116]
  · subst n2
    exact ⟨by rw [Go.Maps.atKey_put_other (lit_ne (a := [104, 101, 105, 103, 104, 116]) (b := [112, 111, 114, 116, 115]) (by decide)), Go.Maps.atKey_put_same m2 (key_lit _)]; rfl, by rw [Go.Maps.has_put_other (lit_ne (a := [104, 101, 105, 103, 104, 116]) (b := [112, 111, 114, 116, 115]) (by decide)), Go.Maps.has_put_same m2 (key_lit _)]; rfl⟩
  by_cases n3 : l = [112, 111, 114, 116, 115]
  · subst n3
    exact ⟨by rw [Go.Maps.atKey_put_same m3 (key_lit _)]; rfl, by rw [Go.Maps.has_put_same m3 (key_lit _)]; rfl⟩
  exact ⟨by rw [Go.Maps.atKey_put_other (lit_ne n3), Go.Maps.atKey_put_other (lit_ne n2), Go.Maps.atKey_put_other (lit_ne n1), Go.Maps.atKey_put_other (lit_ne n0), if_neg n0, if_neg n1, if_neg n2, if_neg n3]; rfl, by rw [Go.Maps.has_put_other (lit_ne n3), Go.Maps.has_put_other (lit_ne n2), Go.Maps.has_put_other (lit_ne n1), Go.Maps.has_put_other (lit_ne n0), if_neg n0, if_neg n1, if_neg n2, if_neg n3]; rfl⟩
theorem edge_at (l : List UInt8) (ws : Value) : (edgeD).atKey (.string l) (.held zeroR) = .held (ruleVal (ruleT 2 l) ws) ∧ Go.Maps.has (edgeD) (.string l) = decide ((ruleT 2 l).1 ≠ 0) := by
  have e : ruleT 2 l = edgeR l := rfl
  rw [e]
  unfold edgeD edgeR
  have m0 : Go.Maps.IsMap (.map [] : DataW Value) := Go.Maps.isMap_empty
  have m1 := m0.put (.string [108, 97, 98, 101, 108]) (.held (mkRule 1 0 0 0 (.slice none 0 0)))
  have m2 := m1.put (.string [119, 101, 105, 103, 104, 116]) (.held (mkRule 4 1000 1000000 1000 (.slice none 0 0)))
  have m3 := m2.put (.string [108, 101, 110]) (.held (mkRule 4 1000 64000 1000 (.slice none 0 0)))
  by_cases n0 : l = [108, 97, 98, 101, 108]
  · subst n0
    exact ⟨by rw [Go.Maps.atKey_put_other (lit_ne (a := [108, 97, 98, 101, 108]) (b := [108, 101, 110]) (by decide)), Go.Maps.atKey_put_other (lit_ne (a := [108, 97, 98, 101, 108]) (b := [119, 101, 105, 103, 104, 116]) (by decide)), Go.Maps.atKey_put_same m0 (key_lit _)]; rfl, by rw [Go.Maps.has_put_other (lit_ne (a := [108, 97, 98, 101, 108]) (b := [108, 101, 110]) (by decide)), Go.Maps.has_put_other (lit_ne (a := [108, 97, 98, 101, 108]) (b := [119, 101, 105, 103, 104, 116]) (by decide)), Go.Maps.has_put_same m0 (key_lit _)]; rfl⟩
  by_cases n1 : l = [119, 101, 105, 103, 104, 116]
  · subst n1
    exact ⟨by rw [Go.Maps.atKey_put_other (lit_ne (a := [119, 101, 105, 103, 104, 116]) (b := [108, 101, 110]) (by decide)), Go.Maps.atKey_put_same m1 (key_lit _)]; rfl, by rw [Go.Maps.has_put_other (lit_ne (a := [119, 101, 105, 103, 104, 116]) (b := [108, 101, 110]) (by decide)), Go.Maps.has_put_same m1 (key_lit _)]; rfl⟩
  by_cases n2 : l = [108, 101, 110]
  · subst n2
    exact ⟨by rw [Go.Maps.atKey_put_same m2 (key_lit _)]; rfl, by rw [Go.Maps.has_put_same m2 (key_lit _)]; rfl⟩
  exact ⟨by rw [Go.Maps.atKey_put_other (lit_ne n2), Go.Maps.atKey_put_other (lit_ne n1), Go.Maps.atKey_put_other (lit_ne n0), if_neg n0, if_neg n1, if_neg n2]; rfl, by rw [Go.Maps.has_put_other (lit_ne n2), Go.Maps.has_put_other (lit_ne n1), Go.Maps.has_put_other (lit_ne n0), if_neg n0, if_neg n1, if_neg n2]; rfl⟩
theorem set_at (l : List UInt8) (ws : Value) : ((setD ws)).atKey (.string l) (.held zeroR) = .held (ruleVal (ruleT 4 l) ws) ∧ Go.Maps.has ((setD ws)) (.string l) = decide ((ruleT 4 l).1 ≠ 0) := by
  have e : ruleT 4 l = setR l := rfl
  rw [e]
  unfold setD setR
  have m0 : Go.Maps.IsMap (.map [] : DataW Value) := Go.Maps.isMap_empty
  have m1 := m0.put (.string [109, 111, 100, 101]) (.held (mkRule 5 0 0 0 ws))
  have m2 := m1.put (.string [110, 111, 100, 101, 115, 101, 112]) (.held (mkRule 3 0 1048576 10000 (.slice none 0 0)))
  have m3 := m2.put (.string [114, 97, 110, 107, 115, 101, 112]) (.held (mkRule 3 0 1048576 20000 (.slice none 0 0)))
  have m4 := m3.put (.string [109, 97, 114, 103, 105, 110]) (.held (mkRule 3 0 1048576 5000 (.slice none 0 0)))
  have m5 := m4.put (.string [114, 111, 117, 110, 100, 115]) (.held (mkRule 4 0 100000 8000 (.slice none 0 0)))
  by_cases n0 : l = [109, 111, 100, 101]
  · subst n0
    exact ⟨by rw [Go.Maps.atKey_put_other (lit_ne (a := [109, 111, 100, 101]) (b := [114, 111, 117, 110, 100, 115]) (by decide)), Go.Maps.atKey_put_other (lit_ne (a := [109, 111, 100, 101]) (b := [109, 97, 114, 103, 105, 110]) (by decide)), Go.Maps.atKey_put_other (lit_ne (a := [109, 111, 100, 101]) (b := [114, 97, 110, 107, 115, 101, 112]) (by decide)), Go.Maps.atKey_put_other (lit_ne (a := [109, 111, 100, 101]) (b := [110, 111, 100, 101, 115, 101, 112]) (by decide)), Go.Maps.atKey_put_same m0 (key_lit _)]; rfl, by rw [Go.Maps.has_put_other (lit_ne (a := [109, 111, 100, 101]) (b := [114, 111, 117, 110, 100, 115]) (by decide)), Go.Maps.has_put_other (lit_ne (a := [109, 111, 100, 101]) (b := [109, 97, 114, 103, 105, 110]) (by decide)), Go.Maps.has_put_other (lit_ne (a := [109, 111, 100, 101]) (b := [114, 97, 110, 107, 115, 101, 112]) (by decide)), Go.Maps.has_put_other (lit_ne (a := [109, 111, 100, 101]) (b := [110, 111, 100, 101, 115, 101, 112]) (by decide)), Go.Maps.has_put_same m0 (key_lit _)]; rfl⟩
  by_cases n1 : l = [110, 111, 100, 101, 115, 101, 112]
  · subst n1
    exact ⟨by rw [Go.Maps.atKey_put_other (lit_ne (a := [110, 111, 100, 101, 115, 101, 112]) (b := [114, 111, 117, 110, 100, 115]) (by decide)), Go.Maps.atKey_put_other (lit_ne (a := [110, 111, 100, 101, 115, 101, 112]) (b := [109, 97, 114, 103, 105, 110]) (by decide)), Go.Maps.atKey_put_other (lit_ne (a := [110, 111, 100, 101, 115, 101, 112]) (b := [114, 97, 110, 107, 115, 101, 112]) (by decide)), Go.Maps.atKey_put_same m1 (key_lit _)]; rfl, by rw [Go.Maps.has_put_other (lit_ne (a := [110, 111, 100, 101, 115, 101, 112]) (b := [114, 111, 117, 110, 100, 115]) (by decide)), Go.Maps.has_put_other (lit_ne (a := [110, 111, 100, 101, 115, 101, 112]) (b := [109, 97, 114, 103, 105, 110]) (by decide)), Go.Maps.has_put_other (lit_ne (a := [110, 111, 100, 101, 115, 101, 112]) (b := [114, 97, 110, 107, 115, 101, 112]) (by decide)), Go.Maps.has_put_same m1 (key_lit _)]; rfl⟩
  by_cases n2 : l = [114, 97, 110, 107, 115, 101, 112]
  · subst n2
    exact ⟨by rw [Go.Maps.atKey_put_other (lit_ne (a := [114, 97, 110, 107, 115, 101, 112]) (b := [114, 111, 117, 110, 100, 115]) (by decide)), Go.Maps.atKey_put_other (lit_ne (a := [114, 97, 110, 107, 115, 101, 112]) (b := [109, 97, 114, 103, 105, 110]) (by decide)), Go.Maps.atKey_put_same m2 (key_lit _)]; rfl, by rw [Go.Maps.has_put_other (lit_ne (a := [114, 97, 110, 107, 115, 101, 112]) (b := [114, 111, 117, 110, 100, 115]) (by decide)), Go.Maps.has_put_other (lit_ne (a := [114, 97, 110, 107, 115, 101, 112]) (b := [109, 97, 114, 103, 105, 110]) (by decide)), Go.Maps.has_put_same m2 (key_lit _)]; rfl⟩
  by_cases n3 : l = [109, 97, 114, 103, 105, 110]
  · subst n3
    exact ⟨by rw [Go.Maps.atKey_put_other (lit_ne (a := [109, 97, 114, 103, 105, 110]) (b := [114, 111, 117, 110, 100, 115]) (by decide)), Go.Maps.atKey_put_same m3 (key_lit _)]; rfl, by rw [Go.Maps.has_put_other (lit_ne (a := [109, 97, 114, 103, 105, 110]) (b := [114, 111, 117, 110, 100, 115]) (by decide)), Go.Maps.has_put_same m3 (key_lit _)]; rfl⟩
  by_cases n4 : l = [114, 111, 117, 110, 100, 115]
  · subst n4
    exact ⟨by rw [Go.Maps.atKey_put_same m4 (key_lit _)]; rfl, by rw [Go.Maps.has_put_same m4 (key_lit _)]; rfl⟩
  exact ⟨by rw [Go.Maps.atKey_put_other (lit_ne n4), Go.Maps.atKey_put_other (lit_ne n3), Go.Maps.atKey_put_other (lit_ne n2), Go.Maps.atKey_put_other (lit_ne n1), Go.Maps.atKey_put_other (lit_ne n0), if_neg n0, if_neg n1, if_neg n2, if_neg n3, if_neg n4]; rfl, by rw [Go.Maps.has_put_other (lit_ne n4), Go.Maps.has_put_other (lit_ne n3), Go.Maps.has_put_other (lit_ne n2), Go.Maps.has_put_other (lit_ne n1), Go.Maps.has_put_other (lit_ne n0), if_neg n0, if_neg n1, if_neg n2, if_neg n3, if_neg n4]; rfl⟩
theorem look_nil (w : World) (kind : Int) (h1 : kind ≠ 1) (h2 : kind ≠ 2) (h4 : kind ≠ 4) (ws : Value) : LookAt w (.map none) kind ws := fun key hk => by
  have hkey := Go.WideMaps.keyOf_string_mk (P := Tryz.prog) Tryz.underlying9 hk
  have e : ruleT kind key.data.toList = (0, 0, 0, 0) := by unfold ruleT; rw [if_neg h1, if_neg h2, if_neg h4]
  rw [e]
  exact ⟨Go.Maps.look_nil true key9 Tryz.underlying121 (zero_rule w) hkey, Go.Maps.look_nil false key9 Tryz.underlying121 (zero_rule w) hkey⟩
set_option maxHeartbeats 1000000 in
theorem rules_none (kind : Int) (w : World) (h1 : kind ≠ 1) (h2 : kind ≠ 2) (h4 : kind ≠ 4) :
    Calls Tryz.prog 60 #[.int .i64 kind] w fun e w' => e = .returned (.map none) ∧ w = w' := by
  obtain ⟨f1, _⟩ := ne_facts h1
  obtain ⟨f2, _⟩ := ne_facts h2
  obtain ⟨f4, _⟩ := ne_facts h4
  go_enter Tryz.func60, Tryz.ntmps60
  go_wp2
  go_returns
  exact ⟨rfl, rfl⟩
theorem rules_any (kind : Int) (w : World) :
    Calls Tryz.prog 60 #[.int .i64 kind] w fun e w' => ∃ m ws, e = .returned m ∧ LookAt w' m kind ws ∧ (∀ o, LookAt (w'.alloc o) m kind ws) ∧ (kind = 4 → WordsN w.heap.size w' ws) ∧ Ext w w' := by
  by_cases h1 : kind = 1
  · subst h1
    refine (rules_node w).mono ?_
    rintro e w' ⟨rfl, h, x⟩
    exact ⟨_, .slice none 0 0, rfl, look_at h (fun l => (node_at l _).1) (fun l => (node_at l (.slice none 0 0)).2), fun o => look_at (h.alloc o) (fun l => (node_at l _).1) (fun l => (node_at l (.slice none 0 0)).2), fun e => absurd e (by decide), x⟩
  by_cases h2 : kind = 2
  · subst h2
    refine (rules_edge w).mono ?_
    rintro e w' ⟨rfl, h, x⟩
    exact ⟨_, .slice none 0 0, rfl, look_at h (fun l => (edge_at l _).1) (fun l => (edge_at l (.slice none 0 0)).2), fun o => look_at (h.alloc o) (fun l => (edge_at l _).1) (fun l => (edge_at l (.slice none 0 0)).2), fun e => absurd e (by decide), x⟩
  by_cases h4 : kind = 4
  · subst h4
    refine (rules_set w).mono ?_
    rintro e w' ⟨rfl, h, x, hc⟩
    exact ⟨_, _, rfl, look_at h (fun l => (set_at l _).1) (fun l => (set_at l _).2), fun o => look_at (h.alloc o) (fun l => (set_at l _).1) (fun l => (set_at l _).2), fun _ => ⟨_, Nat.le_succ _, rfl, hc⟩, x⟩
  · refine (rules_none kind w h1 h2 h4).mono ?_
    rintro e w' ⟨rfl, rfl⟩
    exact ⟨_, .slice none 0 0, rfl, look_nil _ _ h1 h2 h4 _, fun o => look_nil _ _ h1 h2 h4 _, fun e => absurd e h4, Ext.refl _⟩
end Go.Proofs.YtnancphlkbfglaaGreatDoor.At

namespace Go.Proofs.YtnancphlkbfglaaGreatDoor.At
open Go.RowKit Go.Sort Go.Lib Go.Shelf Fx Lx
def nodeK (l : List UInt8) : Rul := if l = [108, 97, 98, 101, 108] then (1, 0, 0, 0) else if l = [119, 105, 100, 116, 104] then (2, 1, 1048576, 20000) else if l = [104, 101, 105, 103, 104, 116] then (2, 1, 1048576, 10000) else if l = [112, 111, 114, 116, 115] then (4, 0, 0, 0) else (0, 0, 0, 0)
def edgeK (l : List UInt8) : Rul := if l = [108, 97, 98, 101, 108] then (1, 0, 0, 0) else if l = [119, 101, 105, 103, 104, 116] then (3, 1, 1000, 1) else if l = [108, 101, 110] then (3, 1, 64, 1) else (0, 0, 0, 0)
def setK (l : List UInt8) : Rul := if l = [109, 111, 100, 101] then (5, 0, 0, 0) else if l = [110, 111, 100, 101, 115, 101, 112] then (2, 0, 1048576, 10000) else if l = [114, 97, 110, 107, 115, 101, 112] then (2, 0, 1048576, 20000) else if l = [109, 97, 114, 103, 105, 110] then (2, 0, 1048576, 5000) else if l = [114, 111, 117, 110, 100, 115] then (3, 0, 100, 8) else (0, 0, 0, 0)
def knownT (kind : Int) (l : List UInt8) : Rul := if kind = 1 then nodeK l else if kind = 2 then edgeK l else if kind = 4 then setK l else (0, 0, 0, 0)
def knownV (r : Rul) : Value := .agg #[.int .i64 r.1, .int .i64 r.2.1, .int .i64 r.2.2.1, .int .i64 r.2.2.2]
theorem key_eq (key : ByteArray) (l : List UInt8) (h : key.data.toList = l) : key = ⟨l.toArray⟩ := by
  apply ByteArray.ext
  apply Array.toList_inj.1
  rw [h]
theorem key_ne (key : ByteArray) (l : List UInt8) (h : key.data.toList ≠ l) : (key.toList == l) = false := by
  rw [ByteArray.toList_eq]; simpa using h
set_option maxHeartbeats 2000000 in
set_option maxRecDepth 100000 in
theorem known_node (key : ByteArray) (w : World) :
    Calls Tryz.prog 89 #[.int .i64 1, .string key] w fun e w' => e = .returned (knownV (nodeK key.data.toList)) ∧ Ext w w' := by
  by_cases n0 : key.data.toList = [108, 97, 98, 101, 108]
  · have e : nodeK key.data.toList = (1, 0, 0, 0) := by rw [n0]; rfl
    rw [e]
    obtain rfl := key_eq _ _ n0
    clear e n0
    go_enter Tryz.func89, Tryz.ntmps89
    go_wp2
    go_returns
    exact ⟨rfl, ((Ext.refl _).alloc _)⟩
  by_cases n1 : key.data.toList = [119, 105, 100, 116, 104]
  · have e : nodeK key.data.toList = (2, 1, 1048576, 20000) := by rw [n1]; rfl
    rw [e]
    obtain rfl := key_eq _ _ n1
    clear e n0 n1
    go_enter Tryz.func89, Tryz.ntmps89
    go_wp2
    go_returns
    exact ⟨rfl, ((Ext.refl _).alloc _)⟩
  by_cases n2 : key.data.toList = [104, 101, 105, 103, 104, 116]
  · have e : nodeK key.data.toList = (2, 1, 1048576, 10000) := by rw [n2]; rfl
    rw [e]
    obtain rfl := key_eq _ _ n2
    clear e n0 n1 n2
    go_enter Tryz.func89, Tryz.ntmps89
    go_wp2
    go_returns
    exact ⟨rfl, ((Ext.refl _).alloc _)⟩
  by_cases n3 : key.data.toList = [112, 111, 114, 116, 115]
  · have e : nodeK key.data.toList = (4, 0, 0, 0) := by rw [n3]; rfl
    rw [e]
    obtain rfl := key_eq _ _ n3
    clear e n0 n1 n2 n3
    go_enter Tryz.func89, Tryz.ntmps89
    go_wp2
    go_returns
    exact ⟨rfl, ((Ext.refl _).alloc _)⟩
  have e : nodeK key.data.toList = (0, 0, 0, 0) := by unfold nodeK; rw [if_neg n0, if_neg n1, if_neg n2, if_neg n3]
  rw [e]
  have f0 := key_ne _ _ n0
  have f1 := key_ne _ _ n1
  have f2 := key_ne _ _ n2
  have f3 := key_ne _ _ n3
  clear e n0 n1 n2 n3
  go_enter Tryz.func89, Tryz.ntmps89
  go_wp2
  go_returns
  exact ⟨rfl, ((Ext.refl _).alloc _)⟩
set_option maxHeartbeats 2000000 in
set_option maxRecDepth 100000 in
theorem known_edge (key : ByteArray) (w : World) :
    Calls Tryz.prog 89 #[.int .i64 2, .string key] w fun e w' => e = .returned (knownV (edgeK key.data.toList)) ∧ Ext w w' := by
  by_cases n0 : key.data.toList = [108, 97, 98, 101, 108]
  · have e : edgeK key.data.toList = (1, 0, 0, 0) := by rw [n0]; rfl
    rw [e]
    obtain rfl := key_eq _ _ n0
    clear e n0
    go_enter Tryz.func89, Tryz.ntmps89
    go_wp2
    go_returns
    exact ⟨rfl, ((Ext.refl _).alloc _)⟩
  by_cases n1 : key.data.toList = [119, 101, 105, 103, 104, 116]
  · have e : edgeK key.data.toList = (3, 1, 1000, 1) := by rw [n1]; rfl
    rw [e]
    obtain rfl := key_eq _ _ n1
    clear e n0 n1
    go_enter Tryz.func89, Tryz.ntmps89
    go_wp2
    go_returns
    exact ⟨rfl, ((Ext.refl _).alloc _)⟩
  by_cases n2 : key.data.toList = [108, 101, 110]
  · have e : edgeK key.data.toList = (3, 1, 64, 1) := by rw [n2]; rfl
    rw [e]
    obtain rfl := key_eq _ _ n2
    clear e n0 n1 n2
    go_enter Tryz.func89, Tryz.ntmps89
    go_wp2
    go_returns
    exact ⟨rfl, ((Ext.refl _).alloc _)⟩
  have e : edgeK key.data.toList = (0, 0, 0, 0) := by unfold edgeK; rw [if_neg n0, if_neg n1, if_neg n2]
  rw [e]
  have f0 := key_ne _ _ n0
  have f1 := key_ne _ _ n1
  have f2 := key_ne _ _ n2
  clear e n0 n1 n2
  go_enter Tryz.func89, Tryz.ntmps89
  go_wp2
  go_returns
  exact ⟨rfl, ((Ext.refl _).alloc _)⟩
set_option maxHeartbeats 2000000 in
set_option maxRecDepth 100000 in
theorem known_set (key : ByteArray) (w : World) :
    Calls Tryz.prog 89 #[.int .i64 4, .string key] w fun e w' => e = .returned (knownV (setK key.data.toList)) ∧ Ext w w' := by
  by_cases n0 : key.data.toList = [109, 111, 100, 101]
  · have e : setK key.data.toList = (5, 0, 0, 0) := by rw [n0]; rfl
    rw [e]
    obtain rfl := key_eq _ _ n0
    clear e n0
    go_enter Tryz.func89, Tryz.ntmps89
    go_wp2
    go_returns
    exact ⟨rfl, ((Ext.refl _).alloc _)⟩
  by_cases n1 : key.data.toList = [110, 111, 100, 101, 115, 101, 112]
  · have e : setK key.data.toList = (2, 0, 1048576, 10000) := by rw [n1]; rfl
    rw [e]
    obtain rfl := key_eq _ _ n1
    clear e n0 n1
    go_enter Tryz.func89, Tryz.ntmps89
    go_wp2
    go_returns
    exact ⟨rfl, ((Ext.refl _).alloc _)⟩
  by_cases n2 : key.data.toList = [114, 97, 110, 107, 115, 101, 112]
  · have e : setK key.data.toList = (2, 0, 1048576, 20000) := by rw [n2]; rfl
    rw [e]
    obtain rfl := key_eq _ _ n2
    clear e n0 n1 n2
    go_enter Tryz.func89, Tryz.ntmps89
    go_wp2
    go_returns
    exact ⟨rfl, ((Ext.refl _).alloc _)⟩
  by_cases n3 : key.data.toList = [109, 97, 114, 103, 105, 110]
  · have e : setK key.data.toList = (2, 0, 1048576, 5000) := by rw [n3]; rfl
    rw [e]
    obtain rfl := key_eq _ _ n3
    clear e n0 n1 n2 n3
    go_enter Tryz.func89, Tryz.ntmps89
    go_wp2
    go_returns
    exact ⟨rfl, ((Ext.refl _).alloc _)⟩
  by_cases n4 : key.data.toList = [114, 111, 117, 110, 100, 115]
  · have e : setK key.data.toList = (3, 0, 100, 8) := by rw [n4]; rfl
    rw [e]
    obtain rfl := key_eq _ _ n4
    clear e n0 n1 n2 n3 n4
    go_enter Tryz.func89, Tryz.ntmps89
    go_wp2
    go_returns
    exact ⟨rfl, ((Ext.refl _).alloc _)⟩
  have e : setK key.data.toList = (0, 0, 0, 0) := by unfold setK; rw [if_neg n0, if_neg n1, if_neg n2, if_neg n3, if_neg n4]
  rw [e]
  have f0 := key_ne _ _ n0
  have f1 := key_ne _ _ n1
  have f2 := key_ne _ _ n2
  have f3 := key_ne _ _ n3
  have f4 := key_ne _ _ n4
  clear e n0 n1 n2 n3 n4
  go_enter Tryz.func89, Tryz.ntmps89
  go_wp2
  go_returns
  exact ⟨rfl, ((Ext.refl _).alloc _)⟩
set_option maxHeartbeats 2000000 in
set_option maxRecDepth 100000 in
theorem known_other (kind : Int) (key : ByteArray) (w : World) (h1 : kind ≠ 1) (h2 : kind ≠ 2) (h4 : kind ≠ 4) :
    Calls Tryz.prog 89 #[.int .i64 kind, .string key] w fun e w' => e = .returned (knownV (0, 0, 0, 0)) ∧ Ext w w' := by
  obtain ⟨f1, _⟩ := ne_facts h1
  obtain ⟨f2, _⟩ := ne_facts h2
  obtain ⟨f4, _⟩ := ne_facts h4
  go_enter Tryz.func89, Tryz.ntmps89
  go_wp2
  go_returns
  exact ⟨rfl, ((Ext.refl _).alloc _)⟩
theorem known_any (kind : Int) (key : ByteArray) (w : World) :
    Calls Tryz.prog 89 #[.int .i64 kind, .string key] w fun e w' => e = .returned (knownV (knownT kind key.data.toList)) ∧ Ext w w' := by
  by_cases h1 : kind = 1
  · subst h1; exact known_node key w
  by_cases h2 : kind = 2
  · subst h2; exact known_edge key w
  by_cases h4 : kind = 4
  · subst h4; exact known_set key w
  have e : knownT kind key.data.toList = (0, 0, 0, 0) := by unfold knownT; rw [if_neg h1, if_neg h2, if_neg h4]
  rw [e]
  exact known_other kind key w h1 h2 h4
end Go.Proofs.YtnancphlkbfglaaGreatDoor.At
