/- What the document's Side, Mode and Name return. -/
import Derived.Test.YtfhephcbjbdejaaGreatDoorAttPorts
namespace Go.Proofs.YtfhephcbjbdejaaGreatDoor.At
open Go.RowKit Go.Sort Go.Lib Go.Shelf Fx Lx

set_option maxHeartbeats 2000000 in
theorem sideR_any (x : ByteArray) (w : World) :
    Calls Tryz.prog 44 #[.string x] w fun e w' => e = .returned (.int .i64 (sideN x)) ∧ Ext w w' := by
  have hz := sides_cell w
  unfold sidesC at hz
  have HZ := Lib.hid hz
  clear hz
  go_enter Tryz.func44, Tryz.ntmps44
  go_wp2_with fail
  go_loop [4] (fun i' => ∃ k : Nat, k ≤ 4 ∧ i' = .int .i64 k ∧ Hid (∀ j, j < k → sidesL.getD j ByteArray.empty ≠ x)) (fun i' => 4 - (RowKit.intOf i').toNat)
  case atStart => exact ⟨0, by omega, rfl, Lib.hid (fun j h => absurd h (by omega))⟩
  case round =>
    obtain ⟨k, hk, rfl, hall⟩ := hrel
    by_cases hlt : k < 4
    · have c0 := HZ.out k hlt
      rw [Nat.zero_add] at c0
      obtain ⟨z, hz⟩ : ∃ z, z = sidesL.getD k ByteArray.empty := ⟨_, rfl⟩
      rw [← hz] at c0
      have HZK := Lib.hid hz
      clear hz
      by_cases heq : z = x
      · have hf : Hid (sideN x = k) := Lib.hid (by
          have := Lib.idxFromS_hit x sidesL k 0 hlt (by rw [← HZK.out]; exact heq) hall.out
          unfold sideN Lib.idxOfS; rw [this]; simp)
        have g1 : (z.toList == x.toList) = true := by rw [beqs]; exact decide_eq_true heq
        clear heq hall HZK
        go_wp2_with fail
        go_returns
        exact ⟨by rw [hf.out]; rfl, (Ext.refl _).alloc _⟩
      · have hf : Hid (∀ j, j < k + 1 → sidesL.getD j ByteArray.empty ≠ x) := Lib.hid (fun j h => by
          by_cases e : j = k
          · subst e; rw [← HZK.out]; exact heq
          · exact hall.out j (by omega))
        have g1 : (z.toList == x.toList) = false := by rw [beqs]; exact decide_eq_false heq
        clear heq hall HZK
        go_wp2_with fail
        go_round
        case rel => exact ⟨k + 1, by omega, by go_num, hf⟩
        case measure => simp [RowKit.intOf]; omega
    · obtain rfl : k = 4 := by omega
      have hf : Hid (sideN x = -1) := Lib.hid (by
        unfold sideN Lib.idxOfS
        exact Lib.idxFromS_miss x sidesL 0 (fun j hj => hall.out j hj))
      clear hall
      go_wp2_with fail
      go_returns
      exact ⟨by rw [hf.out]; rfl, (Ext.refl _).alloc _⟩
def modesL : List ByteArray := [⟨#[108, 97, 121, 101, 114, 101, 100]⟩, ⟨#[111, 114, 116, 104, 111, 103, 111, 110, 97, 108]⟩, ⟨#[115, 116, 114, 97, 105, 103, 104, 116]⟩, ⟨#[116, 105, 100, 121]⟩, ⟨#[114, 97, 100, 105, 97, 108]⟩]
/-- The number of a mode, -1 for none. -/
def modeN (s : ByteArray) : Int := Lib.idxOfS modesL s
def modesC : Array Value := #[.string ⟨#[108, 97, 121, 101, 114, 101, 100]⟩, .string ⟨#[111, 114, 116, 104, 111, 103, 111, 110, 97, 108]⟩, .string ⟨#[115, 116, 114, 97, 105, 103, 104, 116]⟩, .string ⟨#[116, 105, 100, 121]⟩, .string ⟨#[114, 97, 100, 105, 97, 108]⟩]
theorem modes_cell (w : World) (j : Nat) (hj : j < modesL.length) : (w.alloc (.cells modesC 9)).cell? ⟨w.heap.size, 0 + j, none⟩ = some (.string (modesL.getD j ByteArray.empty)) := by
  have hb := heap_alloc_new w (.cells modesC 9)
  rw [Lib.cell_of_heap hb]
  have : j < 5 := hj
  match j, this with
  | 0, _ => rfl
  | 1, _ => rfl
  | 2, _ => rfl
  | 3, _ => rfl
  | 4, _ => rfl
set_option maxHeartbeats 2000000 in
theorem modeR_any (x : ByteArray) (w : World) :
    Calls Tryz.prog 49 #[.string x] w fun e w' => e = .returned (.int .i64 (modeN x)) ∧ Ext w w' := by
  have hz := modes_cell w
  unfold modesC at hz
  have HZ := Lib.hid hz
  clear hz
  go_enter Tryz.func49, Tryz.ntmps49
  go_wp2_with fail
  go_loop [4] (fun i' => ∃ k : Nat, k ≤ 5 ∧ i' = .int .i64 k ∧ Hid (∀ j, j < k → modesL.getD j ByteArray.empty ≠ x)) (fun i' => 5 - (RowKit.intOf i').toNat)
  case atStart => exact ⟨0, by omega, rfl, Lib.hid (fun j h => absurd h (by omega))⟩
  case round =>
    obtain ⟨k, hk, rfl, hall⟩ := hrel
    by_cases hlt : k < 5
    · have c0 := HZ.out k hlt
      rw [Nat.zero_add] at c0
      obtain ⟨z, hz⟩ : ∃ z, z = modesL.getD k ByteArray.empty := ⟨_, rfl⟩
      rw [← hz] at c0
      have HZK := Lib.hid hz
      clear hz
      by_cases heq : z = x
      · have hf : Hid (modeN x = k) := Lib.hid (by
          have := Lib.idxFromS_hit x modesL k 0 hlt (by rw [← HZK.out]; exact heq) hall.out
          unfold modeN Lib.idxOfS; rw [this]; simp)
        have g1 : (z.toList == x.toList) = true := by rw [beqs]; exact decide_eq_true heq
        clear heq hall HZK
        go_wp2_with fail
        go_returns
        exact ⟨by rw [hf.out]; rfl, (Ext.refl _).alloc _⟩
      · have hf : Hid (∀ j, j < k + 1 → modesL.getD j ByteArray.empty ≠ x) := Lib.hid (fun j h => by
          by_cases e : j = k
          · subst e; rw [← HZK.out]; exact heq
          · exact hall.out j (by omega))
        have g1 : (z.toList == x.toList) = false := by rw [beqs]; exact decide_eq_false heq
        clear heq hall HZK
        go_wp2_with fail
        go_round
        case rel => exact ⟨k + 1, by omega, by go_num, hf⟩
        case measure => simp [RowKit.intOf]; omega
    · obtain rfl : k = 5 := by omega
      have hf : Hid (modeN x = -1) := Lib.hid (by
        unfold modeN Lib.idxOfS
        exact Lib.idxFromS_miss x modesL 0 (fun j hj => hall.out j hj))
      clear hall
      go_wp2_with fail
      go_returns
      exact ⟨by rw [hf.out]; rfl, (Ext.refl _).alloc _⟩
end Go.Proofs.YtfhephcbjbdejaaGreatDoor.At
