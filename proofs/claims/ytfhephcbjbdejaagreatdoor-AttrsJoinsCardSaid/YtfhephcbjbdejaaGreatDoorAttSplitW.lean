/- What the document's split returns: the walk. -/
import Derived.Test.YtfhephcbjbdejaaGreatDoorAttSplit
namespace Go.Proofs.YtfhephcbjbdejaaGreatDoor.At
open Go.RowKit Go.Sort Go.Lib Go.Shelf Fx Lx

theorem info_str : (Tryz.prog.info? 9).map (fun i => (i.zero, i.size, i.bytes)) = some (some (.string ⟨#[]⟩), 1, 16) := by kernel_rfl
theorem splitFrom_step (s : ByteArray) (a i f : Nat) (h : i + 1 < s.size) : splitFrom s a i (f + 1) =
    if s[i].toNat = 44 ∧ s[i + 1].toNat = 32 then s.extract a i :: splitFrom s (i + 2) (i + 2) f else splitFrom s a (i + 1) f := by
  show (if i + 1 < s.size then _ else _) = _
  rw [if_pos h, bt_at s i (by omega), bt_at s (i + 1) h]
  have e : ∀ b c : UInt8, b = c ↔ b.toNat = c.toNat := fun b c => ⟨fun h => by rw [h], fun h => UInt8.toNat_inj.1 h⟩
  by_cases h1 : s[i] = 44 ∧ s[i + 1] = 32
  · rw [if_pos h1, if_pos ⟨by rw [h1.1]; rfl, by rw [h1.2]; rfl⟩]
  · rw [if_neg h1, if_neg (fun h2 => h1 ⟨(e _ _).2 h2.1, (e _ _).2 h2.2⟩)]
theorem splitFrom_end (s : ByteArray) (a i f : Nat) (h : ¬ i + 1 < s.size) : splitFrom s a i f = [s.extract a s.size] := by
  cases f with
  | zero => rfl
  | succ f => show (if i + 1 < s.size then _ else _) = _; rw [if_neg h]

set_option maxHeartbeats 1000000 in
set_option maxRecDepth 1000000 in
theorem splitR_any (s : ByteArray) (w : World) (hs : s.size ≤ 4294967281) :
    Calls Tryz.prog 43 #[.string s] w fun e w' => (∃ v, e = .returned v ∧ w'.ownsRow w.heap.size 9 1 v (parts s).length ((parts s).map Value.string)) ∧ Ext w w' := by
  obtain ⟨R, hR⟩ : ∃ R, R = parts s := ⟨_, rfl⟩
  have HR : Hid (R = [] ++ splitFrom s 0 0 s.size) := Lib.hid (by rw [hR, split_all s _ (Nat.le_refl _)]; rfl)
  rw [← hR]
  clear hR
  obtain ⟨i0, hi, hz0, hz1, hz2⟩ := info_parts info_str
  go_enter Tryz.func43, Tryz.ntmps43
  go_wp2_with fail
  have ho0 : (w.alloc (.cells #[] 9)).ownsRow w.heap.size 9 1 (.slice (some ⟨w.heap.size, 0, none⟩) 0 0) 0 [] := World.ownsRow_made w #[] 0 (Nat.le_refl _) (by unfold maxLen; omega) rfl
  have hx0 : Ext w (w.alloc (.cells #[] 9)) := (Ext.refl _).alloc _
  go_loopw [3, 4, 5] (fun out a' i' wr => ∃ (a i f : Nat) (D : List ByteArray), a' = .int .i64 a ∧ i' = .int .i64 i ∧ a ≤ i ∧ i ≤ s.size ∧ s.size ≤ i + f ∧ wr.ownsRow w.heap.size 9 1 out D.length (D.map Value.string) ∧ Ext w wr ∧ Hid (R = D ++ splitFrom s a i f) ∧ D.length ≤ i)
    (fun _ _ i' _ => s.size - (RowKit.intOf i').toNat)
  case atStart => exact ⟨0, 0, s.size, [], rfl, rfl, by omega, by omega, by omega, ho0, hx0, HR, by simp⟩
  case round =>
    obtain ⟨a, i, f, D, rfl, rfl, hai, hi1, hf, hown, hx, ha, hD⟩ := hrel
    clear HR
    have hxs := hx.size
    by_cases hp : i + 1 < s.size
    · obtain ⟨f, rfl⟩ : ∃ f', f = f' + 1 := ⟨f - 1, by omega⟩
      have hst := ha.out
      rw [splitFrom_step s a i f hp] at hst
      clear ha
      by_cases h1 : s[i].toNat = 44
      · obtain ⟨f1, _⟩ := eq_facts (x := (s[i].toNat : Int)) (k := 44) (by omega)
        by_cases h2 : s[i + 1].toNat = 32
        · rw [if_pos ⟨h1, h2⟩] at hst
          obtain ⟨f2, _⟩ := eq_facts (x := (s[i + 1].toNat : Int)) (k := 32) (by omega)
          have hf2 : Hid (R = (D ++ [s.extract a i]) ++ splitFrom s (i + 2) (i + 2) f) := Lib.hid (by rw [hst]; simp)
          clear hst h1 h2
          go_wp2_with (at_builtin; refine wpList_append_own _ rfl _ _ 59 rfl w.heap.size 9 i0 _ 1 16 Tryz.underlying59 hi hz0 hz1 hz2 rfl (by decide) _ _ _ rfl (hown.alloc _) ⟨wr.heap.size, 0, none⟩ 1 1 [.string (s.extract a i)] rfl rfl ?c1 ?c2 ?c3 ?c4 ?c5 ?_)
          case c1 => exact fun j u hj => cell_new1 wr [.string (s.extract a i)] 9 j u hj
          case c2 => intro u hu; simp at hu; rcases hu with rfl; rfl
          case c3 => unfold maxLen; omega
          case c4 => omega
          case c5 => simp; omega
          intro v' w5 hown' hgrow _
          have hown2 : w5.ownsRow w.heap.size 9 1 v' (D ++ [s.extract a i]).length ((D ++ [s.extract a i]).map Value.string) := by simpa using hown'
          have hx5 : Ext w w5 := Below.grown (hx.alloc _) hgrow (by simp; omega) (fun k hk => (hown.lt k hk).1)
          clear hown' hgrow hown
          go_wp2
          go_roundw
          case rel => exact ⟨i + 2, i + 2, f, D ++ [s.extract a i], by go_num, by go_num, by omega, by omega, by omega, hown2, hx5, hf2, by simp; omega⟩
          case measure => simp [RowKit.intOf]; omega
        · rw [if_neg (fun h => h2 h.2)] at hst
          obtain ⟨f2, _⟩ := ne_facts (x := (s[i + 1].toNat : Int)) (k := 32) (by omega)
          have hf2 := Lib.hid hst
          clear hst h1 h2
          go_wp2
          go_roundw
          case rel => exact ⟨a, i + 1, f, D, rfl, by go_num, by omega, by omega, by omega, hown, hx, hf2, by omega⟩
          case measure => simp [RowKit.intOf]; omega
      · rw [if_neg (fun h => h1 h.1)] at hst
        obtain ⟨f1, _⟩ := ne_facts (x := (s[i].toNat : Int)) (k := 44) (by omega)
        have hf2 := Lib.hid hst
        clear hst h1
        go_wp2
        go_roundw
        case rel => exact ⟨a, i + 1, f, D, rfl, by go_num, by omega, by omega, by omega, hown, hx, hf2, by omega⟩
        case measure => simp [RowKit.intOf]; omega
    · have hf2 : Hid (R = D ++ [s.extract a s.size]) := Lib.hid (by rw [ha.out, splitFrom_end s a i f hp])
      clear ha
      go_wp2_with (at_builtin; refine wpList_append_own _ rfl _ _ 59 rfl w.heap.size 9 i0 _ 1 16 Tryz.underlying59 hi hz0 hz1 hz2 rfl (by decide) _ _ _ rfl (hown.alloc _) ⟨wr.heap.size, 0, none⟩ 1 1 [.string (s.extract a s.size)] rfl rfl ?c1 ?c2 ?c3 ?c4 ?c5 ?_)
      case c1 => exact fun j u hj => cell_new1 wr [.string (s.extract a s.size)] 9 j u hj
      case c2 => intro u hu; simp at hu; rcases hu with rfl; rfl
      case c3 => unfold maxLen; omega
      case c4 => omega
      case c5 => simp; omega
      intro v' w5 hown' hgrow _
      have hown2 : w5.ownsRow w.heap.size 9 1 v' (D ++ [s.extract a s.size]).length ((D ++ [s.extract a s.size]).map Value.string) := by simpa using hown'
      have hx5 : Ext w w5 := Below.grown (hx.alloc _) hgrow (by simp; omega) (fun k hk => (hown.lt k hk).1)
      clear hown' hgrow hown
      go_wp2
      go_returns
      rw [hf2.out]
      exact ⟨⟨_, rfl, hown2⟩, hx5⟩
end Go.Proofs.YtfhephcbjbdejaaGreatDoor.At
