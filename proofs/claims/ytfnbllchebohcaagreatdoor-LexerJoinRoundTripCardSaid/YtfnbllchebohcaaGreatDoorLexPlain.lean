/- What plain and Plain return, and the document's Quote. NOT BUILT YET (written for the seat of LexerQuotes). -/
import Derived.Test.YtfnbllchebohcaaGreatDoorLexRefA
import Derived.Test.YtfnbllchebohcaaGreatDoorLexQuote
namespace Go.Proofs.YtfnbllchebohcaaGreatDoor.Lx
open Go.RowKit Go.Sort Go.Lib Go.Shelf Fx

theorem plain_cons (b : UInt8) (r : List UInt8) : plainB (b :: r) = (decide (32 ≤ b.toNat ∧ b.toNat ≤ 126) && plainB r) := rfl

set_option maxHeartbeats 4000000 in
set_option maxRecDepth 1000000 in
theorem plain_any (s : ByteArray) (hs : s.size ≤ 35184372088832) (w : World) :
    Calls Tryz.prog 14 #[.string s] w fun e w' => e = .returned (.bool (plainB s.data.toList)) ∧ Ext w w' := by
  obtain ⟨P, hP⟩ : ∃ P, P = plainB s.data.toList := ⟨_, rfl⟩
  have HP : Hid (P = plainB (s.data.toList.drop 0)) := Lib.hid (by rw [hP]; rfl)
  rw [← hP]; clear hP
  go_enter Tryz.func14, Tryz.ntmps14
  go_wp2
  go_loopw [] (fun wr => ∃ (pos : Nat), wr.heap[w.heap.size]? = some (.stringIter s pos) ∧ Below w.heap.size w wr ∧ Hid (P = plainB (s.data.toList.drop pos))) (fun wr => s.size - wr.iterPos w.heap.size)
  case atStart =>
    refine ⟨0, ?_, (Below.refl _ w).alloc (Nat.le_refl _) _, HP⟩
    have := World.iter_heap w s 0
    simpa using this
  case round =>
    obtain ⟨pos, hit, hbw, hacc⟩ := hrel
    clear HP
    have hsz : w.heap.size < wr.heap.size := (Array.getElem?_eq_some_iff.1 hit).1
    by_cases hp : pos < s.size
    · have hst := hacc.out
      rw [drop_at s pos hp, plain_cons] at hst
      clear hacc
      by_cases ha : s[pos].toNat < 128
      · have hnx : ∀ ty, (Instr.next (.pointer (some ⟨w.heap.size, 0, none⟩)) true ty).run Tryz.prog wr = _ := fun ty => Lib.run_next_ascii_at wr w.heap.size s pos ty hit hp ha
        have hit2 := Lib.iterAt_heap wr w.heap.size s pos (pos + 1) hit
        have hbw2 := Lib.below_iterAt hbw (k := w.heap.size) (Nat.le_refl _) s (pos + 1)
        by_cases h1 : s[pos].toNat < 32
        · have hf : Hid (P = false) := Lib.hid (by rw [hst, decide_eq_false (by omega)]; rfl)
          have t1 : (s[pos].toNat : Int) < 32 := by omega
          clear hst
          go_wp2
          go_ret
          exact ⟨ret_bool hf.out.symm, hbw2⟩
        · by_cases h2 : 126 < s[pos].toNat
          · have hf : Hid (P = false) := Lib.hid (by rw [hst, decide_eq_false (by omega)]; rfl)
            have t1 : (32 : Int) ≤ (s[pos].toNat : Int) := by omega
            have t2 : (126 : Int) < (s[pos].toNat : Int) := by omega
            clear hst
            go_wp2
            go_ret
            exact ⟨ret_bool hf.out.symm, hbw2⟩
          · have hf : Hid (P = plainB (s.data.toList.drop (pos + 1))) := Lib.hid (by rw [hst, decide_eq_true (by omega)]; rfl)
            have t1 : (32 : Int) ≤ (s[pos].toNat : Int) := by omega
            have t2 : (s[pos].toNat : Int) ≤ 126 := by omega
            clear hst
            go_wp2
            go_roundw
            case rel => exact ⟨pos + 1, hit2, hbw2, hf⟩
            case measure =>
              simp only [World.iterPos, hit2, hit]
              omega
      · have hh := decode_high s pos hp (by omega)
        have hd1 := decode_le s pos
        have hnx : ∀ ty, (Instr.next (.pointer (some ⟨w.heap.size, 0, none⟩)) true ty).run Tryz.prog wr = _ := fun ty => Lib.run_next_any_at wr w.heap.size s pos ty hit hp
        have hbw2 := Lib.below_iterAt hbw (k := w.heap.size) (Nat.le_refl _) s (pos + (Utf8.decode s pos).2)
        have hf : Hid (P = false) := Lib.hid (by rw [hst, decide_eq_false (by omega)]; rfl)
        clear hst
        generalize (Utf8.decode s pos).1 = dr at hnx hh hd1
        generalize (Utf8.decode s pos).2 = dw at hnx hh hbw2
        obtain ⟨hh1, hh2⟩ := hh
        have f6 : (126 : Int) < (dr : Int) := by omega
        have f7 : (32 : Int) ≤ (dr : Int) := by omega
        go_wp2
        go_ret
        exact ⟨ret_bool hf.out.symm, hbw2⟩
    · have hnx : ∀ ty, (Instr.next (.pointer (some ⟨w.heap.size, 0, none⟩)) true ty).run Tryz.prog wr = _ := fun ty => Lib.run_next_end_at wr w.heap.size s pos ty hit hp
      have hf : Hid (P = true) := Lib.hid (by rw [hacc.out, drop_end s pos hp]; rfl)
      clear hacc
      go_wp2
      go_ret
      exact ⟨ret_bool hf.out.symm, hbw⟩

set_option maxHeartbeats 4000000 in
theorem plainR_any (s : ByteArray) (hs : s.size ≤ 9223372036854775807) (w : World) :
    Calls Tryz.prog 17 #[.string s] w fun e w' => e = .returned (.bool (plainB s.data.toList)) ∧ w = w' := by
  obtain ⟨P, hP⟩ : ∃ P, P = plainB s.data.toList := ⟨_, rfl⟩
  have HP : Hid (P = plainB (s.data.toList.drop 0)) := Lib.hid (by rw [hP]; rfl)
  rw [← hP]; clear hP
  go_enter Tryz.func17, Tryz.ntmps17
  go_wp2_with fail
  go_loop [3] (fun i' => ∃ k : Nat, k ≤ s.size ∧ i' = .int .i64 k ∧ Hid (P = plainB (s.data.toList.drop k))) (fun i' => s.size - (RowKit.intOf i').toNat)
  case atStart => exact ⟨0, by omega, rfl, HP⟩
  case round =>
    obtain ⟨k, hk, rfl, hacc⟩ := hrel
    clear HP
    by_cases hp : k < s.size
    · have hst := hacc.out
      rw [drop_at s k hp, plain_cons] at hst
      clear hacc
      by_cases h1 : s[k].toNat < 32
      · have hf : Hid (P = false) := Lib.hid (by rw [hst, decide_eq_false (by omega)]; rfl)
        have t1 : (s[k].toNat : Int) < 32 := by omega
        clear hst
        go_wp2
        go_ret
        exact ⟨ret_bool hf.out.symm, rfl⟩
      · by_cases h2 : 126 < s[k].toNat
        · have hf : Hid (P = false) := Lib.hid (by rw [hst, decide_eq_false (by omega)]; rfl)
          have t1 : (32 : Int) ≤ (s[k].toNat : Int) := by omega
          have t2 : (126 : Int) < (s[k].toNat : Int) := by omega
          clear hst
          go_wp2
          go_ret
          exact ⟨ret_bool hf.out.symm, rfl⟩
        · have hf : Hid (P = plainB (s.data.toList.drop (k + 1))) := Lib.hid (by rw [hst, decide_eq_true (by omega)]; rfl)
          have t1 : (32 : Int) ≤ (s[k].toNat : Int) := by omega
          have t2 : (s[k].toNat : Int) ≤ 126 := by omega
          clear hst
          go_wp2
          go_round
          case rel => exact ⟨k + 1, by omega, by go_num, hf⟩
          case measure => simp [RowKit.intOf]; omega
    · have hf : Hid (P = true) := Lib.hid (by rw [hacc.out, drop_end s k hp]; rfl)
      have hge : (s.size : Int) ≤ (k : Int) := by omega
      clear hacc
      go_wp2
      go_ret
      exact ⟨ret_bool hf.out.symm, rfl⟩
end Go.Proofs.YtfnbllchebohcaaGreatDoor.Lx
