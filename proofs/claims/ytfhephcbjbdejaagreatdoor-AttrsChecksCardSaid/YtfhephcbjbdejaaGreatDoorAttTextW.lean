/- What the program's text and known return. -/
import Derived.Test.YtfhephcbjbdejaaGreatDoorAttKnown
namespace Go.Proofs.YtfhephcbjbdejaaGreatDoor.At
open Go.RowKit Go.Sort Go.Lib Go.Shelf Fx Lx

def okT (b : UInt8) : Bool := decide (32 ≤ b.toNat) && decide (b.toNat ≤ 126)
def textB (s : ByteArray) : Bool := decide (s.size ≤ 32) && s.data.toList.all okT
set_option maxHeartbeats 2000000 in
theorem text_any (s : ByteArray) (w : World) (hs : s.size ≤ 9223372036854775807) :
    Calls Tryz.prog 57 #[.string s] w fun e w' => e = .returned (.bool (textB s)) ∧ w = w' := by
  by_cases h32 : 32 < s.size
  · have hf : textB s = false := by unfold textB; rw [decide_eq_false (by omega)]; rfl
    rw [hf]
    go_enter Tryz.func57, Tryz.ntmps57
    go_wp2
    go_returns
    exact ⟨rfl, rfl⟩
  · have hf : textB s = s.data.toList.all okT := by unfold textB; rw [decide_eq_true (by omega)]; rfl
    rw [hf]
    clear hf
    obtain ⟨R, hR⟩ : ∃ R, R = s.data.toList.all okT := ⟨_, rfl⟩
    have HR : Hid (R = (s.data.toList.drop 0).all okT) := Lib.hid (by rw [hR, List.drop_zero])
    rw [← hR]; clear hR
    go_enter Tryz.func57, Tryz.ntmps57
    go_wp2_with fail
    go_loop [9] (fun n => ∃ k : Nat, k ≤ s.size ∧ n = .int .i64 k ∧ Hid (R = (s.data.toList.drop k).all okT)) (fun n => s.size - (RowKit.intOf n).toNat)
    case atStart => exact ⟨0, by omega, rfl, HR⟩
    case round =>
      obtain ⟨k, hk, rfl, ha⟩ := hrel
      clear HR
      by_cases hlt : k < s.size
      · have hst := ha.out
        have hd : s.data.toList.drop k = s[k] :: s.data.toList.drop (k + 1) := by
          rw [List.drop_eq_getElem_cons (by rw [← size_len]; exact hlt)]; rfl
        rw [hd, List.all_cons] at hst
        clear hd
        clear ha
        by_cases c1 : 32 ≤ s[k].toNat
        · by_cases c2 : s[k].toNat ≤ 126
          · have hf : Hid (R = (s.data.toList.drop (k + 1)).all okT) := Lib.hid (by
              rw [hst]; unfold okT; rw [decide_eq_true c1, decide_eq_true c2]; rfl)
            clear hst
            go_wp2
            go_round
            case rel => exact ⟨k + 1, by omega, by go_num, hf⟩
            case measure => simp [RowKit.intOf]; omega
          · have hf : Hid (R = false) := Lib.hid (by
              rw [hst]; unfold okT; rw [decide_eq_false c2]; simp)
            clear hst
            go_wp2
            go_returns
            exact ⟨by rw [hf.out]; rfl, rfl⟩
        · have hf : Hid (R = false) := Lib.hid (by
            rw [hst]; unfold okT; rw [decide_eq_false c1]; simp)
          clear hst
          go_wp2
          go_returns
          exact ⟨by rw [hf.out]; rfl, rfl⟩
      · have hf : Hid (R = true) := Lib.hid (by
          rw [ha.out, List.drop_eq_nil_of_le (by rw [← size_len]; omega)]; rfl)
        clear ha
        go_wp2
        go_returns
        exact ⟨by rw [hf.out]; rfl, rfl⟩
def knownB (kind : Int) : Bool := decide (kind = 1) || decide (kind = 2) || decide (kind = 4)
theorem isknown_any (kind : Int) (w : World) :
    Calls Tryz.prog 46 #[.int .i64 kind] w fun e w' => e = .returned (.bool (knownB kind)) ∧ w = w' := by
  unfold knownB
  by_cases h1 : kind = 1
  · subst h1
    go_enter Tryz.func46, Tryz.ntmps46
    go_wp2
    go_returns
    exact ⟨rfl, rfl⟩
  by_cases h2 : kind = 2
  · subst h2
    go_enter Tryz.func46, Tryz.ntmps46
    go_wp2
    go_returns
    exact ⟨rfl, rfl⟩
  obtain ⟨f1, _⟩ := ne_facts h1
  obtain ⟨f2, _⟩ := ne_facts h2
  rw [decide_eq_false h1, decide_eq_false h2]
  by_cases h4 : kind = 4
  · subst h4
    go_enter Tryz.func46, Tryz.ntmps46
    go_wp2
    go_returns
    exact ⟨rfl, rfl⟩
  obtain ⟨f4, _⟩ := ne_facts h4
  rw [decide_eq_false h4]
  go_enter Tryz.func46, Tryz.ntmps46
  go_wp2
  go_returns
  exact ⟨rfl, rfl⟩
end Go.Proofs.YtfhephcbjbdejaaGreatDoor.At
