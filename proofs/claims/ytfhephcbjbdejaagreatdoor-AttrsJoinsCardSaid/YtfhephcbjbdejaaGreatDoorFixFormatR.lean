/- What the document's Format returns: the same text, for every int. -/
import Derived.Test.YtfhephcbjbdejaaGreatDoorFixFormat
namespace Go.Proofs.YtfhephcbjbdejaaGreatDoor.Fx
open Go.RowKit Go.Sort Go.Lib Go.Shelf

theorem dig_fin : ∀ i : Fin 10, ((⟨#[48, 49, 50, 51, 52, 53, 54, 55, 56, 57]⟩ : ByteArray).extract i.val (i.val + 1)).data.toList = [UInt8.ofNat (48 + i.val)] := by decide +kernel
theorem dig_cut (i : Nat) (h : i < 10) : ((⟨#[48, 49, 50, 51, 52, 53, 54, 55, 56, 57]⟩ : ByteArray).extract i (i + 1)).data.toList = [UInt8.ofNat (48 + i)] := dig_fin ⟨i, h⟩
theorem data_app (a b : ByteArray) : (a ++ b).data.toList = a.data.toList ++ b.data.toList := by simp [ByteArray.data_append]
theorem dig_run (i : Nat) (c : UInt8) (h : i < 10) (hc : UInt8.ofNat (48 + i) = c) (W : World) : (Instr.slice 9 (.string ⟨#[48, 49, 50, 51, 52, 53, 54, 55, 56, 57]⟩) (some (.int .u64 i)) (some (.int .u64 ((i : Int) + 1))) none).run Tryz.prog W = .ok (.string ⟨[c].toArray⟩) W := by
  subst hc
  rw [run_slice_string W _ _ .u64 .u64 i ((i : Int) + 1) Tryz.underlying9 (by omega) (by omega) (by show (i : Int) + 1 ≤ ((10 : Nat) : Int); omega)]
  have h1 := dig_cut i h
  rw [Int.toNat_natCast, show ((i : Int) + 1).toNat = i + 1 by omega]
  congr 1
  generalize (⟨#[48, 49, 50, 51, 52, 53, 54, 55, 56, 57]⟩ : ByteArray).extract i (i + 1) = b at h1 ⊢
  rw [← h1]
theorem dec_step (m : Nat) (h : 10 ≤ m) (T : List UInt8) : decDigits m ++ T = decDigits (m / 10) ++ (UInt8.ofNat (48 + m % 10) :: T) := by
  rw [decDigits, dif_neg (by omega)]; simp
theorem nd_le (m : Nat) (h : m < 18446744073709551616) : (decDigits m).length ≤ 20 := by rw [decDigits_length]; exact nDigits_le20 m h

set_option maxHeartbeats 1600000 in
set_option maxRecDepth 100000 in
theorem digitsR_any (u : Nat) (D : List UInt8) (hu : u < 18446744073709551616) (hD : decDigits u = D) (w : World) :
    Calls Tryz.prog 48 #[.int .u64 u] w fun e w' => e = .returned (.string ⟨D.toArray⟩) ∧ w = w' := by
  have hl : D.length ≤ 20 := by rw [← hD]; exact nd_le u hu
  have HD := Lib.hid hD; clear hD
  have HU := Lib.hid hu; clear hu
  go_enter Tryz.func48, Tryz.ntmps48
  go_wp2_with fail
  go_loop [0, 3] (fun n s => ∃ (m : Nat) (b : ByteArray), m ≤ u ∧ decDigits u = decDigits m ++ b.data.toList ∧ n = .int .u64 m ∧ s = .string b) (fun n _ => (RowKit.intOf n).toNat)
  case atStart => exact ⟨u, ⟨#[]⟩, by omega, by simp, rfl, rfl⟩
  case round =>
    obtain ⟨m, b, hm, hb, rfl, rfl⟩ := hrel
    have hbl : b.size ≤ 20 := by
      have h := congrArg List.length hb
      rw [HD.out] at h
      simp at h
      have : b.data.size = b.size := rfl
      omega
    have HB := Lib.hid hb; clear hb
    have hm1 : (m : Int) ≤ 18446744073709551615 := by have := HU.out; omega
    have hm0 : (0 : Int) ≤ m := by omega
    by_cases h9 : 9 < m
    · obtain ⟨d, hd⟩ : ∃ d : Nat, m % 10 = d := ⟨_, rfl⟩
      obtain ⟨q, hq⟩ : ∃ q : Nat, m / 10 = q := ⟨_, rfl⟩
      have ed : (m : Int) % 10 = d := by omega
      have eq : (m : Int) / 10 = q := by omega
      have d9 : d < 10 := by omega
      have HS := Lib.hid (dec_step m (by omega) b.data.toList)
      rw [hd, hq] at HS
      obtain ⟨c, hc⟩ : ∃ c, UInt8.ofNat (48 + d) = c := ⟨_, rfl⟩
      have hrun := fun W => dig_run d c d9 hc W
      rw [hc] at HS
      clear hc
      have hqm : q ≤ m := by omega
      have hqm2 : q < m := by omega
      clear hd hq
      go_wp2
      all_goals go_round
      case rel => exact ⟨q, _, by omega, by rw [HB.out, HS.out, data_app]; rfl, rfl, rfl⟩
      case measure => simp [RowKit.intOf]; omega
    · obtain ⟨c, hc⟩ : ∃ c, UInt8.ofNat (48 + m) = c := ⟨_, rfl⟩
      have hrun := fun W => dig_run m c (by omega) hc W
      have HE : Hid (decDigits m = [c]) := by rw [← hc]; exact decDigits_one (by omega)
      clear hc
      go_wp2
      go_ret
      exact ⟨ret_bytes (by rw [data_app, ← HD.out, HB.out, HE.out]), rfl⟩
end Go.Proofs.YtfhephcbjbdejaaGreatDoor.Fx
