/- Packed texts: LexPlain, QuoDoc, TreValR -/
import Derived.Test.YtmallladeidkpaaGreatDoorPw28
import Derived.Test.YtmallladeidkpaaGreatDoorPw09
import Derived.Test.YtmallladeidkpaaGreatDoorPw11
import Derived.Test.YtmallladeidkpaaGreatDoorPw12
set_option linter.unusedVariables false
set_option linter.unusedSimpArgs false
/- What plain and Plain return, and the document's Quote. NOT BUILT YET (written for the seat of LexerQuotes). -/
namespace Go.Proofs.YtmallladeidkpaaGreatDoor.Lx
open Go.RowKit Go.Sort Go.Lib Go.Shelf Fx

theorem plain_cons (b : UInt8) (r : List UInt8) : plainB (b :: r) = (decide (32 ≤ b.toNat ∧ b.toNat ≤ 126) && plainB r) := rfl


set_option maxHeartbeats 4000000 in
theorem plainR_any (s : ByteArray) (hs : s.size ≤ 9223372036854775807) (w : World) :
    Calls Tryz.prog 79 #[.string s] w fun e w' => e = .returned (.bool (plainB s.data.toList)) ∧ w = w' := by
  obtain ⟨P, hP⟩ : ∃ P, P = plainB s.data.toList := ⟨_, rfl⟩
  have HP : Hid (P = plainB (s.data.toList.drop 0)) := Lib.hid (by rw [hP]; rfl)
  rw [← hP]; clear hP
  go_enter Tryz.func79, Tryz.ntmps79
  go_wp2_with fail
  go_loop [3] (fun i' => ∃ k : Nat, k ≤ s.size ∧ i' = .int .i64 k ∧ Hid (P = plainB (s.data.toList.drop k))) (fun i' => s.size - (RowKit.intOf i').toNat)
  case atStart => exact ⟨0, by omega, rfl, HP⟩
  case round =>
    obtain ⟨k, hk, rfl, hacc⟩ := hrel
    clear HP
    by_cases hp : k < s.size
    · have hst := hacc.out
      rw [drop_at s k hp, plain_cons] at hst
      clear hacc
      by_cases h1 : s[k].toNat < 32
      · have hf : Hid (P = false) := Lib.hid (by rw [hst, decide_eq_false (by omega)]; rfl)
        have t1 : (s[k].toNat : Int) < 32 := by omega
        clear hst
        go_wp2
        go_ret
        exact ⟨ret_bool hf.out.symm, rfl⟩
      · by_cases h2 : 126 < s[k].toNat
        · have hf : Hid (P = false) := Lib.hid (by rw [hst, decide_eq_false (by omega)]; rfl)
          have t1 : (32 : Int) ≤ (s[k].toNat : Int) := by omega
          have t2 : (126 : Int) < (s[k].toNat : Int) := by omega
          clear hst
          go_wp2
          go_ret
          exact ⟨ret_bool hf.out.symm, rfl⟩
        · have hf : Hid (P = plainB (s.data.toList.drop (k + 1))) := Lib.hid (by rw [hst, decide_eq_true (by omega)]; rfl)
          have t1 : (32 : Int) ≤ (s[k].toNat : Int) := by omega
          have t2 : (s[k].toNat : Int) ≤ 126 := by omega
          clear hst
          go_wp2
          go_round
          case rel => exact ⟨k + 1, by omega, by go_num, hf⟩
          case measure => simp [RowKit.intOf]; omega
    · have hf : Hid (P = true) := Lib.hid (by rw [hacc.out, drop_end s k hp]; rfl)
      have hge : (s.size : Int) ≤ (k : Int) := by omega
      clear hacc
      go_wp2
      go_ret
      exact ⟨ret_bool hf.out.symm, rfl⟩
end Go.Proofs.YtmallladeidkpaaGreatDoor.Lx

/- What the document's Quote returns. -/
namespace Go.Proofs.YtmallladeidkpaaGreatDoor.Qo
open Go.RowKit Go.Lib Fx Lx
theorem take_doc (s : ByteArray) (k : Nat) (h : k < s.size) : s.data.toList.take (k + 1) = s.data.toList.take k ++ [s[k]] := by
  rw [List.take_succ_eq_append_getElem (by rw [← size_len]; exact h)]; rfl
theorem escL_doc (l : List UInt8) (b : UInt8) : escL (l ++ [b]) = escL l ++ escB b := by unfold escL; simp
def quoteV (l : List UInt8) : Value := .tuple #[.string ⟨(quote l).1.toArray⟩, .int .i64 (quote l).2]
theorem three_app (l : List UInt8) : (⟨#[34]⟩ : ByteArray) ++ (⟨l.toArray⟩ : ByteArray) ++ (⟨#[34]⟩ : ByteArray) = ⟨(34 :: (l ++ [34])).toArray⟩ := by
  apply ByteArray.ext
  simp [ByteArray.data_append]
set_option maxHeartbeats 1600000 in
theorem quoteR_any (s : ByteArray) (w : World) (hs : s.size ≤ 9223372036854775807) :
    Calls Tryz.prog 61 #[.string s] w fun e w' => e = .returned (quoteV s.data.toList) ∧ w = w' := by
  by_cases h1 : 32 < s.size
  · have hq : quoteV s.data.toList = .tuple #[.string ⟨#[]⟩, .int .i64 2] := by unfold quoteV quote; rw [if_pos (by rw [← size_len]; exact h1)]
    have HQ := Lib.hid hq
    clear hq
    go_enter Tryz.func61, Tryz.ntmps61
    go_wp2_with fail
    go_returns
    exact ⟨ret_val HQ.out.symm, rfl⟩
  · have hp := plainR_any s (by omega) w
    have h1' : s.size ≤ 32 := by omega
    cases hpl : plainB s.data.toList
    · have hq : quoteV s.data.toList = .tuple #[.string ⟨#[]⟩, .int .i64 1] := by unfold quoteV quote; rw [if_neg (by rw [← size_len]; exact h1), hpl]; rfl
      rw [hpl] at hp
      have HQ := Lib.hid hq; have HP := Lib.hid hp
      clear hq hp hpl
      go_enter Tryz.func61, Tryz.ntmps61
      go_wp2_with fail
      refine HP.out.mono ?_
      rintro e w1 ⟨rfl, rfl⟩
      go_wp2_with fail
      go_returns
      exact ⟨ret_val HQ.out.symm, rfl⟩
    · have hq : quoteV s.data.toList = .tuple #[.string ⟨(34 :: (escL s.data.toList ++ [34])).toArray⟩, .int .i64 0] := by unfold quoteV quote; rw [if_neg (by rw [← size_len]; exact h1), hpl]; rfl
      rw [hpl] at hp
      have h1b : decide ((32 : Int) < (s.size : Int)) = false := by simp; omega
      have HQ := Lib.hid hq; have HP := Lib.hid hp
      clear hq hp hpl
      go_enter Tryz.func61, Tryz.ntmps61
      go_wp2_with fail
      refine HP.out.mono ?_
      rintro e w1 ⟨rfl, rfl⟩
      go_wp2_with fail
      go_loop [4, 5] (fun ov ix => ∃ (o : ByteArray) (i : Nat), ov = .string o ∧ ix = .int .i64 i ∧ i ≤ s.size ∧ o.size ≤ 1 + 2 * i ∧ Hid (o.data.toList = 34 :: escL (s.data.toList.take i))) (fun _ ix => s.size - (RowKit.intOf ix).toNat)
      case atStart => exact ⟨⟨#[34]⟩, 0, rfl, rfl, by omega, by decide, Lib.hid rfl⟩
      case round =>
        obtain ⟨o, i, rfl, rfl, hi, ho, hol⟩ := hrel
        by_cases hlt : i < s.size
        · have hsn := take_doc s i hlt
          have hasz := app_size o s i hlt
          have hal := app_one o s i hlt
          have hasz2 := app_size (o ++ (⟨#[92]⟩ : ByteArray)) s i hlt
          have hal2 := app_one (o ++ (⟨#[92]⟩ : ByteArray)) s i hlt
          have h92 : (o ++ (⟨#[92]⟩ : ByteArray)).data.toList = o.data.toList ++ [92] := data_app _ _
          have h92s : (o ++ (⟨#[92]⟩ : ByteArray)).size = o.size + 1 := by rw [size_len, h92, size_len]; simp
          have hsl := slice_one s i i ((i : Int) + 1) rfl rfl hlt
          have HS := Lib.hid hsn; have HA := Lib.hid hal; have HA2 := Lib.hid hal2; have H92 := Lib.hid h92
          have b1 : (o ++ s.extract i (i + 1)).size ≤ 1 + 2 * (i + 1) := by omega
          have b2 : ((o ++ (⟨#[92]⟩ : ByteArray)) ++ s.extract i (i + 1)).size ≤ 1 + 2 * (i + 1) := by omega
          have b3 : (o ++ (⟨#[92]⟩ : ByteArray)).size ≤ 2 + 2 * i := by omega
          clear hsn hasz hal hasz2 hal2 h92 h92s
          by_cases c34 : s[i].toNat = 34
          · have hb : s[i] = 34 := UInt8.toNat_inj.1 c34
            have HB := Lib.hid hb
            obtain ⟨e1, e2⟩ := eq_facts (x := (s[i].toNat : Int)) (k := 34) (by omega)
            clear hb c34
            go_wp2_with fail
            go_round
            case rel => exact ⟨_, i + 1, rfl, by go_num, by omega, b2, Lib.hid (by rw [HA2.out, H92.out, hol.out, HS.out, escL_doc, HB.out]; simp [escB])⟩
            case measure => simp [RowKit.intOf]; omega
          · by_cases c92 : s[i].toNat = 92
            · have hb : s[i] = 92 := UInt8.toNat_inj.1 c92
              have HB := Lib.hid hb
              obtain ⟨e1, e2⟩ := ne_facts (x := (s[i].toNat : Int)) (k := 34) (by omega)
              obtain ⟨e3, e4⟩ := eq_facts (x := (s[i].toNat : Int)) (k := 92) (by omega)
              clear hb c34 c92
              go_wp2_with fail
              go_round
              case rel => exact ⟨_, i + 1, rfl, by go_num, by omega, b2, Lib.hid (by rw [HA2.out, H92.out, hol.out, HS.out, escL_doc, HB.out]; simp [escB])⟩
              case measure => simp [RowKit.intOf]; omega
            · have hes : ¬ (s[i] = 34 ∨ s[i] = 92) := fun h => h.elim (fun e => c34 (by rw [e]; rfl)) (fun e => c92 (by rw [e]; rfl))
              have HES := Lib.hid hes
              obtain ⟨e1, e2⟩ := ne_facts (x := (s[i].toNat : Int)) (k := 34) (by omega)
              obtain ⟨e3, e4⟩ := ne_facts (x := (s[i].toNat : Int)) (k := 92) (by omega)
              clear hes c34 c92
              go_wp2_with fail
              go_round
              case rel => exact ⟨_, i + 1, rfl, by go_num, by omega, b1, Lib.hid (by rw [HA.out, hol.out, HS.out, escL_doc, show escB s[i] = [s[i]] from if_neg HES.out]; simp)⟩
              case measure => simp [RowKit.intOf]; omega
        · obtain rfl : i = s.size := by omega
          have hge : ¬ ((s.size : Int) < (s.size : Int)) := by omega
          go_wp2_with fail
          go_returns
          refine ⟨ret_val ?_, rfl⟩
          have hfin : o ++ (⟨#[34]⟩ : ByteArray) = ⟨(34 :: (escL s.data.toList ++ [34])).toArray⟩ := by
            apply ByteArray.ext
            apply Array.toList_inj.1
            rw [data_app, hol.out, List.take_of_length_le (by rw [← size_len]; exact Nat.le_refl _)]
            rfl
          rw [HQ.out, ← hfin]; rfl
end Go.Proofs.YtmallladeidkpaaGreatDoor.Qo

/- What the document's value returns. -/
namespace Go.Proofs.YtmallladeidkpaaGreatDoor.Tr
open Go.RowKit Go.Sort Go.Lib Go.Shelf Fx Lx

set_option maxHeartbeats 4000000 in
/-- The text of a value. -/
theorem valueR_any (s : ByteArray) (w : World) (hs : s.size < 4294967281) :
    Calls Tryz.prog 44 #[.string s] w fun e w' => e = .returned (.string ⟨(valueT s).toArray⟩) ∧ w = w' := by
  have hnm := isNameR_any s (by omega) w
  have hps := parseR_any s w (by omega)
  have hqt := fun w' => Qo.quoteR_any s w' (by omega)
  obtain ⟨V, hV⟩ : ∃ V : ByteArray, V = ⟨(valueT s).toArray⟩ := ⟨_, rfl⟩
  rw [← hV]
  have hmk : (⟨s.data.toList.toArray⟩ : ByteArray) = s := Lib.mk_data s
  unfold valueT at hV
  unfold Qo.quoteV at hqt
  generalize nameB s.data.toList = p at *
  generalize (parse s.data.toList).1 = u at *
  generalize (parse s.data.toList).2 = k at *
  generalize (quote s.data.toList).1 = t at *
  generalize (quote s.data.toList).2 = r at *
  have HN := Lib.hid hnm; have HP := Lib.hid hps; have HQ := Lib.hid hqt
  clear hnm hps hqt hs
  cases p
  · rw [if_neg (by decide)] at hV
    by_cases hk : k = 0
    · rw [if_pos hk, hmk] at hV
      subst hk
      have hf := Lib.hid hV
      clear hV
      go_enter Tryz.func44, Tryz.ntmps44
      go_wp2_with (first | (go_at_call 59; refine HN.out.mono ?_; rintro e w3 ⟨rfl, rfl⟩) | (go_at_call 60; refine HP.out.mono ?_; rintro e w1 ⟨rfl, rfl⟩))
      go_ret
      exact ⟨by rw [hf.out]; rfl, rfl⟩
    · rw [if_neg hk] at hV
      obtain ⟨f0, f0'⟩ := ne_facts hk
      have hf := Lib.hid hV
      clear hV hk
      go_enter Tryz.func44, Tryz.ntmps44
      go_wp2_with (first | (go_at_call 59; refine HN.out.mono ?_; rintro e w3 ⟨rfl, rfl⟩) | (go_at_call 60; refine HP.out.mono ?_; rintro e w1 ⟨rfl, rfl⟩) | (go_at_call 61; refine (HQ.out _).mono ?_; rintro e w2 ⟨rfl, rfl⟩))
      go_ret
      exact ⟨by rw [hf.out]; rfl, rfl⟩
  · rw [if_pos rfl, hmk] at hV
    have hf := Lib.hid hV
    clear hV
    go_enter Tryz.func44, Tryz.ntmps44
    go_wp2_with (go_at_call 59; refine HN.out.mono ?_; rintro e w3 ⟨rfl, rfl⟩)
    go_ret
    exact ⟨by rw [hf.out]; rfl, rfl⟩
end Go.Proofs.YtmallladeidkpaaGreatDoor.Tr
