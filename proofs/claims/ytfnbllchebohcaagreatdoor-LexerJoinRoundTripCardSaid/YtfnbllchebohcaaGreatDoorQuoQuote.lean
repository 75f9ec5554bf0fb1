/- What the Replacer's Replace returns, and Quote. -/
import Derived.Test.YtfnbllchebohcaaGreatDoorQuoRepl
import Derived.Test.YtfnbllchebohcaaGreatDoorLexPlain
namespace Go.Proofs.YtfnbllchebohcaaGreatDoor.Qo
open Go.RowKit Go.Lib Fx Lx

set_option maxHeartbeats 1600000 in
set_option maxRecDepth 100000 in
theorem replace_any (B rb g cap : Nat) (s : ByteArray) (w : World) (hs : s.size ≤ 32) (hB : B ≤ rb) (hb : w.heap[rb]? = some (.cells #[.int .u32 0, .int .i32 0, .int .u32 0, .nilIface, .slice (some ⟨g, 0, none⟩) 4 cap] 73 (0, 0)))
    (hg : ∀ j u, oldnew[j]? = some u → w.cell? ⟨g, j, none⟩ = some u) (hne : g ≠ rb) :
    Calls Tryz.prog 16 #[.pointer (some ⟨rb, 0, none⟩), .string s] w fun e w' => e = .returned (.string ⟨(escL s.data.toList).toArray⟩) ∧ Below B w w' := by
  have c0 : w.cell? ⟨rb, 0, none⟩ = some (.int .u32 0) := cell_of_blk hb 0
  have c1 : w.cell? ⟨rb, 1, none⟩ = some (.int .i32 0) := cell_of_blk hb 1
  have f0 := frozen_of_blk hb 0
  have f1 := frozen_of_blk hb 1
  have hlt := (Array.getElem?_eq_some_iff.1 hb).1
  have hb1 := heap_setCell_same w rb 1 _ 73 (.int .i32 1) hb
  have hg1 : ∀ j u, oldnew[j]? = some u → (w.setCell ⟨rb, 1, none⟩ (.int .i32 1)).cell? ⟨g, j, none⟩ = some u := fun j u h => by
    rw [World.cell?_setCell_other _ ⟨rb, 1, none⟩ ⟨g, j, none⟩ _ (fun e => hne (by injection e with e; exact e.symm))]; exact hg j u h
  have hbo := buildOnce_any B rb g cap (w.setCell ⟨rb, 1, none⟩ (.int .i32 1)) hB hb1 (hg1 0 _ rfl) (hg1 1 _ rfl) (hg1 2 _ rfl) (hg1 3 _ rfl)
  have hdo := do_first rb (.pointer (some ⟨rb, 0, none⟩)) w (Built B rb (w.setCell ⟨rb, 1, none⟩ (.int .i32 1))) c0 c1 f0 f1 hbo (fun w' h => by
    obtain ⟨k, h1, _⟩ := h
    exact ⟨cell_of_blk h1 0, cell_of_blk h1 1, frozen_of_blk h1 0, frozen_of_blk h1 1⟩)
  have HD := Lib.hid hdo
  have hbw : Below B w (w.setCell ⟨rb, 1, none⟩ (.int .i32 1)) := (Below.refl B w).setCell (p := ⟨rb, 1, none⟩) hB _
  have HBW := Lib.hid hbw
  clear hb hg hb1 hg1 hbo hdo c0 c1 f0 f1 hbw
  have hmf : ∀ (fn : Fn) (first cap : Array Value) (w : World), (Instr.makeFunc fn first cap).run Tryz.prog w = .ok (.func fn first cap) w := fun _ _ _ _ => rfl
  go_enter Tryz.func16, Tryz.ntmps16
  go_wp2_with fail
  refine HD.out.mono ?_
  rintro e w1 ⟨rfl, wq, ⟨k, hq, hr, hx⟩, rfl⟩
  have hq1 := heap_setCell_same wq.drew rb 0 _ 73 (.int .u32 1) hq
  have hq2 := heap_setCell_same (wq.drew.setCell ⟨rb, 0, none⟩ (.int .u32 1)) rb 1 _ 73 (.int .i32 0) hq1
  have hr2 : RepAt ((wq.drew.setCell ⟨rb, 0, none⟩ (.int .u32 1)).setCell ⟨rb, 1, none⟩ (.int .i32 0)) k := by
    refine hr.kept (by simp only [World.setCell, Array.size_modify]; exact Nat.le_refl _) fun p C T fz hT hp => ?_
    have hpn : p ≠ rb := by
      rintro rfl
      rw [hq] at hp
      injection hp with hp
      injection hp with _ ht
      rcases hT with rfl | rfl | rfl <;> exact absurd ht (by decide)
    rw [heap_setCell_other _ ⟨rb, 1, none⟩ p _ hpn, heap_setCell_other _ ⟨rb, 0, none⟩ p _ hpn]; exact hp
  have hx2 : Below B w ((wq.drew.setCell ⟨rb, 0, none⟩ (.int .u32 1)).setCell ⟨rb, 1, none⟩ (.int .i32 0)) := ((HBW.out.trans hx).drew.setCell (p := ⟨rb, 0, none⟩) hB _).setCell (p := ⟨rb, 1, none⟩) hB _
  have d3 : ((wq.drew.setCell ⟨rb, 0, none⟩ (.int .u32 1)).setCell ⟨rb, 1, none⟩ (.int .i32 0)).cell? ⟨rb, 3, none⟩ = some (.iface 112 (.pointer (some ⟨k, 0, none⟩))) := cell_of_blk hq2 3
  generalize (wq.drew.setCell ⟨rb, 0, none⟩ (.int .u32 1)).setCell ⟨rb, 1, none⟩ (.int .i32 0) = w1 at hr2 hx2 d3 ⊢
  have HR := Lib.hid hr2
  clear hq hr hx hq1 hq2 hr2 HD
  go_wp2_with fail
  refine (repl_any k s w1 hs HR.out).mono ?_
  rintro e w2 ⟨rfl, x2⟩
  go_wp2_with fail
  go_ret
  exact ⟨rfl, hx2.trans (x2.mono (by have := (Array.getElem?_eq_some_iff.1 HR.out.choose_spec.choose_spec.choose_spec.choose_spec.1.blk).1; have := hx2.size; omega))⟩

theorem Ext.trans' {a b c : World} (h : Ext a b) (k : Below a.heap.size b c) : Ext a c := Below.trans h k
def quoteV (l : List UInt8) : Value := .tuple #[.string ⟨(quote l).1.toArray⟩, .int .i64 (quote l).2]
theorem three_app (l : List UInt8) : (⟨#[34]⟩ : ByteArray) ++ (⟨l.toArray⟩ : ByteArray) ++ (⟨#[34]⟩ : ByteArray) = ⟨(34 :: (l ++ [34])).toArray⟩ := by
  apply ByteArray.ext
  simp [ByteArray.data_append]

set_option maxHeartbeats 1600000 in
set_option maxRecDepth 100000 in
theorem quote_any (s : ByteArray) (w : World) (hs : s.size ≤ 9223372036854775807) :
    Calls Tryz.prog 6 #[.string s] w fun e w' => e = .returned (quoteV s.data.toList) ∧ Ext w w' := by
  by_cases h1 : 32 < s.size
  · have hq : quoteV s.data.toList = .tuple #[.string ⟨#[]⟩, .int .i64 2] := by unfold quoteV quote; rw [if_pos (by rw [← size_len]; exact h1)]
    have HQ := Lib.hid hq
    clear hq
    go_enter Tryz.func6, Tryz.ntmps6
    go_wp2_with fail
    go_returns
    exact ⟨ret_val HQ.out.symm, Ext.refl _⟩
  · have hp := plain_any s (by omega) w
    have h1' : s.size ≤ 32 := by omega
    cases hpl : plainB s.data.toList
    · have hq : quoteV s.data.toList = .tuple #[.string ⟨#[]⟩, .int .i64 1] := by unfold quoteV quote; rw [if_neg (by rw [← size_len]; exact h1), hpl]; rfl
      rw [hpl] at hp
      have HQ := Lib.hid hq; have HP := Lib.hid hp
      clear hq hp hpl
      go_enter Tryz.func6, Tryz.ntmps6
      go_wp2_with fail
      refine HP.out.mono ?_
      rintro e w1 ⟨rfl, x1⟩
      go_wp2_with fail
      go_returns
      exact ⟨ret_val HQ.out.symm, x1⟩
    · have hq : quoteV s.data.toList = .tuple #[.string ⟨(34 :: (escL s.data.toList ++ [34])).toArray⟩, .int .i64 0] := by unfold quoteV quote; rw [if_neg (by rw [← size_len]; exact h1), hpl]; rfl
      have hel := escL_le s.data.toList
      rw [← size_len] at hel
      have hes : (⟨(escL s.data.toList).toArray⟩ : ByteArray).size ≤ 64 := by rw [size_mk]; omega
      rw [hpl] at hp
      have HQ := Lib.hid hq; have HP := Lib.hid hp
      clear hq hp hpl hel
      go_enter Tryz.func6, Tryz.ntmps6
      go_wp2_with fail
      refine HP.out.mono ?_
      rintro e w1 ⟨rfl, x1⟩
      go_wp2_with fail
      refine (newReplacer_any w1).mono ?_
      rintro e w2 ⟨rb, g, cap, rfl, hrb, hb, hg, hne, x2⟩
      have HB := Lib.hid hb; have HG := Lib.hid hg
      clear hb hg
      go_wp2_with fail
      refine (replace_any w1.heap.size rb g cap s w2 h1' hrb HB.out HG.out hne).mono ?_
      rintro e w3 ⟨rfl, x3⟩
      have hts := three_app (escL s.data.toList)
      generalize (⟨(escL s.data.toList).toArray⟩ : ByteArray) = E at hes hts ⊢
      have HT := Lib.hid hts
      clear hts
      go_wp2_with fail
      go_returns
      refine ⟨ret_val ?_, x1.trans (Ext.trans' x2 x3)⟩
      rw [HQ.out, ← HT.out]; rfl

set_option maxHeartbeats 1600000 in
theorem quoteR_any (s : ByteArray) (w : World) (hs : s.size ≤ 9223372036854775807) :
    Calls Tryz.prog 7 #[.string s] w fun e w' => e = .returned (quoteV s.data.toList) ∧ w = w' := by
  by_cases h1 : 32 < s.size
  · have hq : quoteV s.data.toList = .tuple #[.string ⟨#[]⟩, .int .i64 2] := by unfold quoteV quote; rw [if_pos (by rw [← size_len]; exact h1)]
    have HQ := Lib.hid hq
    clear hq
    go_enter Tryz.func7, Tryz.ntmps7
    go_wp2_with fail
    go_returns
    exact ⟨ret_val HQ.out.symm, rfl⟩
  · have hp := plainR_any s (by omega) w
    have h1' : s.size ≤ 32 := by omega
    cases hpl : plainB s.data.toList
    · have hq : quoteV s.data.toList = .tuple #[.string ⟨#[]⟩, .int .i64 1] := by unfold quoteV quote; rw [if_neg (by rw [← size_len]; exact h1), hpl]; rfl
      rw [hpl] at hp
      have HQ := Lib.hid hq; have HP := Lib.hid hp
      clear hq hp hpl
      go_enter Tryz.func7, Tryz.ntmps7
      go_wp2_with fail
      refine HP.out.mono ?_
      rintro e w1 ⟨rfl, rfl⟩
      go_wp2_with fail
      go_returns
      exact ⟨ret_val HQ.out.symm, rfl⟩
    · have hq : quoteV s.data.toList = .tuple #[.string ⟨(34 :: (escL s.data.toList ++ [34])).toArray⟩, .int .i64 0] := by unfold quoteV quote; rw [if_neg (by rw [← size_len]; exact h1), hpl]; rfl
      rw [hpl] at hp
      have h1b : decide ((32 : Int) < (s.size : Int)) = false := by simp; omega
      have HQ := Lib.hid hq; have HP := Lib.hid hp
      clear hq hp hpl
      go_enter Tryz.func7, Tryz.ntmps7
      go_wp2_with fail
      refine HP.out.mono ?_
      rintro e w1 ⟨rfl, rfl⟩
      go_wp2_with fail
      go_loop [4, 5] (fun ov ix => ∃ (o : ByteArray) (i : Nat), ov = .string o ∧ ix = .int .i64 i ∧ i ≤ s.size ∧ o.size ≤ 1 + 2 * i ∧ Hid (o.data.toList = 34 :: escL (s.data.toList.take i))) (fun _ ix => s.size - (RowKit.intOf ix).toNat)
      case atStart => exact ⟨⟨#[34]⟩, 0, rfl, rfl, by omega, by decide, Lib.hid rfl⟩
      case round =>
        obtain ⟨o, i, rfl, rfl, hi, ho, hol⟩ := hrel
        by_cases hlt : i < s.size
        · have hsn := take_at s i hlt
          have hasz := app_size o s i hlt
          have hal := app_one o s i hlt
          have hasz2 := app_size (o ++ (⟨#[92]⟩ : ByteArray)) s i hlt
          have hal2 := app_one (o ++ (⟨#[92]⟩ : ByteArray)) s i hlt
          have h92 : (o ++ (⟨#[92]⟩ : ByteArray)).data.toList = o.data.toList ++ [92] := data_app _ _
          have h92s : (o ++ (⟨#[92]⟩ : ByteArray)).size = o.size + 1 := by rw [size_len, h92, size_len]; simp
          have hsl := slice_one s i i ((i : Int) + 1) rfl rfl hlt
          have HS := Lib.hid hsn; have HA := Lib.hid hal; have HA2 := Lib.hid hal2; have H92 := Lib.hid h92
          have b1 : (o ++ s.extract i (i + 1)).size ≤ 1 + 2 * (i + 1) := by omega
          have b2 : ((o ++ (⟨#[92]⟩ : ByteArray)) ++ s.extract i (i + 1)).size ≤ 1 + 2 * (i + 1) := by omega
          have b3 : (o ++ (⟨#[92]⟩ : ByteArray)).size ≤ 2 + 2 * i := by omega
          clear hsn hasz hal hasz2 hal2 h92 h92s
          by_cases c34 : s[i].toNat = 34
          · have hb : s[i] = 34 := UInt8.toNat_inj.1 c34
            have HB := Lib.hid hb
            obtain ⟨e1, e2⟩ := eq_facts (x := (s[i].toNat : Int)) (k := 34) (by omega)
            clear hb c34
            go_wp2_with fail
            go_round
            case rel => exact ⟨_, i + 1, rfl, by go_num, by omega, b2, Lib.hid (by rw [HA2.out, H92.out, hol.out, HS.out, escL_snoc, HB.out]; simp [escB])⟩
            case measure => simp [RowKit.intOf]; omega
          · by_cases c92 : s[i].toNat = 92
            · have hb : s[i] = 92 := UInt8.toNat_inj.1 c92
              have HB := Lib.hid hb
              obtain ⟨e1, e2⟩ := ne_facts (x := (s[i].toNat : Int)) (k := 34) (by omega)
              obtain ⟨e3, e4⟩ := eq_facts (x := (s[i].toNat : Int)) (k := 92) (by omega)
              clear hb c34 c92
              go_wp2_with fail
              go_round
              case rel => exact ⟨_, i + 1, rfl, by go_num, by omega, b2, Lib.hid (by rw [HA2.out, H92.out, hol.out, HS.out, escL_snoc, HB.out]; simp [escB])⟩
              case measure => simp [RowKit.intOf]; omega
            · have hes : ¬ (s[i] = 34 ∨ s[i] = 92) := fun h => h.elim (fun e => c34 (by rw [e]; rfl)) (fun e => c92 (by rw [e]; rfl))
              have HES := Lib.hid hes
              obtain ⟨e1, e2⟩ := ne_facts (x := (s[i].toNat : Int)) (k := 34) (by omega)
              obtain ⟨e3, e4⟩ := ne_facts (x := (s[i].toNat : Int)) (k := 92) (by omega)
              clear hes c34 c92
              go_wp2_with fail
              go_round
              case rel => exact ⟨_, i + 1, rfl, by go_num, by omega, b1, Lib.hid (by rw [HA.out, hol.out, HS.out, escL_snoc, show escB s[i] = [s[i]] from if_neg HES.out]; simp)⟩
              case measure => simp [RowKit.intOf]; omega
        · obtain rfl : i = s.size := by omega
          have hge : ¬ ((s.size : Int) < (s.size : Int)) := by omega
          go_wp2_with fail
          go_returns
          refine ⟨ret_val ?_, rfl⟩
          have hfin : o ++ (⟨#[34]⟩ : ByteArray) = ⟨(34 :: (escL s.data.toList ++ [34])).toArray⟩ := by
            apply ByteArray.ext
            apply Array.toList_inj.1
            rw [data_app, hol.out, List.take_of_length_le (by rw [← size_len]; exact Nat.le_refl _)]
            rfl
          rw [HQ.out, ← hfin]; rfl
end Go.Proofs.YtfnbllchebohcaaGreatDoor.Qo
