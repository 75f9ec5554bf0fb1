/- Packed texts: LexRefA, LexPlain, QuoQuote -/
import Derived.Test.YtnjnfkfmkbnkhaaGreatDoorPa10
import Derived.Test.YtnjnfkfmkbnkhaaGreatDoorPa05
set_option linter.unusedVariables false
set_option linter.unusedSimpArgs false
/- What the document's IsMark, number and text return. -/
namespace Go.Proofs.YtnjnfkfmkbnkhaaGreatDoor.Lx
open Go.RowKit Go.Sort Go.Lib Go.Shelf Fx

theorem isMark_any (s : ByteArray) (w : World) : Calls Tryz.prog 63 #[.string s] w fun e w' => e = .returned (.bool (isM s.data.toList)) ∧ w = w' := by
  go_enter Tryz.func63, Tryz.ntmps63
  go_wp2
  all_goals
    go_ret
    exact ⟨ret_bool (by rw [← ByteArray.toList_eq]; unfold isM; simp_all), rfl⟩

theorem extract_one (s : ByteArray) (k : Nat) (hk : k < s.size) : (s.extract k (k + 1)).data.toList = [s[k]] := by
  have h : k < s.data.toList.length := by rw [← size_len]; exact hk
  rw [ByteArray.data_extract, Array.toList_extract, List.extract_eq_take_drop, show k + 1 - k = 1 by omega, List.drop_eq_getElem_cons h]
  rfl
theorem app_one (o s : ByteArray) (k : Nat) (hk : k < s.size) : (o ++ s.extract k (k + 1)).data.toList = o.data.toList ++ [s[k]] := by
  rw [data_app, extract_one s k hk]
theorem app_size (o s : ByteArray) (k : Nat) (hk : k < s.size) : (o ++ s.extract k (k + 1)).size = o.size + 1 := by
  rw [size_len, app_one o s k hk, size_len]; simp

theorem slice_one (s : ByteArray) (k : Nat) (a b : Int) (ha : a = k) (hb : b = (k : Int) + 1) (hk : k < s.size) (W : World) : (Instr.slice 9 (.string s) (some (.int .i64 a)) (some (.int .i64 b)) none).run Tryz.prog W = .ok (.string (s.extract k (k + 1))) W := by
  subst ha; subst hb
  rw [run_slice_string W _ _ .i64 .i64 k ((k : Int) + 1) Tryz.underlying9 (by omega) (by omega) (by omega)]
  rw [Int.toNat_natCast, show ((k : Int) + 1).toNat = k + 1 by omega]

def textV (T : List UInt8 × Nat × Int) : Value := .tuple #[.string ⟨T.1.toArray⟩, .int .i64 (if T.2.2 = 0 then (T.2.1 : Int) + 1 else T.2.1), .int .i64 T.2.2]

theorem textV_ok (o : ByteArray) (i : Nat) : textV (o.data.toList, i + 1, 0) = .tuple #[.string o, .int .i64 ((i : Int) + 1 + 1), .int .i64 0] := by
  unfold textV; cases o; simp

set_option maxHeartbeats 8000000 in
set_option maxRecDepth 1000000 in
theorem text_any (s : ByteArray) (h0 : 0 < s.size) (hs : s.size ≤ 35184372088832) (w : World) :
    Calls Tryz.prog 62 #[.string s] w fun e w' => e = .returned (textV (contents false [] 0 (s.data.toList.drop 1))) ∧ w = w' := by
  obtain ⟨T, hT⟩ : ∃ T, T = contents false [] 0 (s.data.toList.drop 1) := ⟨_, rfl⟩
  have HT := Lib.hid hT
  rw [← hT]; clear hT
  go_enter Tryz.func62, Tryz.ntmps62
  go_wp2_with fail
  go_loop [5, 6] (fun out at' => ∃ (i : Nat) (o : ByteArray), i + 1 ≤ s.size ∧ out = .string o ∧ at' = .int .i64 ((i : Int) + 1) ∧ Hid (T = contents false o.data.toList i (s.data.toList.drop (i + 1))) ∧ o.size ≤ 32) (fun _ at' => s.size + 1 - (RowKit.intOf at').toNat)
  case atStart => exact ⟨0, ⟨#[]⟩, by omega, rfl, rfl, HT, by decide⟩
  case round =>
    obtain ⟨i, o, hi, rfl, rfl, ha, ho⟩ := hrel
    clear HT
    have hol : o.data.toList.length = o.size := (size_len o).symm
    by_cases hlt : i + 1 < s.size
    · have hst := ha.out
      rw [drop_at s (i + 1) hlt] at hst
      have hw := cont_ways false o.data.toList i s[i + 1] _ T hst
      clear hst ha
      rcases hw with ⟨c1, hf⟩ | ⟨c1, c2, hf⟩ | ⟨c1, c2, hf⟩ | ⟨hx, _⟩ | ⟨_, c1, hf⟩ | ⟨_, c1, hf⟩ | ⟨c1, c2, c3, c4, c5, hf⟩ | ⟨c1, c2, c3, c4, c5, hf⟩
      · obtain ⟨f1, f2⟩ := eq_facts (x := (s[i + 1].toNat : Int)) (k := 10) (by omega)
        go_wp2
        go_returns
        exact ⟨ret_val (by rw [hf.out]; rfl), rfl⟩
      · obtain ⟨f1, f2⟩ := ne_facts (x := (s[i + 1].toNat : Int)) (k := 10) (by omega)
        obtain ⟨f3, f4⟩ := ne_facts (x := (s[i + 1].toNat : Int)) (k := 34) (by omega)
        obtain ⟨f5, f6⟩ := ne_facts (x := (s[i + 1].toNat : Int)) (k := 92) (by omega)
        have f7 : (126 : Int) < (s[i + 1].toNat : Int) := by omega
        have f8 : (32 : Int) ≤ (s[i + 1].toNat : Int) := by omega
        go_wp2
        go_returns
        exact ⟨ret_val (by rw [hf.out]; rfl), rfl⟩
      · obtain ⟨f1, f2⟩ := ne_facts (x := (s[i + 1].toNat : Int)) (k := 10) (by omega)
        obtain ⟨f3, f4⟩ := ne_facts (x := (s[i + 1].toNat : Int)) (k := 34) (by omega)
        obtain ⟨f5, f6⟩ := ne_facts (x := (s[i + 1].toNat : Int)) (k := 92) (by omega)
        have f7 : (s[i + 1].toNat : Int) < 32 := by omega
        go_wp2
        go_returns
        exact ⟨ret_val (by rw [hf.out]; rfl), rfl⟩
      · cases hx
      · obtain ⟨f1, f2⟩ := ne_facts (x := (s[i + 1].toNat : Int)) (k := 10) (by omega)
        obtain ⟨f3, f4⟩ := eq_facts (x := (s[i + 1].toNat : Int)) (k := 34) (by omega)
        go_wp2
        go_returns
        exact ⟨ret_val (by rw [hf.out]; exact (textV_ok o i).symm), rfl⟩
      · obtain ⟨f1, f2⟩ := ne_facts (x := (s[i + 1].toNat : Int)) (k := 10) (by omega)
        obtain ⟨f3, f4⟩ := ne_facts (x := (s[i + 1].toNat : Int)) (k := 34) (by omega)
        obtain ⟨f5, f6⟩ := eq_facts (x := (s[i + 1].toNat : Int)) (k := 92) (by omega)
        by_cases hl2 : i + 1 + 1 < s.size
        · have hst := hf.out
          rw [drop_at s (i + 1 + 1) hl2] at hst
          have hw := cont_ways true o.data.toList (i + 1) s[i + 1 + 1] _ T hst
          obtain ⟨e1, e2⟩ := ne_facts (x := (i : Int) + 1 + 1) (k := (s.size : Int)) (by omega)
          clear hst hf
          rcases hw with ⟨c1, hf⟩ | ⟨c1, c2, hf⟩ | ⟨c1, c2, hf⟩ | ⟨_, c1, c2, c3, c4, hf⟩ | ⟨hx, _⟩ | ⟨hx, _⟩ | ⟨c1, c2, c3, c4, c5, hf⟩ | ⟨c1, c2, c3, c4, c5, hf⟩
          · obtain ⟨g1, g2⟩ := eq_facts (x := (s[i + 1 + 1].toNat : Int)) (k := 10) (by omega)
            go_wp2
            go_returns
            exact ⟨ret_val (by rw [hf.out]; rfl), rfl⟩
          · obtain ⟨g1, g2⟩ := ne_facts (x := (s[i + 1 + 1].toNat : Int)) (k := 10) (by omega)
            obtain ⟨g3, g4⟩ := ne_facts (x := (s[i + 1 + 1].toNat : Int)) (k := 34) (by omega)
            obtain ⟨g5, g6⟩ := ne_facts (x := (s[i + 1 + 1].toNat : Int)) (k := 92) (by omega)
            go_wp2
            go_returns
            exact ⟨ret_val (by rw [hf.out]; rfl), rfl⟩
          · obtain ⟨g1, g2⟩ := ne_facts (x := (s[i + 1 + 1].toNat : Int)) (k := 10) (by omega)
            obtain ⟨g3, g4⟩ := ne_facts (x := (s[i + 1 + 1].toNat : Int)) (k := 34) (by omega)
            obtain ⟨g5, g6⟩ := ne_facts (x := (s[i + 1 + 1].toNat : Int)) (k := 92) (by omega)
            go_wp2
            go_returns
            exact ⟨ret_val (by rw [hf.out]; rfl), rfl⟩
          · obtain ⟨g1, g2⟩ := ne_facts (x := (s[i + 1 + 1].toNat : Int)) (k := 10) (by omega)
            obtain ⟨g3, g4⟩ := ne_facts (x := (s[i + 1 + 1].toNat : Int)) (k := 34) (by omega)
            obtain ⟨g5, g6⟩ := ne_facts (x := (s[i + 1 + 1].toNat : Int)) (k := 92) (by omega)
            go_wp2
            go_returns
            exact ⟨ret_val (by rw [hf.out]; rfl), rfl⟩
          · cases hx
          · cases hx
          · obtain ⟨g1, g2⟩ := ne_facts (x := (s[i + 1 + 1].toNat : Int)) (k := 10) (by omega)
            have q : ((s[i + 1 + 1].toNat : Int) != 34) = false ∨ ((s[i + 1 + 1].toNat : Int) != 34) = true ∧ ((s[i + 1 + 1].toNat : Int) != 92) = false := by
              rcases c3 rfl with k1 | k1
              · exact .inl (eq_facts (by omega)).2
              · exact .inr ⟨(ne_facts (by omega)).2, (eq_facts (by omega)).2⟩
            have hsl := slice_one s (i + 1 + 1) ((i : Int) + 1 + 1) ((i : Int) + 1 + 1 + 1) (by omega) (by omega) hl2
            have hsz := app_size o s (i + 1 + 1) hl2
            have hsb : (32 : Int) < ((o ++ s.extract (i + 1 + 1) (i + 1 + 1 + 1)).size : Int) := by omega
            clear c3 c4 hsz
            rcases q with q1 | ⟨q1, q2⟩
            all_goals
              go_wp2
              go_returns
              exact ⟨ret_val (by rw [hf.out]; rfl), rfl⟩
          · obtain ⟨g1, g2⟩ := ne_facts (x := (s[i + 1 + 1].toNat : Int)) (k := 10) (by omega)
            have q : ((s[i + 1 + 1].toNat : Int) != 34) = false ∨ ((s[i + 1 + 1].toNat : Int) != 34) = true ∧ ((s[i + 1 + 1].toNat : Int) != 92) = false := by
              rcases c3 rfl with k1 | k1
              · exact .inl (eq_facts (by omega)).2
              · exact .inr ⟨(ne_facts (by omega)).2, (eq_facts (by omega)).2⟩
            have hsl := slice_one s (i + 1 + 1) ((i : Int) + 1 + 1) ((i : Int) + 1 + 1 + 1) (by omega) (by omega) hl2
            have hsz := app_size o s (i + 1 + 1) hl2
            have hap := app_one o s (i + 1 + 1) hl2
            have hsb : ((o ++ s.extract (i + 1 + 1) (i + 1 + 1 + 1)).size : Int) ≤ 32 := by omega
            rw [← hap] at hf
            clear c3 c4 hap
            rcases q with q1 | ⟨q1, q2⟩
            all_goals
              go_wp2
              go_round
              case rel => exact ⟨i + 1 + 1, o ++ s.extract (i + 1 + 1) (i + 1 + 1 + 1), by omega, rfl, by go_num, hf, by omega⟩
              case measure => simp [RowKit.intOf]; omega
        · have hst := hf.out
          rw [drop_end s (i + 1 + 1) hl2] at hst
          have hf' : Hid (T = ([], 0, 3)) := Lib.hid hst
          obtain ⟨e1, e2⟩ := eq_facts (x := (i : Int) + 1 + 1) (k := (s.size : Int)) (by omega)
          clear hst hf
          go_wp2
          go_returns
          exact ⟨ret_val (by rw [hf'.out]; rfl), rfl⟩
      · obtain ⟨k1, k2⟩ := c4 rfl
        obtain ⟨f1, f2⟩ := ne_facts (x := (s[i + 1].toNat : Int)) (k := 10) (by omega)
        obtain ⟨f3, f4⟩ := ne_facts (x := (s[i + 1].toNat : Int)) (k := 34) (by omega)
        obtain ⟨f5, f6⟩ := ne_facts (x := (s[i + 1].toNat : Int)) (k := 92) (by omega)
        have f7 : (s[i + 1].toNat : Int) ≤ 126 := by omega
        have f8 : (32 : Int) ≤ (s[i + 1].toNat : Int) := by omega
        have hsl := slice_one s (i + 1) ((i : Int) + 1) ((i : Int) + 1 + 1) (by omega) (by omega) hlt
        have hsz := app_size o s (i + 1) hlt
        have hsb : (32 : Int) < ((o ++ s.extract (i + 1) (i + 1 + 1)).size : Int) := by omega
        clear c3 c4 k1 k2 hsz
        go_wp2
        go_returns
        exact ⟨ret_val (by rw [hf.out]; rfl), rfl⟩
      · obtain ⟨k1, k2⟩ := c4 rfl
        obtain ⟨f1, f2⟩ := ne_facts (x := (s[i + 1].toNat : Int)) (k := 10) (by omega)
        obtain ⟨f3, f4⟩ := ne_facts (x := (s[i + 1].toNat : Int)) (k := 34) (by omega)
        obtain ⟨f5, f6⟩ := ne_facts (x := (s[i + 1].toNat : Int)) (k := 92) (by omega)
        have f7 : (s[i + 1].toNat : Int) ≤ 126 := by omega
        have f8 : (32 : Int) ≤ (s[i + 1].toNat : Int) := by omega
        have hsl := slice_one s (i + 1) ((i : Int) + 1) ((i : Int) + 1 + 1) (by omega) (by omega) hlt
        have hsz := app_size o s (i + 1) hlt
        have hap := app_one o s (i + 1) hlt
        have hsb : ((o ++ s.extract (i + 1) (i + 1 + 1)).size : Int) ≤ 32 := by omega
        rw [← hap] at hf
        clear c3 c4 k1 k2 hap
        go_wp2
        go_round
        case rel => exact ⟨i + 1, o ++ s.extract (i + 1) (i + 1 + 1), by omega, rfl, by go_num, hf, by omega⟩
        case measure => simp [RowKit.intOf]; omega
    · have hst := ha.out
      rw [drop_end s (i + 1) hlt] at hst
      have hf : Hid (T = ([], 0, 3)) := Lib.hid hst
      have hge : (s.size : Int) ≤ (i : Int) + 1 := by omega
      clear hst ha
      go_wp2
      go_returns
      exact ⟨ret_val (by rw [hf.out]; rfl), rfl⟩
end Go.Proofs.YtnjnfkfmkbnkhaaGreatDoor.Lx

/- What plain and Plain return, and the document's Quote. NOT BUILT YET (written for the seat of LexerQuotes). -/
namespace Go.Proofs.YtnjnfkfmkbnkhaaGreatDoor.Lx
open Go.RowKit Go.Sort Go.Lib Go.Shelf Fx

theorem plain_cons (b : UInt8) (r : List UInt8) : plainB (b :: r) = (decide (32 ≤ b.toNat ∧ b.toNat ≤ 126) && plainB r) := rfl

set_option maxHeartbeats 4000000 in
set_option maxRecDepth 1000000 in
theorem plain_any (s : ByteArray) (hs : s.size ≤ 35184372088832) (w : World) :
    Calls Tryz.prog 94 #[.string s] w fun e w' => e = .returned (.bool (plainB s.data.toList)) ∧ Ext w w' := by
  obtain ⟨P, hP⟩ : ∃ P, P = plainB s.data.toList := ⟨_, rfl⟩
  have HP : Hid (P = plainB (s.data.toList.drop 0)) := Lib.hid (by rw [hP]; rfl)
  rw [← hP]; clear hP
  go_enter Tryz.func94, Tryz.ntmps94
  go_wp2
  go_loopw [] (fun wr => ∃ (pos : Nat), wr.heap[w.heap.size]? = some (.stringIter s pos) ∧ Below w.heap.size w wr ∧ Hid (P = plainB (s.data.toList.drop pos))) (fun wr => s.size - wr.iterPos w.heap.size)
  case atStart =>
    refine ⟨0, ?_, (Below.refl _ w).alloc (Nat.le_refl _) _, HP⟩
    have := World.iter_heap w s 0
    simpa using this
  case round =>
    obtain ⟨pos, hit, hbw, hacc⟩ := hrel
    clear HP
    have hsz : w.heap.size < wr.heap.size := (Array.getElem?_eq_some_iff.1 hit).1
    by_cases hp : pos < s.size
    · have hst := hacc.out
      rw [drop_at s pos hp, plain_cons] at hst
      clear hacc
      by_cases ha : s[pos].toNat < 128
      · have hnx : ∀ ty, (Instr.next (.pointer (some ⟨w.heap.size, 0, none⟩)) true ty).run Tryz.prog wr = _ := fun ty => Lib.run_next_ascii_at wr w.heap.size s pos ty hit hp ha
        have hit2 := Lib.iterAt_heap wr w.heap.size s pos (pos + 1) hit
        have hbw2 := Lib.below_iterAt hbw (k := w.heap.size) (Nat.le_refl _) s (pos + 1)
        by_cases h1 : s[pos].toNat < 32
        · have hf : Hid (P = false) := Lib.hid (by rw [hst, decide_eq_false (by omega)]; rfl)
          have t1 : (s[pos].toNat : Int) < 32 := by omega
          clear hst
          go_wp2
          go_ret
          exact ⟨ret_bool hf.out.symm, hbw2⟩
        · by_cases h2 : 126 < s[pos].toNat
          · have hf : Hid (P = false) := Lib.hid (by rw [hst, decide_eq_false (by omega)]; rfl)
            have t1 : (32 : Int) ≤ (s[pos].toNat : Int) := by omega
            have t2 : (126 : Int) < (s[pos].toNat : Int) := by omega
            clear hst
            go_wp2
            go_ret
            exact ⟨ret_bool hf.out.symm, hbw2⟩
          · have hf : Hid (P = plainB (s.data.toList.drop (pos + 1))) := Lib.hid (by rw [hst, decide_eq_true (by omega)]; rfl)
            have t1 : (32 : Int) ≤ (s[pos].toNat : Int) := by omega
            have t2 : (s[pos].toNat : Int) ≤ 126 := by omega
            clear hst
            go_wp2
            go_roundw
            case rel => exact ⟨pos + 1, hit2, hbw2, hf⟩
            case measure =>
              simp only [World.iterPos, hit2, hit]
              omega
      · have hh := decode_high s pos hp (by omega)
        have hd1 := decode_le s pos
        have hnx : ∀ ty, (Instr.next (.pointer (some ⟨w.heap.size, 0, none⟩)) true ty).run Tryz.prog wr = _ := fun ty => Lib.run_next_any_at wr w.heap.size s pos ty hit hp
        have hbw2 := Lib.below_iterAt hbw (k := w.heap.size) (Nat.le_refl _) s (pos + (Utf8.decode s pos).2)
        have hf : Hid (P = false) := Lib.hid (by rw [hst, decide_eq_false (by omega)]; rfl)
        clear hst
        generalize (Utf8.decode s pos).1 = dr at hnx hh hd1
        generalize (Utf8.decode s pos).2 = dw at hnx hh hbw2
        obtain ⟨hh1, hh2⟩ := hh
        have f6 : (126 : Int) < (dr : Int) := by omega
        have f7 : (32 : Int) ≤ (dr : Int) := by omega
        go_wp2
        go_ret
        exact ⟨ret_bool hf.out.symm, hbw2⟩
    · have hnx : ∀ ty, (Instr.next (.pointer (some ⟨w.heap.size, 0, none⟩)) true ty).run Tryz.prog wr = _ := fun ty => Lib.run_next_end_at wr w.heap.size s pos ty hit hp
      have hf : Hid (P = true) := Lib.hid (by rw [hacc.out, drop_end s pos hp]; rfl)
      clear hacc
      go_wp2
      go_ret
      exact ⟨ret_bool hf.out.symm, hbw⟩

set_option maxHeartbeats 4000000 in
theorem plainR_any (s : ByteArray) (hs : s.size ≤ 9223372036854775807) (w : World) :
    Calls Tryz.prog 98 #[.string s] w fun e w' => e = .returned (.bool (plainB s.data.toList)) ∧ w = w' := by
  obtain ⟨P, hP⟩ : ∃ P, P = plainB s.data.toList := ⟨_, rfl⟩
  have HP : Hid (P = plainB (s.data.toList.drop 0)) := Lib.hid (by rw [hP]; rfl)
  rw [← hP]; clear hP
  go_enter Tryz.func98, Tryz.ntmps98
  go_wp2_with fail
  go_loop [3] (fun i' => ∃ k : Nat, k ≤ s.size ∧ i' = .int .i64 k ∧ Hid (P = plainB (s.data.toList.drop k))) (fun i' => s.size - (RowKit.intOf i').toNat)
  case atStart => exact ⟨0, by omega, rfl, HP⟩
  case round =>
    obtain ⟨k, hk, rfl, hacc⟩ := hrel
    clear HP
    by_cases hp : k < s.size
    · have hst := hacc.out
      rw [drop_at s k hp, plain_cons] at hst
      clear hacc
      by_cases h1 : s[k].toNat < 32
      · have hf : Hid (P = false) := Lib.hid (by rw [hst, decide_eq_false (by omega)]; rfl)
        have t1 : (s[k].toNat : Int) < 32 := by omega
        clear hst
        go_wp2
        go_ret
        exact ⟨ret_bool hf.out.symm, rfl⟩
      · by_cases h2 : 126 < s[k].toNat
        · have hf : Hid (P = false) := Lib.hid (by rw [hst, decide_eq_false (by omega)]; rfl)
          have t1 : (32 : Int) ≤ (s[k].toNat : Int) := by omega
          have t2 : (126 : Int) < (s[k].toNat : Int) := by omega
          clear hst
          go_wp2
          go_ret
          exact ⟨ret_bool hf.out.symm, rfl⟩
        · have hf : Hid (P = plainB (s.data.toList.drop (k + 1))) := Lib.hid (by rw [hst, decide_eq_true (by omega)]; rfl)
          have t1 : (32 : Int) ≤ (s[k].toNat : Int) := by omega
          have t2 : (s[k].toNat : Int) ≤ 126 := by omega
          clear hst
          go_wp2
          go_round
          case rel => exact ⟨k + 1, by omega, by go_num, hf⟩
          case measure => simp [RowKit.intOf]; omega
    · have hf : Hid (P = true) := Lib.hid (by rw [hacc.out, drop_end s k hp]; rfl)
      have hge : (s.size : Int) ≤ (k : Int) := by omega
      clear hacc
      go_wp2
      go_ret
      exact ⟨ret_bool hf.out.symm, rfl⟩
end Go.Proofs.YtnjnfkfmkbnkhaaGreatDoor.Lx

/- What the Replacer's Replace returns, and Quote. -/
namespace Go.Proofs.YtnjnfkfmkbnkhaaGreatDoor.Qo
open Go.RowKit Go.Lib Fx Lx

set_option maxHeartbeats 1600000 in
set_option maxRecDepth 100000 in
theorem replace_any (B rb g cap : Nat) (s : ByteArray) (w : World) (hs : s.size ≤ 32) (hB : B ≤ rb) (hb : w.heap[rb]? = some (.cells #[.int .u32 0, .int .i32 0, .int .u32 0, .nilIface, .slice (some ⟨g, 0, none⟩) 4 cap] 136 (0, 0)))
    (hg : ∀ j u, oldnew[j]? = some u → w.cell? ⟨g, j, none⟩ = some u) (hne : g ≠ rb) :
    Calls Tryz.prog 96 #[.pointer (some ⟨rb, 0, none⟩), .string s] w fun e w' => e = .returned (.string ⟨(escL s.data.toList).toArray⟩) ∧ Below B w w' := by
  have c0 : w.cell? ⟨rb, 0, none⟩ = some (.int .u32 0) := cell_of_blk hb 0
  have c1 : w.cell? ⟨rb, 1, none⟩ = some (.int .i32 0) := cell_of_blk hb 1
  have f0 := frozen_of_blk hb 0
  have f1 := frozen_of_blk hb 1
  have hlt := (Array.getElem?_eq_some_iff.1 hb).1
  have hb1 := heap_setCell_same w rb 1 _ 136 (.int .i32 1) hb
  have hg1 : ∀ j u, oldnew[j]? = some u → (w.setCell ⟨rb, 1, none⟩ (.int .i32 1)).cell? ⟨g, j, none⟩ = some u := fun j u h => by
    rw [World.cell?_setCell_other _ ⟨rb, 1, none⟩ ⟨g, j, none⟩ _ (fun e => hne (by injection e with e; exact e.symm))]; exact hg j u h
  have hbo := buildOnce_any B rb g cap (w.setCell ⟨rb, 1, none⟩ (.int .i32 1)) hB hb1 (hg1 0 _ rfl) (hg1 1 _ rfl) (hg1 2 _ rfl) (hg1 3 _ rfl)
  have hdo := do_first rb (.pointer (some ⟨rb, 0, none⟩)) w (Built B rb (w.setCell ⟨rb, 1, none⟩ (.int .i32 1))) c0 c1 f0 f1 hbo (fun w' h => by
    obtain ⟨k, h1, _⟩ := h
    exact ⟨cell_of_blk h1 0, cell_of_blk h1 1, frozen_of_blk h1 0, frozen_of_blk h1 1⟩)
  have HD := Lib.hid hdo
  have hbw : Below B w (w.setCell ⟨rb, 1, none⟩ (.int .i32 1)) := (Below.refl B w).setCell (p := ⟨rb, 1, none⟩) hB _
  have HBW := Lib.hid hbw
  clear hb hg hb1 hg1 hbo hdo c0 c1 f0 f1 hbw
  have hmf : ∀ (fn : Fn) (first cap : Array Value) (w : World), (Instr.makeFunc fn first cap).run Tryz.prog w = .ok (.func fn first cap) w := fun _ _ _ _ => rfl
  go_enter Tryz.func96, Tryz.ntmps96
  go_wp2_with fail
  refine HD.out.mono ?_
  rintro e w1 ⟨rfl, wq, ⟨k, hq, hr, hx⟩, rfl⟩
  have hq1 := heap_setCell_same wq.drew rb 0 _ 136 (.int .u32 1) hq
  have hq2 := heap_setCell_same (wq.drew.setCell ⟨rb, 0, none⟩ (.int .u32 1)) rb 1 _ 136 (.int .i32 0) hq1
  have hr2 : RepAt ((wq.drew.setCell ⟨rb, 0, none⟩ (.int .u32 1)).setCell ⟨rb, 1, none⟩ (.int .i32 0)) k := by
    refine hr.kept (by simp only [World.setCell, Array.size_modify]; exact Nat.le_refl _) fun p C T fz hT hp => ?_
    have hpn : p ≠ rb := by
      rintro rfl
      rw [hq] at hp
      injection hp with hp
      injection hp with _ ht
      rcases hT with rfl | rfl | rfl <;> exact absurd ht (by decide)
    rw [heap_setCell_other _ ⟨rb, 1, none⟩ p _ hpn, heap_setCell_other _ ⟨rb, 0, none⟩ p _ hpn]; exact hp
  have hx2 : Below B w ((wq.drew.setCell ⟨rb, 0, none⟩ (.int .u32 1)).setCell ⟨rb, 1, none⟩ (.int .i32 0)) := ((HBW.out.trans hx).drew.setCell (p := ⟨rb, 0, none⟩) hB _).setCell (p := ⟨rb, 1, none⟩) hB _
  have d3 : ((wq.drew.setCell ⟨rb, 0, none⟩ (.int .u32 1)).setCell ⟨rb, 1, none⟩ (.int .i32 0)).cell? ⟨rb, 3, none⟩ = some (.iface 170 (.pointer (some ⟨k, 0, none⟩))) := cell_of_blk hq2 3
  generalize (wq.drew.setCell ⟨rb, 0, none⟩ (.int .u32 1)).setCell ⟨rb, 1, none⟩ (.int .i32 0) = w1 at hr2 hx2 d3 ⊢
  have HR := Lib.hid hr2
  clear hq hr hx hq1 hq2 hr2 HD
  go_wp2_with fail
  refine (repl_any k s w1 hs HR.out).mono ?_
  rintro e w2 ⟨rfl, x2⟩
  go_wp2_with fail
  go_ret
  exact ⟨rfl, hx2.trans (x2.mono (by have := (Array.getElem?_eq_some_iff.1 HR.out.choose_spec.choose_spec.choose_spec.choose_spec.1.blk).1; have := hx2.size; omega))⟩

theorem Ext.trans' {a b c : World} (h : Ext a b) (k : Below a.heap.size b c) : Ext a c := Below.trans h k
def quoteV (l : List UInt8) : Value := .tuple #[.string ⟨(quote l).1.toArray⟩, .int .i64 (quote l).2]
theorem three_app (l : List UInt8) : (⟨#[34]⟩ : ByteArray) ++ (⟨l.toArray⟩ : ByteArray) ++ (⟨#[34]⟩ : ByteArray) = ⟨(34 :: (l ++ [34])).toArray⟩ := by
  apply ByteArray.ext
  simp [ByteArray.data_append]

set_option maxHeartbeats 1600000 in
set_option maxRecDepth 100000 in
theorem quote_any (s : ByteArray) (w : World) (hs : s.size ≤ 9223372036854775807) :
    Calls Tryz.prog 77 #[.string s] w fun e w' => e = .returned (quoteV s.data.toList) ∧ Ext w w' := by
  by_cases h1 : 32 < s.size
  · have hq : quoteV s.data.toList = .tuple #[.string ⟨#[]⟩, .int .i64 2] := by unfold quoteV quote; rw [if_pos (by rw [← size_len]; exact h1)]
    have HQ := Lib.hid hq
    clear hq
    go_enter Tryz.func77, Tryz.ntmps77
    go_wp2_with fail
    go_returns
    exact ⟨ret_val HQ.out.symm, Ext.refl _⟩
  · have hp := plain_any s (by omega) w
    have h1' : s.size ≤ 32 := by omega
    cases hpl : plainB s.data.toList
    · have hq : quoteV s.data.toList = .tuple #[.string ⟨#[]⟩, .int .i64 1] := by unfold quoteV quote; rw [if_neg (by rw [← size_len]; exact h1), hpl]; rfl
      rw [hpl] at hp
      have HQ := Lib.hid hq; have HP := Lib.hid hp
      clear hq hp hpl
      go_enter Tryz.func77, Tryz.ntmps77
      go_wp2_with fail
      refine HP.out.mono ?_
      rintro e w1 ⟨rfl, x1⟩
      go_wp2_with fail
      go_returns
      exact ⟨ret_val HQ.out.symm, x1⟩
    · have hq : quoteV s.data.toList = .tuple #[.string ⟨(34 :: (escL s.data.toList ++ [34])).toArray⟩, .int .i64 0] := by unfold quoteV quote; rw [if_neg (by rw [← size_len]; exact h1), hpl]; rfl
      have hel := escL_le s.data.toList
      rw [← size_len] at hel
      have hes : (⟨(escL s.data.toList).toArray⟩ : ByteArray).size ≤ 64 := by rw [size_mk]; omega
      rw [hpl] at hp
      have HQ := Lib.hid hq; have HP := Lib.hid hp
      clear hq hp hpl hel
      go_enter Tryz.func77, Tryz.ntmps77
      go_wp2_with fail
      refine HP.out.mono ?_
      rintro e w1 ⟨rfl, x1⟩
      go_wp2_with fail
      refine (newReplacer_any w1).mono ?_
      rintro e w2 ⟨rb, g, cap, rfl, hrb, hb, hg, hne, x2⟩
      have HB := Lib.hid hb; have HG := Lib.hid hg
      clear hb hg
      go_wp2_with fail
      refine (replace_any w1.heap.size rb g cap s w2 h1' hrb HB.out HG.out hne).mono ?_
      rintro e w3 ⟨rfl, x3⟩
      have hts := three_app (escL s.data.toList)
      generalize (⟨(escL s.data.toList).toArray⟩ : ByteArray) = E at hes hts ⊢
      have HT := Lib.hid hts
      clear hts
      go_wp2_with fail
      go_returns
      refine ⟨ret_val ?_, x1.trans (Ext.trans' x2 x3)⟩
      rw [HQ.out, ← HT.out]; rfl

set_option maxHeartbeats 1600000 in
theorem quoteR_any (s : ByteArray) (w : World) (hs : s.size ≤ 9223372036854775807) :
    Calls Tryz.prog 80 #[.string s] w fun e w' => e = .returned (quoteV s.data.toList) ∧ w = w' := by
  by_cases h1 : 32 < s.size
  · have hq : quoteV s.data.toList = .tuple #[.string ⟨#[]⟩, .int .i64 2] := by unfold quoteV quote; rw [if_pos (by rw [← size_len]; exact h1)]
    have HQ := Lib.hid hq
    clear hq
    go_enter Tryz.func80, Tryz.ntmps80
    go_wp2_with fail
    go_returns
    exact ⟨ret_val HQ.out.symm, rfl⟩
  · have hp := plainR_any s (by omega) w
    have h1' : s.size ≤ 32 := by omega
    cases hpl : plainB s.data.toList
    · have hq : quoteV s.data.toList = .tuple #[.string ⟨#[]⟩, .int .i64 1] := by unfold quoteV quote; rw [if_neg (by rw [← size_len]; exact h1), hpl]; rfl
      rw [hpl] at hp
      have HQ := Lib.hid hq; have HP := Lib.hid hp
      clear hq hp hpl
      go_enter Tryz.func80, Tryz.ntmps80
      go_wp2_with fail
      refine HP.out.mono ?_
      rintro e w1 ⟨rfl, rfl⟩
      go_wp2_with fail
      go_returns
      exact ⟨ret_val HQ.out.symm, rfl⟩
    · have hq : quoteV s.data.toList = .tuple #[.string ⟨(34 :: (escL s.data.toList ++ [34])).toArray⟩, .int .i64 0] := by unfold quoteV quote; rw [if_neg (by rw [← size_len]; exact h1), hpl]; rfl
      rw [hpl] at hp
      have h1b : decide ((32 : Int) < (s.size : Int)) = false := by simp; omega
      have HQ := Lib.hid hq; have HP := Lib.hid hp
      clear hq hp hpl
      go_enter Tryz.func80, Tryz.ntmps80
      go_wp2_with fail
      refine HP.out.mono ?_
      rintro e w1 ⟨rfl, rfl⟩
      go_wp2_with fail
      go_loop [4, 5] (fun ov ix => ∃ (o : ByteArray) (i : Nat), ov = .string o ∧ ix = .int .i64 i ∧ i ≤ s.size ∧ o.size ≤ 1 + 2 * i ∧ Hid (o.data.toList = 34 :: escL (s.data.toList.take i))) (fun _ ix => s.size - (RowKit.intOf ix).toNat)
      case atStart => exact ⟨⟨#[34]⟩, 0, rfl, rfl, by omega, by decide, Lib.hid rfl⟩
      case round =>
        obtain ⟨o, i, rfl, rfl, hi, ho, hol⟩ := hrel
        by_cases hlt : i < s.size
        · have hsn := take_at s i hlt
          have hasz := app_size o s i hlt
          have hal := app_one o s i hlt
          have hasz2 := app_size (o ++ (⟨#[92]⟩ : ByteArray)) s i hlt
          have hal2 := app_one (o ++ (⟨#[92]⟩ : ByteArray)) s i hlt
          have h92 : (o ++ (⟨#[92]⟩ : ByteArray)).data.toList = o.data.toList ++ [92] := data_app _ _
          have h92s : (o ++ (⟨#[92]⟩ : ByteArray)).size = o.size + 1 := by rw [size_len, h92, size_len]; simp
          have hsl := slice_one s i i ((i : Int) + 1) rfl rfl hlt
          have HS := Lib.hid hsn; have HA := Lib.hid hal; have HA2 := Lib.hid hal2; have H92 := Lib.hid h92
          have b1 : (o ++ s.extract i (i + 1)).size ≤ 1 + 2 * (i + 1) := by omega
          have b2 : ((o ++ (⟨#[92]⟩ : ByteArray)) ++ s.extract i (i + 1)).size ≤ 1 + 2 * (i + 1) := by omega
          have b3 : (o ++ (⟨#[92]⟩ : ByteArray)).size ≤ 2 + 2 * i := by omega
          clear hsn hasz hal hasz2 hal2 h92 h92s
          by_cases c34 : s[i].toNat = 34
          · have hb : s[i] = 34 := UInt8.toNat_inj.1 c34
            have HB := Lib.hid hb
            obtain ⟨e1, e2⟩ := eq_facts (x := (s[i].toNat : Int)) (k := 34) (by omega)
            clear hb c34
            go_wp2_with fail
            go_round
            case rel => exact ⟨_, i + 1, rfl, by go_num, by omega, b2, Lib.hid (by rw [HA2.out, H92.out, hol.out, HS.out, escL_snoc, HB.out]; simp [escB])⟩
            case measure => simp [RowKit.intOf]; omega
          · by_cases c92 : s[i].toNat = 92
            · have hb : s[i] = 92 := UInt8.toNat_inj.1 c92
              have HB := Lib.hid hb
              obtain ⟨e1, e2⟩ := ne_facts (x := (s[i].toNat : Int)) (k := 34) (by omega)
              obtain ⟨e3, e4⟩ := eq_facts (x := (s[i].toNat : Int)) (k := 92) (by omega)
              clear hb c34 c92
              go_wp2_with fail
              go_round
              case rel => exact ⟨_, i + 1, rfl, by go_num, by omega, b2, Lib.hid (by rw [HA2.out, H92.out, hol.out, HS.out, escL_snoc, HB.out]; simp [escB])⟩
              case measure => simp [RowKit.intOf]; omega
            · have hes : ¬ (s[i] = 34 ∨ s[i] = 92) := fun h => h.elim (fun e => c34 (by rw [e]; rfl)) (fun e => c92 (by rw [e]; rfl))
              have HES := Lib.hid hes
              obtain ⟨e1, e2⟩ := ne_facts (x := (s[i].toNat : Int)) (k := 34) (by omega)
              obtain ⟨e3, e4⟩ := ne_facts (x := (s[i].toNat : Int)) (k := 92) (by omega)
              clear hes c34 c92
              go_wp2_with fail
              go_round
              case rel => exact ⟨_, i + 1, rfl, by go_num, by omega, b1, Lib.hid (by rw [HA.out, hol.out, HS.out, escL_snoc, show escB s[i] = [s[i]] from if_neg HES.out]; simp)⟩
              case measure => simp [RowKit.intOf]; omega
        · obtain rfl : i = s.size := by omega
          have hge : ¬ ((s.size : Int) < (s.size : Int)) := by omega
          go_wp2_with fail
          go_returns
          refine ⟨ret_val ?_, rfl⟩
          have hfin : o ++ (⟨#[34]⟩ : ByteArray) = ⟨(34 :: (escL s.data.toList ++ [34])).toArray⟩ := by
            apply ByteArray.ext
            apply Array.toList_inj.1
            rw [data_app, hol.out, List.take_of_length_le (by rw [← size_len]; exact Nat.le_refl _)]
            rfl
          rw [HQ.out, ← hfin]; rfl
end Go.Proofs.YtnjnfkfmkbnkhaaGreatDoor.Qo
