/- What the document's IsMark, number and text return. -/
import Derived.Test.YtddpodndchpjfaaDoorLexCont
import Derived.Test.YtddpodndchpjfaaDoorLexOne
namespace Go.Proofs.YtddpodndchpjfaaDoor.Lx
open Go.RowKit Go.Sort Go.Lib Go.Shelf Fx

theorem isMark_any (s : ByteArray) (w : World) : Calls Tryd.prog 32 #[.string s] w fun e w' => e = .returned (.bool (isM s.data.toList)) ∧ w = w' := by
  go_enter Tryd.func32, Tryd.ntmps32
  go_wp2
  all_goals
    go_ret
    exact ⟨ret_bool (by rw [← ByteArray.toList_eq]; unfold isM; simp_all), rfl⟩

theorem extract_one (s : ByteArray) (k : Nat) (hk : k < s.size) : (s.extract k (k + 1)).data.toList = [s[k]] := by
  have h : k < s.data.toList.length := by rw [← size_len]; exact hk
  rw [ByteArray.data_extract, Array.toList_extract, List.extract_eq_take_drop, show k + 1 - k = 1 by omega, List.drop_eq_getElem_cons h]
  rfl
theorem app_one (o s : ByteArray) (k : Nat) (hk : k < s.size) : (o ++ s.extract k (k + 1)).data.toList = o.data.toList ++ [s[k]] := by
  rw [data_app, extract_one s k hk]
theorem app_size (o s : ByteArray) (k : Nat) (hk : k < s.size) : (o ++ s.extract k (k + 1)).size = o.size + 1 := by
  rw [size_len, app_one o s k hk, size_len]; simp

theorem slice_one (s : ByteArray) (k : Nat) (a b : Int) (ha : a = k) (hb : b = (k : Int) + 1) (hk : k < s.size) (W : World) : (Instr.slice 9 (.string s) (some (.int .i64 a)) (some (.int .i64 b)) none).run Tryd.prog W = .ok (.string (s.extract k (k + 1))) W := by
  subst ha; subst hb
  rw [run_slice_string W _ _ .i64 .i64 k ((k : Int) + 1) Tryd.underlying9 (by omega) (by omega) (by omega)]
  rw [Int.toNat_natCast, show ((k : Int) + 1).toNat = k + 1 by omega]

def textV (T : List UInt8 × Nat × Int) : Value := .tuple #[.string ⟨T.1.toArray⟩, .int .i64 (if T.2.2 = 0 then (T.2.1 : Int) + 1 else T.2.1), .int .i64 T.2.2]

theorem textV_ok (o : ByteArray) (i : Nat) : textV (o.data.toList, i + 1, 0) = .tuple #[.string o, .int .i64 ((i : Int) + 1 + 1), .int .i64 0] := by
  unfold textV; cases o; simp

set_option maxHeartbeats 8000000 in
set_option maxRecDepth 1000000 in
theorem text_any (s : ByteArray) (h0 : 0 < s.size) (hs : s.size ≤ 35184372088832) (w : World) :
    Calls Tryd.prog 31 #[.string s] w fun e w' => e = .returned (textV (contents false [] 0 (s.data.toList.drop 1))) ∧ w = w' := by
  obtain ⟨T, hT⟩ : ∃ T, T = contents false [] 0 (s.data.toList.drop 1) := ⟨_, rfl⟩
  have HT := Lib.hid hT
  rw [← hT]; clear hT
  go_enter Tryd.func31, Tryd.ntmps31
  go_wp2_with fail
  go_loop [5, 6] (fun out at' => ∃ (i : Nat) (o : ByteArray), i + 1 ≤ s.size ∧ out = .string o ∧ at' = .int .i64 ((i : Int) + 1) ∧ Hid (T = contents false o.data.toList i (s.data.toList.drop (i + 1))) ∧ o.size ≤ 32) (fun _ at' => s.size + 1 - (RowKit.intOf at').toNat)
  case atStart => exact ⟨0, ⟨#[]⟩, by omega, rfl, rfl, HT, by decide⟩
  case round =>
    obtain ⟨i, o, hi, rfl, rfl, ha, ho⟩ := hrel
    clear HT
    have hol : o.data.toList.length = o.size := (size_len o).symm
    by_cases hlt : i + 1 < s.size
    · have hst := ha.out
      rw [drop_at s (i + 1) hlt] at hst
      have hw := cont_ways false o.data.toList i s[i + 1] _ T hst
      clear hst ha
      rcases hw with ⟨c1, hf⟩ | ⟨c1, c2, hf⟩ | ⟨c1, c2, hf⟩ | ⟨hx, _⟩ | ⟨_, c1, hf⟩ | ⟨_, c1, hf⟩ | ⟨c1, c2, c3, c4, c5, hf⟩ | ⟨c1, c2, c3, c4, c5, hf⟩
      · obtain ⟨f1, f2⟩ := eq_facts (x := (s[i + 1].toNat : Int)) (k := 10) (by omega)
        go_wp2
        go_returns
        exact ⟨ret_val (by rw [hf.out]; rfl), rfl⟩
      · obtain ⟨f1, f2⟩ := ne_facts (x := (s[i + 1].toNat : Int)) (k := 10) (by omega)
        obtain ⟨f3, f4⟩ := ne_facts (x := (s[i + 1].toNat : Int)) (k := 34) (by omega)
        obtain ⟨f5, f6⟩ := ne_facts (x := (s[i + 1].toNat : Int)) (k := 92) (by omega)
        have f7 : (126 : Int) < (s[i + 1].toNat : Int) := by omega
        have f8 : (32 : Int) ≤ (s[i + 1].toNat : Int) := by omega
        go_wp2
        go_returns
        exact ⟨ret_val (by rw [hf.out]; rfl), rfl⟩
      · obtain ⟨f1, f2⟩ := ne_facts (x := (s[i + 1].toNat : Int)) (k := 10) (by omega)
        obtain ⟨f3, f4⟩ := ne_facts (x := (s[i + 1].toNat : Int)) (k := 34) (by omega)
        obtain ⟨f5, f6⟩ := ne_facts (x := (s[i + 1].toNat : Int)) (k := 92) (by omega)
        have f7 : (s[i + 1].toNat : Int) < 32 := by omega
        go_wp2
        go_returns
        exact ⟨ret_val (by rw [hf.out]; rfl), rfl⟩
      · cases hx
      · obtain ⟨f1, f2⟩ := ne_facts (x := (s[i + 1].toNat : Int)) (k := 10) (by omega)
        obtain ⟨f3, f4⟩ := eq_facts (x := (s[i + 1].toNat : Int)) (k := 34) (by omega)
        go_wp2
        go_returns
        exact ⟨ret_val (by rw [hf.out]; exact (textV_ok o i).symm), rfl⟩
      · obtain ⟨f1, f2⟩ := ne_facts (x := (s[i + 1].toNat : Int)) (k := 10) (by omega)
        obtain ⟨f3, f4⟩ := ne_facts (x := (s[i + 1].toNat : Int)) (k := 34) (by omega)
        obtain ⟨f5, f6⟩ := eq_facts (x := (s[i + 1].toNat : Int)) (k := 92) (by omega)
        by_cases hl2 : i + 1 + 1 < s.size
        · have hst := hf.out
          rw [drop_at s (i + 1 + 1) hl2] at hst
          have hw := cont_ways true o.data.toList (i + 1) s[i + 1 + 1] _ T hst
          obtain ⟨e1, e2⟩ := ne_facts (x := (i : Int) + 1 + 1) (k := (s.size : Int)) (by omega)
          clear hst hf
          rcases hw with ⟨c1, hf⟩ | ⟨c1, c2, hf⟩ | ⟨c1, c2, hf⟩ | ⟨_, c1, c2, c3, c4, hf⟩ | ⟨hx, _⟩ | ⟨hx, _⟩ | ⟨c1, c2, c3, c4, c5, hf⟩ | ⟨c1, c2, c3, c4, c5, hf⟩
          · obtain ⟨g1, g2⟩ := eq_facts (x := (s[i + 1 + 1].toNat : Int)) (k := 10) (by omega)
            go_wp2
            go_returns
            exact ⟨ret_val (by rw [hf.out]; rfl), rfl⟩
          · obtain ⟨g1, g2⟩ := ne_facts (x := (s[i + 1 + 1].toNat : Int)) (k := 10) (by omega)
            obtain ⟨g3, g4⟩ := ne_facts (x := (s[i + 1 + 1].toNat : Int)) (k := 34) (by omega)
            obtain ⟨g5, g6⟩ := ne_facts (x := (s[i + 1 + 1].toNat : Int)) (k := 92) (by omega)
            go_wp2
            go_returns
            exact ⟨ret_val (by rw [hf.out]; rfl), rfl⟩
          · obtain ⟨g1, g2⟩ := ne_facts (x := (s[i + 1 + 1].toNat : Int)) (k := 10) (by omega)
            obtain ⟨g3, g4⟩ := ne_facts (x := (s[i + 1 + 1].toNat : Int)) (k := 34) (by omega)
            obtain ⟨g5, g6⟩ := ne_facts (x := (s[i + 1 + 1].toNat : Int)) (k := 92) (by omega)
            go_wp2
            go_returns
            exact ⟨ret_val (by rw [hf.out]; rfl), rfl⟩
          · obtain ⟨g1, g2⟩ := ne_facts (x := (s[i + 1 + 1].toNat : Int)) (k := 10) (by omega)
            obtain ⟨g3, g4⟩ := ne_facts (x := (s[i + 1 + 1].toNat : Int)) (k := 34) (by omega)
            obtain ⟨g5, g6⟩ := ne_facts (x := (s[i + 1 + 1].toNat : Int)) (k := 92) (by omega)
            go_wp2
            go_returns
            exact ⟨ret_val (by rw [hf.out]; rfl), rfl⟩
          · cases hx
          · cases hx
          · obtain ⟨g1, g2⟩ := ne_facts (x := (s[i + 1 + 1].toNat : Int)) (k := 10) (by omega)
            have q : ((s[i + 1 + 1].toNat : Int) != 34) = false ∨ ((s[i + 1 + 1].toNat : Int) != 34) = true ∧ ((s[i + 1 + 1].toNat : Int) != 92) = false := by
              rcases c3 rfl with k1 | k1
              · exact .inl (eq_facts (by omega)).2
              · exact .inr ⟨(ne_facts (by omega)).2, (eq_facts (by omega)).2⟩
            have hsl := slice_one s (i + 1 + 1) ((i : Int) + 1 + 1) ((i : Int) + 1 + 1 + 1) (by omega) (by omega) hl2
            have hsz := app_size o s (i + 1 + 1) hl2
            have hsb : (32 : Int) < ((o ++ s.extract (i + 1 + 1) (i + 1 + 1 + 1)).size : Int) := by omega
            clear c3 c4 hsz
            rcases q with q1 | ⟨q1, q2⟩
            all_goals
              go_wp2
              go_returns
              exact ⟨ret_val (by rw [hf.out]; rfl), rfl⟩
          · obtain ⟨g1, g2⟩ := ne_facts (x := (s[i + 1 + 1].toNat : Int)) (k := 10) (by omega)
            have q : ((s[i + 1 + 1].toNat : Int) != 34) = false ∨ ((s[i + 1 + 1].toNat : Int) != 34) = true ∧ ((s[i + 1 + 1].toNat : Int) != 92) = false := by
              rcases c3 rfl with k1 | k1
              · exact .inl (eq_facts (by omega)).2
              · exact .inr ⟨(ne_facts (by omega)).2, (eq_facts (by omega)).2⟩
            have hsl := slice_one s (i + 1 + 1) ((i : Int) + 1 + 1) ((i : Int) + 1 + 1 + 1) (by omega) (by omega) hl2
            have hsz := app_size o s (i + 1 + 1) hl2
            have hap := app_one o s (i + 1 + 1) hl2
            have hsb : ((o ++ s.extract (i + 1 + 1) (i + 1 + 1 + 1)).size : Int) ≤ 32 := by omega
            rw [← hap] at hf
            clear c3 c4 hap
            rcases q with q1 | ⟨q1, q2⟩
            all_goals
              go_wp2
              go_round
              case rel => exact ⟨i + 1 + 1, o ++ s.extract (i + 1 + 1) (i + 1 + 1 + 1), by omega, rfl, by go_num, hf, by omega⟩
              case measure => simp [RowKit.intOf]; omega
        · have hst := hf.out
          rw [drop_end s (i + 1 + 1) hl2] at hst
          have hf' : Hid (T = ([], 0, 3)) := Lib.hid hst
          obtain ⟨e1, e2⟩ := eq_facts (x := (i : Int) + 1 + 1) (k := (s.size : Int)) (by omega)
          clear hst hf
          go_wp2
          go_returns
          exact ⟨ret_val (by rw [hf'.out]; rfl), rfl⟩
      · obtain ⟨k1, k2⟩ := c4 rfl
        obtain ⟨f1, f2⟩ := ne_facts (x := (s[i + 1].toNat : Int)) (k := 10) (by omega)
        obtain ⟨f3, f4⟩ := ne_facts (x := (s[i + 1].toNat : Int)) (k := 34) (by omega)
        obtain ⟨f5, f6⟩ := ne_facts (x := (s[i + 1].toNat : Int)) (k := 92) (by omega)
        have f7 : (s[i + 1].toNat : Int) ≤ 126 := by omega
        have f8 : (32 : Int) ≤ (s[i + 1].toNat : Int) := by omega
        have hsl := slice_one s (i + 1) ((i : Int) + 1) ((i : Int) + 1 + 1) (by omega) (by omega) hlt
        have hsz := app_size o s (i + 1) hlt
        have hsb : (32 : Int) < ((o ++ s.extract (i + 1) (i + 1 + 1)).size : Int) := by omega
        clear c3 c4 k1 k2 hsz
        go_wp2
        go_returns
        exact ⟨ret_val (by rw [hf.out]; rfl), rfl⟩
      · obtain ⟨k1, k2⟩ := c4 rfl
        obtain ⟨f1, f2⟩ := ne_facts (x := (s[i + 1].toNat : Int)) (k := 10) (by omega)
        obtain ⟨f3, f4⟩ := ne_facts (x := (s[i + 1].toNat : Int)) (k := 34) (by omega)
        obtain ⟨f5, f6⟩ := ne_facts (x := (s[i + 1].toNat : Int)) (k := 92) (by omega)
        have f7 : (s[i + 1].toNat : Int) ≤ 126 := by omega
        have f8 : (32 : Int) ≤ (s[i + 1].toNat : Int) := by omega
        have hsl := slice_one s (i + 1) ((i : Int) + 1) ((i : Int) + 1 + 1) (by omega) (by omega) hlt
        have hsz := app_size o s (i + 1) hlt
        have hap := app_one o s (i + 1) hlt
        have hsb : ((o ++ s.extract (i + 1) (i + 1 + 1)).size : Int) ≤ 32 := by omega
        rw [← hap] at hf
        clear c3 c4 k1 k2 hap
        go_wp2
        go_round
        case rel => exact ⟨i + 1, o ++ s.extract (i + 1) (i + 1 + 1), by omega, rfl, by go_num, hf, by omega⟩
        case measure => simp [RowKit.intOf]; omega
    · have hst := ha.out
      rw [drop_end s (i + 1) hlt] at hst
      have hf : Hid (T = ([], 0, 3)) := Lib.hid hst
      have hge : (s.size : Int) ≤ (i : Int) + 1 := by omega
      clear hst ha
      go_wp2
      go_returns
      exact ⟨ret_val (by rw [hf.out]; rfl), rfl⟩
end Go.Proofs.YtddpodndchpjfaaDoor.Lx
