/- The walk of LexerQuotes: for every text the law returns true. -/
import Derived.Test.YtfnbllchebohcaaGreatDoorQuoQuote
import Derived.Test.YtfnbllchebohcaaGreatDoorLexSame
import Derived.Test.YtfnbllchebohcaaGreatDoorLexAwake
namespace Go.Proofs.YtfnbllchebohcaaGreatDoor.Qo
open Go.RowKit Go.Lib Fx Lx

theorem quote_err (l : List UInt8) : (∃ c, quote l = ([], c) ∧ c ≠ 0) ∨ (quote l = (34 :: (escL l ++ [34]), 0) ∧ plainB l = true ∧ l.length ≤ 32) := by
  unfold quote
  by_cases h1 : 32 < l.length
  · exact .inl ⟨2, by rw [if_pos h1], by decide⟩
  · cases hp : plainB l
    · exact .inl ⟨1, by rw [if_neg h1]; rfl, by decide⟩
    · exact .inr ⟨by rw [if_neg h1]; rfl, rfl, by omega⟩
theorem mk_data (s : ByteArray) : (⟨s.data.toList.toArray⟩ : ByteArray) = s := by cases s; simp
theorem ownsTok (w : World) (B : Nat) (hB : B ≤ w.heap.size) (t : Tok) : (w.alloc (.cells (tokC t).toArray 31)).ownsRow B 31 4 (.slice (some ⟨w.heap.size, 0, none⟩) 1 1) [t].length (toksC [t]) := by
  refine ⟨by simp [toksC, tokC], .inr ⟨w.heap.size, 1, (tokC t).toArray, rfl, hB, heap_alloc_new w _, ?_⟩⟩
  simp [maxLen, tokC, toksC]

set_option maxHeartbeats 4000000 in
set_option maxRecDepth 1000000 in
theorem quotes_walk (s : ByteArray) (w : World) (hs : s.size ≤ maxLen) (he : Env w) :
    Calls Tryz.prog 3 #[.string s] w fun e w' => e = .returned (.bool true) ∧ Ext w w' := by
  unfold maxLen at hs
  have HE := Lib.hid he
  clear he
  have hq := quote_any s w hs
  have hqr := fun w => quoteR_any s w hs
  rcases quote_err s.data.toList with ⟨c, hc, hc0⟩ | ⟨hc, hp, hl⟩
  · have hv : quoteV s.data.toList = .tuple #[.string ⟨#[]⟩, .int .i64 c] := by unfold quoteV; rw [hc]
    rw [hv] at hq
    simp only [hv] at hqr
    have HQ := Lib.hid hq; have HR := Lib.hid hqr
    have hcn : (c != 0) = true := by simpa using hc0
    clear hq hqr hv hc hc0
    go_enter Tryz.func3, Tryz.ntmps3
    go_wp2_with fail
    refine HQ.out.mono ?_
    rintro e w1 ⟨rfl, x1⟩
    go_wp2_with fail
    refine (HR.out _).mono ?_
    rintro e w2 ⟨rfl, rfl⟩
    go_wp2_with (go_at_call 8; refine (awake_any _ (HE.out.ext x1)).mono ?_; rintro e w2 ⟨rfl, x2⟩)
    go_ret
    exact ⟨rfl, x1.trans x2⟩
  · have ht := tokenize_quote s.data.toList hp hl
    have hv : quoteV s.data.toList = .tuple #[.string ⟨(34 :: (escL s.data.toList ++ [34])).toArray⟩, .int .i64 0] := by unfold quoteV; rw [hc]
    rw [hv] at hq
    simp only [hv] at hqr
    obtain ⟨Q, hQ⟩ : ∃ Q : ByteArray, Q = ⟨(34 :: (escL s.data.toList ++ [34])).toArray⟩ := ⟨_, rfl⟩
    have hQl : Q.data.toList = 34 :: (escL s.data.toList ++ [34]) := by rw [hQ]
    have hQs : Q.size ≤ 66 := by
      have h1 := escL_le s.data.toList
      rw [size_len, hQl]; simp; omega
    rw [← hQ] at hq
    simp only [← hQ] at hqr
    rw [← hQl] at ht
    have HQ := Lib.hid hq; have HR := Lib.hid hqr; have HT := Lib.hid ht
    have HL := Lib.hid hl
    clear hq hqr hv hc hp hl hQ hQl ht
    go_enter Tryz.func3, Tryz.ntmps3
    go_wp2_with fail
    refine HQ.out.mono ?_
    rintro e w1 ⟨rfl, x1⟩
    go_wp2_with fail
    refine (HR.out _).mono ?_
    rintro e w2 ⟨rfl, rfl⟩
    have htk := tokenize_any Q w1 (by omega) (HE.out.ext x1)
    rw [HT.out] at htk
    have HTK := Lib.hid htk
    clear htk
    go_wp2_with fail
    refine HTK.out.mono ?_
    rintro e w2 ⟨⟨v, rfl, hown⟩, x2⟩
    have HO := Lib.hid hown
    clear hown
    go_wp2_with fail
    have hb := ownsTok w2 w2.heap.size (Nat.le_refl _) ⟨4, s.data.toList, 0, 1⟩
    rw [show tokC ⟨4, s.data.toList, 0, 1⟩ = [.int .i64 4, .string s, .int .i64 0, .int .i64 1] by unfold tokC; rw [mk_data]] at hb
    refine (same_any _ _ _ _ _ _ _ (HO.out.alloc _) hb (by simp) (by simp)).mono ?_
    rw [decide_eq_true rfl]
    rintro e w3 ⟨rfl, x3⟩
    have hx := (x1.trans (x2.alloc _)).trans x3
    clear hb
    go_wp2_with (go_at_call 8; refine (awake_any _ (HE.out.ext hx)).mono ?_; rintro e w4 ⟨rfl, x4⟩)
    go_ret
    exact ⟨rfl, hx.trans x4⟩
end Go.Proofs.YtfnbllchebohcaaGreatDoor.Qo
