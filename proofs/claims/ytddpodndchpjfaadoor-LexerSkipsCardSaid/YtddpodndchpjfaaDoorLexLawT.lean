/- The walk of LexerTokenizes. -/
import Derived.Test.YtddpodndchpjfaaDoorLexRefD
import Derived.Test.YtddpodndchpjfaaDoorLexSame
import Derived.Test.YtddpodndchpjfaaDoorLexAwake
namespace Go.Proofs.YtddpodndchpjfaaDoor.Lx
open Go.RowKit Go.Sort Go.Lib Go.Shelf Fx

theorem tokz_len (hn : ∀ s : List UInt8, 0 < s.length → (next s).2.2 = 0 → 1 ≤ (next s).2.1) : ∀ (f : Nat) (s : List UInt8) (ln : Int) (L : List Tok), s.length ≤ f → (tokz f ln L s).1.length ≤ L.length + s.length
  | 0, s, ln, L, _ => by show L.length ≤ _; omega
  | f + 1, [], ln, L, _ => by show L.length ≤ _; omega
  | f + 1, c :: r, ln, L, h => by
    simp only [List.length_cons] at h ⊢
    rw [tokz_cons]
    by_cases h1 : c = 10
    · rw [if_pos h1]; have := tokz_len hn f r (ln + 1) L (by omega); omega
    rw [if_neg h1]
    by_cases h2 : (decide (c = 32) || decide (c = 9)) = true
    · rw [if_pos h2]; have := tokz_len hn f r ln L (by omega); omega
    rw [if_neg h2]
    by_cases h3 : c = 35
    · rw [if_pos h3, skip_cons r h1]
      have hs := skip_le r
      have := tokz_len hn f (skip r).1 (if (skip r).2 then ln + 1 else ln) L (by omega)
      omega
    rw [if_neg h3]
    by_cases h4 : (next (c :: r)).2.2 = 0
    · rw [if_pos h4]
      have hl := hn (c :: r) (by simp) h4
      have hd : ((c :: r).drop (next (c :: r)).2.1).length ≤ r.length := by rw [List.length_drop, List.length_cons]; omega
      have := tokz_len hn f ((c :: r).drop (next (c :: r)).2.1) ln (L ++ [⟨(next (c :: r)).1.kind, (next (c :: r)).1.text, (next (c :: r)).1.n, ln⟩]) (by omega)
      rw [List.length_append, List.length_singleton] at this
      rw [List.length_drop, List.length_cons] at this
      omega
    · rw [if_neg h4]; exact Nat.zero_le _
theorem tokenize_len (s : List UInt8) : (tokenize s).1.length ≤ 16384 := by
  unfold tokenize
  by_cases h : 16384 < s.length
  · rw [if_pos h]; exact Nat.zero_le _
  · rw [if_neg h]
    have := tokz_len (fun s h0 h1 => (next_len s h0 h1).1) s.length s 1 [] (Nat.le_refl _)
    simp only [List.length_nil] at this
    omega

set_option maxHeartbeats 4000000 in
theorem tokenizes_walk (s : ByteArray) (w : World) (hs : s.size ≤ maxLen) (he : Env w) :
    Calls Tryd.prog 4 #[.string s] w fun e w' => e = .returned (.bool true) ∧ Ext w w' := by
  unfold maxLen at hs
  have HE := Lib.hid he
  clear he
  by_cases hbig : 3000 < s.size
  · go_enter Tryd.func4, Tryd.ntmps4
    go_wp2_with (go_at_call 11; refine (awake_any _ HE.out).mono ?_; rintro e w2 ⟨rfl, x2⟩)
    go_ret
    exact ⟨rfl, x2⟩
  · have hlen := tokenize_len s.data.toList
    have HT : Hid (∀ w, Env w → Calls Tryd.prog 12 #[.string s] w fun e w' => TokRes w.heap.size (tokenize s.data.toList) e w' ∧ Ext w w') := Lib.hid (fun w h => tokenize_any s w (by omega) h)
    have HTR : Hid (∀ w, Calls Tryd.prog 13 #[.string s] w fun e w' => TokRes w.heap.size (tokenize s.data.toList) e w' ∧ Ext w w') := Lib.hid (fun w => tokenizeR_any s w (by omega))
    obtain ⟨L, n, c, hR⟩ : ∃ L n c, tokenize s.data.toList = (L, n, c) := ⟨_, _, _, rfl⟩
    rw [hR] at HT HTR hlen
    have HL := Lib.hid hlen
    clear hR hlen
    go_enter Tryd.func4, Tryd.ntmps4
    go_wp2_with fail
    refine (HT.out _ HE.out).mono ?_
    rintro e w1 ⟨⟨va, rfl, hoa⟩, x1⟩
    go_wp2_with fail
    refine (HTR.out _).mono ?_
    rintro e w2 ⟨⟨vb, rfl, hob⟩, x2⟩
    have hoa2 := own_ext hoa x2
    have HA := Lib.hid hoa2; have HB := Lib.hid hob
    clear hoa hob hoa2
    go_wp2_with fail
    refine (same_any L L va vb _ _ w2 HA.out HB.out HL.out HL.out).mono ?_
    rintro e w3 ⟨rfl, x3⟩
    rw [decide_eq_true (rfl : L = L)]
    have x123 := (x1.trans x2).trans x3
    go_wp2_with (go_at_call 11; refine (awake_any _ (HE.out.ext x123)).mono ?_; rintro e w4 ⟨rfl, x4⟩)
    go_ret
    exact ⟨rfl, x123.trans x4⟩
end Go.Proofs.YtddpodndchpjfaaDoor.Lx
