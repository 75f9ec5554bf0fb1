/- What the document's Tokenize returns: the walk. -/
import Derived.Test.YtddpodndchpjfaaDoorLexRefC
import Derived.Test.YtddpodndchpjfaaDoorLexTokW
import Derived.Test.YtddpodndchpjfaaDoorLexLaw
namespace Go.Proofs.YtddpodndchpjfaaDoor.Lx
open Go.RowKit Go.Sort Go.Lib Go.Shelf Fx

/-- What is to come, inside a comment or not. -/
def cmt (c : Bool) (f : Nat) (ln : Int) (L : List Tok) (r : List UInt8) : List Tok × Int × Int :=
  if c then tokz f (if (skip r).2 then ln + 1 else ln) L (skip r).1 else tokz f ln L r
theorem cmt_nil (c : Bool) (f : Nat) (ln : Int) (L : List Tok) : cmt c f ln L [] = (L, 0, 0) := by
  unfold cmt; cases c
  · exact tokz_nil f ln L
  · exact tokz_nil f _ L
theorem cmt_ways (c : Bool) (f : Nat) (ln : Int) (L : List Tok) (b : UInt8) (r : List UInt8) (R : List Tok × Int × Int) (h : R = cmt c (f + 1) ln L (b :: r)) (hf : r.length ≤ f) :
    (b.toNat = 10 ∧ ∃ g, r.length ≤ g ∧ Hid (R = cmt false g (ln + 1) L r)) ∨
    (b.toNat ≠ 10 ∧ c = true ∧ Hid (R = cmt true (f + 1) ln L r)) ∨
    (c = false ∧ b.toNat = 32 ∧ Hid (R = cmt false f ln L r)) ∨
    (c = false ∧ b.toNat = 9 ∧ Hid (R = cmt false f ln L r)) ∨
    (c = false ∧ b.toNat = 35 ∧ Hid (R = cmt true f ln L r)) ∨
    (c = false ∧ b.toNat ≠ 10 ∧ b.toNat ≠ 32 ∧ b.toNat ≠ 9 ∧ b.toNat ≠ 35 ∧ (next (b :: r)).2.2 = 0 ∧ Hid (R = cmt false f ln (L ++ [{ (next (b :: r)).1 with line := ln }]) ((b :: r).drop (next (b :: r)).2.1))) ∨
    (c = false ∧ b.toNat ≠ 10 ∧ b.toNat ≠ 32 ∧ b.toNat ≠ 9 ∧ b.toNat ≠ 35 ∧ (next (b :: r)).2.2 ≠ 0 ∧ Hid (R = ([], ln, (next (b :: r)).2.2))) := by
  cases c
  · have h' : R = tokz (f + 1) ln L (b :: r) := h
    rcases tokz_ways f ln L b r R h' with ⟨c1, hf'⟩ | ⟨c1, hf'⟩ | ⟨c1, hf'⟩ | ⟨c1, hf'⟩ | ⟨c1, c2, c3, c4, h5, hf'⟩ | ⟨c1, c2, c3, c4, h5, hf'⟩
    · exact .inl ⟨c1, f, hf, hf'⟩
    · exact .inr (.inr (.inl ⟨rfl, c1, hf'⟩))
    · exact .inr (.inr (.inr (.inl ⟨rfl, c1, hf'⟩)))
    · refine .inr (.inr (.inr (.inr (.inl ⟨rfl, c1, Lib.hid ?_⟩))))
      have hb : b ≠ 10 := fun e => by rw [e] at c1; exact absurd c1 (by decide)
      rw [hf'.out, skip_cons r hb]; rfl
    · exact .inr (.inr (.inr (.inr (.inr (.inl ⟨rfl, c1, c2, c3, c4, h5, hf'⟩)))))
    · exact .inr (.inr (.inr (.inr (.inr (.inr ⟨rfl, c1, c2, c3, c4, h5, hf'⟩)))))
  · by_cases hb : b = 10
    · subst hb
      exact .inl ⟨rfl, f + 1, by omega, Lib.hid h⟩
    · refine .inr (.inl ⟨fun e => hb (UInt8.toNat_inj.1 e), rfl, Lib.hid ?_⟩)
      rw [h]; unfold cmt; rw [skip_cons r hb, if_pos rfl, if_pos rfl]

set_option maxHeartbeats 8000000 in
set_option maxRecDepth 1000000 in
theorem tokenizeR_any (s : ByteArray) (w : World) (hs0 : s.size ≤ 9223372036854775807) :
    Calls Tryd.prog 13 #[.string s] w fun e w' => TokRes w.heap.size (tokenize s.data.toList) e w' ∧ Ext w w' := by
  by_cases hbig : 16384 < s.size
  · have hr : tokenize s.data.toList = ([], 0, 2) := by unfold tokenize; rw [if_pos (by rw [← size_len]; exact hbig)]
    rw [hr]
    go_enter Tryd.func13, Tryd.ntmps13
    go_wp2
    go_returns
    exact ⟨⟨_, rfl, World.ownsRow_nil _ _ _ _⟩, Ext.refl _⟩
  · have hr : tokenize s.data.toList = cmt false s.size 1 [] (s.data.toList.drop 0) := by unfold tokenize cmt; rw [if_neg (by rw [← size_len]; exact hbig), ← size_len]; rfl
    obtain ⟨R, hR⟩ : ∃ R, R = tokenize s.data.toList := ⟨_, rfl⟩
    rw [← hR] at hr ⊢
    have HR := Lib.hid hr
    clear hr hR
    obtain ⟨i0, hi, hz0, hz1, hz2⟩ := info_parts info_tok
    go_enter Tryd.func13, Tryd.ntmps13
    go_wp2_with fail
    go_loopw [5, 6, 7, 8] (fun out line cm at' wr => ∃ (k f ln : Nat) (c : Bool) (L : List Tok), line = .int .i64 ln ∧ cm = .bool c ∧ at' = .int .i64 k ∧ k ≤ s.size ∧ wr.ownsRow w.heap.size 32 4 out L.length (toksC L) ∧ Ext w wr ∧ Hid (R = cmt c f ln L (s.data.toList.drop k)) ∧ s.size - k ≤ f ∧ L.length + (s.size - k) ≤ 16384 ∧ ln + (s.size - k) ≤ 16385)
      (fun _ _ _ at' _ => s.size - (RowKit.intOf at').toNat)
    case atStart => exact ⟨0, s.size, 1, false, [], rfl, rfl, rfl, by omega, World.ownsRow_nil _ _ _ _, Ext.refl _, HR, by omega, by simp; omega, by omega⟩
    case round =>
      obtain ⟨k, f, ln, c, L, rfl, rfl, rfl, hk, hown, hx, ha, hf, hl, hln⟩ := hrel
      clear HR
      have hxs := hx.size
      by_cases hp : k < s.size
      · obtain ⟨f, rfl⟩ : ∃ f', f = f' + 1 := ⟨f - 1, by omega⟩
        have hst := ha.out
        have hsd := drop_at s k hp
        rw [hsd] at hst
        have hrl : (s.data.toList.drop (k + 1)).length = s.size - (k + 1) := by rw [List.length_drop, ← size_len]
        have hw := cmt_ways c f ln L s[k] _ R hst (by omega)
        rw [hrl] at hw
        clear hst ha hrl
        rcases hw with ⟨c1, g, hg, hf'⟩ | ⟨c1, rfl, hf'⟩ | ⟨rfl, c1, hf'⟩ | ⟨rfl, c1, hf'⟩ | ⟨rfl, c1, hf'⟩ | ⟨rfl, c1, c2, c3, c4, h5, hf'⟩ | ⟨rfl, c1, c2, c3, c4, h5, hf'⟩
        · obtain ⟨f1, _⟩ := eq_facts (x := (s[k].toNat : Int)) (k := 10) (by omega)
          clear hsd
          go_wp2
          go_roundw
          case rel => exact ⟨k + 1, g, ln + 1, false, L, by go_num, rfl, by go_num, by omega, hown, hx, hf', by omega, by omega, by omega⟩
          case measure => simp [RowKit.intOf]; omega
        · obtain ⟨f1, _⟩ := ne_facts (x := (s[k].toNat : Int)) (k := 10) (by omega)
          clear hsd
          go_wp2
          go_roundw
          case rel => exact ⟨k + 1, f + 1, ln, true, L, rfl, rfl, by go_num, by omega, hown, hx, hf', by omega, by omega, by omega⟩
          case measure => simp [RowKit.intOf]; omega
        · obtain ⟨f1, _⟩ := ne_facts (x := (s[k].toNat : Int)) (k := 10) (by omega)
          obtain ⟨f2, _⟩ := eq_facts (x := (s[k].toNat : Int)) (k := 32) (by omega)
          obtain ⟨f4, _⟩ := ne_facts (x := (s[k].toNat : Int)) (k := 35) (by omega)
          clear hsd
          go_wp2
          go_roundw
          case rel => exact ⟨k + 1, f, ln, false, L, rfl, rfl, by go_num, by omega, hown, hx, hf', by omega, by omega, by omega⟩
          case measure => simp [RowKit.intOf]; omega
        · obtain ⟨f1, _⟩ := ne_facts (x := (s[k].toNat : Int)) (k := 10) (by omega)
          obtain ⟨f2, _⟩ := ne_facts (x := (s[k].toNat : Int)) (k := 32) (by omega)
          obtain ⟨f3, _⟩ := eq_facts (x := (s[k].toNat : Int)) (k := 9) (by omega)
          obtain ⟨f4, _⟩ := ne_facts (x := (s[k].toNat : Int)) (k := 35) (by omega)
          clear hsd
          go_wp2
          go_roundw
          case rel => exact ⟨k + 1, f, ln, false, L, rfl, rfl, by go_num, by omega, hown, hx, hf', by omega, by omega, by omega⟩
          case measure => simp [RowKit.intOf]; omega
        · obtain ⟨f1, _⟩ := ne_facts (x := (s[k].toNat : Int)) (k := 10) (by omega)
          obtain ⟨f2, _⟩ := ne_facts (x := (s[k].toNat : Int)) (k := 32) (by omega)
          obtain ⟨f3, _⟩ := ne_facts (x := (s[k].toNat : Int)) (k := 9) (by omega)
          obtain ⟨f4, _⟩ := eq_facts (x := (s[k].toNat : Int)) (k := 35) (by omega)
          clear hsd
          go_wp2
          go_roundw
          case rel => exact ⟨k + 1, f, ln, true, L, rfl, rfl, by go_num, by omega, hown, hx, hf', by omega, by omega, by omega⟩
          case measure => simp [RowKit.intOf]; omega
        all_goals
          rw [← hsd] at h5 hf'
          obtain ⟨f1, _⟩ := ne_facts (x := (s[k].toNat : Int)) (k := 10) (by omega)
          obtain ⟨f2, _⟩ := ne_facts (x := (s[k].toNat : Int)) (k := 32) (by omega)
          obtain ⟨f3, _⟩ := ne_facts (x := (s[k].toNat : Int)) (k := 9) (by omega)
          obtain ⟨f4, _⟩ := ne_facts (x := (s[k].toNat : Int)) (k := 35) (by omega)
          have hX : (s.extract k s.size).data.toList = s.data.toList.drop k := by rw [extract_from]
          have hXs : (s.extract k s.size).size = s.size - k := by simp
          have hon := oneR_next (s.data.toList.drop k) (by rw [List.length_drop, ← size_len]; omega)
          have hnx := one_any (s.extract k s.size) wr (by omega) (by omega)
          rw [hX] at hnx
          clear hsd
        · rw [hon.2 h5] at hnx
          have hnl := next_len (s.data.toList.drop k) (by rw [List.length_drop, ← size_len]; omega) h5
          rw [List.length_drop, ← size_len] at hnl
          rw [List.drop_drop] at hf'
          obtain ⟨T, n, c, hN⟩ : ∃ T n c, next (s.data.toList.drop k) = (T, n, c) := ⟨_, _, _, rfl⟩
          rw [hN] at hnl h5 hf' hnx
          obtain ⟨n1, n2⟩ : 1 ≤ n ∧ n ≤ s.size - k := hnl
          have h5 : c = 0 := h5
          subst h5
          have HNX := Lib.hid hnx
          have hf2 : Hid (R = cmt false f ln (L ++ [(⟨T.kind, T.text, T.n, ln⟩ : Tok)]) (s.data.toList.drop (k + n))) := hf'
          clear hnx hN hf' hon hX
          go_wp2_with fail
          refine HNX.out.mono ?_
          rintro e w1 ⟨rfl, x1⟩
          unfold nextV tokV
          have hx1 := hx.trans x1
          have hxs1 := hx1.size
          have hown1 := own_ext hown x1
          go_wp2_with (at_builtin; refine wpList_append_own _ rfl _ _ 24 rfl w.heap.size 32 i0 _ 4 40 Tryd.underlying24 hi hz0 hz1 hz2 rfl (by decide) _ _ _ rfl ((hown1.alloc _).alloc _) ⟨w1.heap.size + 1, 0, none⟩ 1 1 (tokC ⟨T.kind, T.text, T.n, ln⟩) rfl rfl ?c1 ?c2 ?c3 ?c4 ?c5 ?_)
          case c1 => exact fun j u hj => cell_new2 w1 _ _ (tokC ⟨T.kind, T.text, T.n, ln⟩) 32 rfl j u hj
          case c2 => intro u hu; simp [tokC] at hu; rcases hu with rfl | rfl | rfl | rfl <;> rfl
          case c3 => unfold maxLen; omega
          case c4 => omega
          case c5 => simp; omega
          intro v' w2 hown' hgrow _
          have hown2 : w2.ownsRow w.heap.size 32 4 v' (L ++ [(⟨T.kind, T.text, T.n, ln⟩ : Tok)]).length (toksC (L ++ [(⟨T.kind, T.text, T.n, ln⟩ : Tok)])) := by
            rw [toksC_snoc]; simpa using hown'
          have hx2 : Ext w w2 := Below.grown ((hx1.alloc _).alloc _) hgrow (by simp; omega) (fun k hk => (hown1.lt k hk).1)
          clear hown' hgrow hown hown1
          go_wp2
          go_roundw
          case rel => exact ⟨k + n, f, ln, false, L ++ [(⟨T.kind, T.text, T.n, ln⟩ : Tok)], rfl, rfl, by go_num, by omega, hown2, hx2, hf2, by omega, by simp; omega, by omega⟩
          case measure => simp [RowKit.intOf]; omega
        · obtain ⟨T, n, c, hN⟩ : ∃ T n c, oneR (s.data.toList.drop k) = (T, n, c) := ⟨_, _, _, rfl⟩
          have he := hon.1
          rw [hN] at hnx he
          replace he : c = (next (s.data.toList.drop k)).2.2 := he
          rw [← he] at h5 hf'
          have HNX := Lib.hid hnx
          clear hnx hN hon he hX
          go_wp2_with fail
          refine HNX.out.mono ?_
          rintro e w1 ⟨rfl, x1⟩
          unfold nextV tokV
          have hx1 := hx.trans x1
          go_wp2
          go_returns
          rw [hf'.out]
          exact ⟨⟨_, rfl, World.ownsRow_nil _ _ _ _⟩, hx1.alloc _⟩
      · have hnil : s.data.toList.drop k = [] := drop_end s k hp
        have hR : R = (L, 0, 0) := by rw [ha.out, hnil, cmt_nil]
        have HR := Lib.hid hR
        have hge : (s.size : Int) ≤ (k : Int) := by omega
        clear ha hR hnil
        go_wp2
        go_returns
        rw [HR.out]
        exact ⟨⟨_, rfl, hown⟩, hx⟩
end Go.Proofs.YtddpodndchpjfaaDoor.Lx
