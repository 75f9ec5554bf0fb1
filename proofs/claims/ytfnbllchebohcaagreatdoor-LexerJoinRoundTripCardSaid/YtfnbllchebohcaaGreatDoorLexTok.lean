/- What the lexer's next and Tokenize return, for every text of at most MaxSource bytes. -/
import Derived.Test.YtfnbllchebohcaaGreatDoorLexNum
import Derived.Test.YtfnbllchebohcaaGreatDoorLexStr
namespace Go.Proofs.YtfnbllchebohcaaGreatDoor.Lx
open Go.RowKit Go.Sort Go.Lib Go.Shelf Fx

theorem next_any (s : ByteArray) (w : World) (h0 : 0 < s.size) (hs : s.size ≤ 16384) (he : Env w) :
    Calls Tryz.prog 20 #[.string s] w fun e w' => e = .returned (nextV (next s.data.toList)) ∧ Ext w w' := by
  rcases Nat.eq_zero_or_pos (wordN s.data.toList) with hn | hn
  · cases hd : isD s[0]
    · cases hq : ((s[0].toNat : Int) == 34)
      · cases h45 : ((s[0].toNat : Int) == 45)
        · exact next_mark s w h0 hs hn hd hq (.inl h45)
        · by_cases h1 : 1 < s.size
          · cases hd1 : isD s[1]
            · exact next_mark s w h0 hs hn hd hq (.inr (.inr ⟨h45, h1, hd1⟩))
            · exact next_num s w h0 hs he hn (.inr ⟨hd, h45, h1, hd1⟩)
          · exact next_mark s w h0 hs hn hd hq (.inr (.inl ⟨h45, by omega⟩))
      · exact next_str s w h0 hs hn hq
    · exact next_num s w h0 hs he hn (.inl hd)
  · exact next_word s w h0 hs hn

theorem markOf_len : ∀ (ms : List (List UInt8)) (s m : List UInt8), (∀ x ∈ ms, 1 ≤ x.length) → markOf s ms = some m → 1 ≤ m.length ∧ m.length ≤ s.length
  | [], s, m, _, h => by simp [markOf] at h
  | x :: r, s, m, hx, h => by
    unfold markOf at h
    by_cases hp : x.isPrefixOf s = true
    · rw [if_pos hp] at h
      injection h with h
      subst h
      exact ⟨hx x (by simp), (List.isPrefixOf_iff_prefix.1 hp).length_le⟩
    · rw [if_neg hp] at h
      exact markOf_len r s m (fun y hy => hx y (by simp [hy])) h
/-- A token takes at least a byte, and no more than there are. -/
theorem next_len (s : List UInt8) (h0 : 0 < s.length) (he : (next s).2.2 = 0) : 1 ≤ (next s).2.1 ∧ (next s).2.1 ≤ s.length := by
  have hw := scan_le (okW s) s.length 0
  have hn := scan_le (okN s) (s.length - 1) 1
  have hn1 := scan_ge (okN s) (s.length - 1) 1
  have hw' : wordN s ≤ s.length := by unfold wordN; omega
  have hn' : numN s ≤ s.length ∧ 1 ≤ numN s := by unfold numN; omega
  have hc := cont_le (s.drop 1) false [] 0
  have hd : (s.drop 1).length = s.length - 1 := by simp
  have hm := markOf_len marks s
  unfold next at he ⊢
  split at he
  · rename_i h1
    rw [if_pos h1]
    refine ⟨?_, ?_⟩ <;> repeat' split
    all_goals first
      | (simp_all; done)
      | (simp only; omega)
      | (simp_all; omega)
  · rename_i h1
    rw [if_neg h1]
    split at he
    · rename_i h2
      rw [if_pos h2]
      split
      · exact ⟨hn'.2, hn'.1⟩
      · simp_all
    · rename_i h2
      rw [if_neg h2]
      split at he
      · rename_i h3
        rw [if_pos h3]
        split
        · simp only; omega
        · simp_all
      · rename_i h3
        rw [if_neg h3]
        cases hk : markOf s marks with
        | none => rw [hk] at he; simp at he
        | some m => exact hm m (by decide) hk

theorem info_tok : (Tryz.prog.info? 31).map (fun i => (i.zero, i.size, i.bytes)) = some (some (.agg #[.int .i64 0, .string ⟨#[]⟩, .int .i64 0, .int .i64 0]), 4, 40) := by kernel_rfl
def tokC (t : Tok) : List Value := [.int .i64 t.kind, .string ⟨t.text.toArray⟩, .int .i64 t.n, .int .i64 t.line]
def toksC (L : List Tok) : List Value := L.flatMap tokC
theorem toksC_snoc (L : List Tok) (t : Tok) : toksC (L ++ [t]) = toksC L ++ tokC t := by unfold toksC; simp
theorem own_ext {w w' : World} {B n : Nat} {e : TypeId} {v : Value} {size : Nat} {xs : List Value} (h : w.ownsRow B e size v n xs) (x : Ext w w') : w'.ownsRow B e size v n xs := by
  refine ⟨h.1, ?_⟩
  rcases h.2 with h1 | ⟨g, cap, cur, hv, hb, hg, r⟩
  · exact .inl h1
  · refine .inr ⟨g, cap, cur, hv, hb, ?_, r⟩
    rw [x.block g (Array.getElem?_eq_some_iff.1 hg).1]; exact hg

theorem cut_nl : ∀ s : List UInt8, (cut s [10]).2.1 = (skip s).1 ∧ (cut s [10]).2.2 = (skip s).2
  | [] => by simp [cut, index, skip]
  | b :: r => by
    have ih := cut_nl r
    have hg := index_ge r [10]
    unfold cut at ih ⊢
    unfold skip index
    by_cases hb : b = 10
    · subst hb; simp [List.isPrefixOf]
    · have hb2 : ((10 : UInt8) == b) = false := by simpa using fun h => hb h.symm
      simp only [List.isPrefixOf, hb2, Bool.false_and, Bool.false_eq_true, if_false, hb]
      rw [← ih.1, ← ih.2]
      by_cases h1 : index r [10] = -1
      · simp [h1]
      · have h2 : (index r [10] == -1) = false := by simpa using h1
        have h3 : 0 ≤ index r [10] := by omega
        simp only [h2, Bool.false_eq_true, if_false, h3, if_true]
        rw [if_pos (by omega), show (index r [10] + 1).toNat = (index r [10]).toNat + 1 by omega]
        simp
theorem skip_len : ∀ s : List UInt8, (skip s).1.length + (if (skip s).2 then 1 else 0) ≤ s.length
  | [] => by simp [skip]
  | b :: r => by
    have ih := skip_len r
    unfold skip
    by_cases hb : b = 10
    · rw [if_pos hb]; simp
    · rw [if_neg hb]; simp only [List.length_cons]; omega
theorem cutnl_n (s a : ByteArray) (p : Bool) (w : World) (hs : s.size < 4294967281) (he : Env w) (ha : (⟨(skip s.data.toList).1.toArray⟩ : ByteArray) = a) (hp : (skip s.data.toList).2 = p) :
    Calls Tryz.prog 19 #[.string s, .string ⟨#[10]⟩] w fun e w' => (∃ b, e = .returned (.tuple #[.string b, .string a, .bool p])) ∧ Ext w w' := by
  subst ha; subst hp
  obtain ⟨m, hm⟩ := he.2
  have h := Tryz.strings_Cut s ⟨#[10]⟩ m w hs hm
  rw [show (⟨#[10]⟩ : ByteArray).data.toList = [10] from rfl, (cut_nl s.data.toList).1, (cut_nl s.data.toList).2] at h
  refine h.mono ?_
  rintro e w' ⟨rfl, n, rfl⟩
  exact ⟨⟨_, rfl⟩, (Ext.refl _).drewN n⟩

/-- One round. -/
theorem tokz_ways (f : Nat) (ln : Int) (L : List Tok) (c : UInt8) (r : List UInt8) (R : List Tok × Int × Int) (h : R = tokz (f + 1) ln L (c :: r)) :
    (c.toNat = 10 ∧ Hid (R = tokz f (ln + 1) L r)) ∨
    (c.toNat = 32 ∧ Hid (R = tokz f ln L r)) ∨
    (c.toNat = 9 ∧ Hid (R = tokz f ln L r)) ∨
    (c.toNat = 35 ∧ Hid (R = tokz f (if (skip (c :: r)).2 then ln + 1 else ln) L (skip (c :: r)).1)) ∨
    (c.toNat ≠ 10 ∧ c.toNat ≠ 32 ∧ c.toNat ≠ 9 ∧ c.toNat ≠ 35 ∧ (next (c :: r)).2.2 = 0 ∧ Hid (R = tokz f ln (L ++ [{ (next (c :: r)).1 with line := ln }]) ((c :: r).drop (next (c :: r)).2.1))) ∨
    (c.toNat ≠ 10 ∧ c.toNat ≠ 32 ∧ c.toNat ≠ 9 ∧ c.toNat ≠ 35 ∧ (next (c :: r)).2.2 ≠ 0 ∧ Hid (R = ([], ln, (next (c :: r)).2.2))) := by
  have q : ∀ k : UInt8, c = k ↔ c.toNat = k.toNat := fun k => ⟨fun e => by rw [e], fun e => UInt8.toNat_inj.1 e⟩
  have q10 := q 10; have q32 := q 32; have q9 := q 9; have q35 := q 35
  rw [show (10 : UInt8).toNat = 10 from rfl] at q10
  rw [show (32 : UInt8).toNat = 32 from rfl] at q32
  rw [show (9 : UInt8).toNat = 9 from rfl] at q9
  rw [show (35 : UInt8).toNat = 35 from rfl] at q35
  unfold tokz at h
  dsimp only at h
  by_cases h1 : c = 10
  · rw [if_pos h1] at h; exact .inl ⟨q10.1 h1, Lib.hid h⟩
  rw [if_neg h1] at h
  by_cases h2 : c = 32
  · rw [if_pos (by simp [h2])] at h; exact .inr (.inl ⟨q32.1 h2, Lib.hid h⟩)
  by_cases h3 : c = 9
  · rw [if_pos (by simp [h3])] at h; exact .inr (.inr (.inl ⟨q9.1 h3, Lib.hid h⟩))
  rw [if_neg (by simp [h2, h3])] at h
  by_cases h4 : c = 35
  · rw [if_pos h4] at h; exact .inr (.inr (.inr (.inl ⟨q35.1 h4, Lib.hid h⟩)))
  rw [if_neg h4] at h
  have k1 : c.toNat ≠ 10 := fun e => h1 (q10.2 e)
  have k2 : c.toNat ≠ 32 := fun e => h2 (q32.2 e)
  have k3 : c.toNat ≠ 9 := fun e => h3 (q9.2 e)
  have k4 : c.toNat ≠ 35 := fun e => h4 (q35.2 e)
  by_cases h5 : (next (c :: r)).2.2 = 0
  · rw [if_pos h5] at h; exact .inr (.inr (.inr (.inr (.inl ⟨k1, k2, k3, k4, h5, Lib.hid h⟩))))
  · rw [if_neg h5] at h; exact .inr (.inr (.inr (.inr (.inr ⟨k1, k2, k3, k4, h5, Lib.hid h⟩))))
end Go.Proofs.YtfnbllchebohcaaGreatDoor.Lx
