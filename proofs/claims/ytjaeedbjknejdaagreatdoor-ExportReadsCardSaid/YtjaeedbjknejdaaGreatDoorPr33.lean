/- Packed texts: LexLawB, LexJoin, LexJoinB, TreTokz -/
import Derived.Test.YtjaeedbjknejdaaGreatDoorPr32
set_option linter.unusedVariables false
set_option linter.unusedSimpArgs false
set_option maxHeartbeats 16000000
set_option maxRecDepth 100000
namespace Go.Proofs.YtjaeedbjknejdaaGreatDoor.Lx
open Go.Lib Fx
theorem bt_app {s t : List UInt8} {n : Nat} (h : n < s.length) : bt (s ++ t) n = bt s n := by unfold bt; rw [List.getElem?_append_left h]
theorem bt_end (s : List UInt8) (b : UInt8) (t : List UInt8) : bt (s ++ b :: t) s.length = b := by unfold bt; simp
theorem scan_app {p q : Nat -> Bool} {l : Nat} (h : ∀ n, n < l -> q n = p n) (hl : q l = false) : ∀ (k n g : Nat), n + k = l -> k < g -> scan q g n = scan p k n
  | 0, n, g, hn, hg => by
    obtain ⟨g, rfl⟩ : ∃ g', g = g' + 1 := ⟨g - 1, by omega⟩
    have : n = l := by omega
    subst this
    show (if q n then _ else n) = n
    rw [hl]; rfl
  | k + 1, n, g, hn, hg => by
    obtain ⟨g, rfl⟩ : ∃ g', g = g' + 1 := ⟨g - 1, by omega⟩
    show (if q n then scan q g (n + 1) else n) = if p n then scan p k (n + 1) else n
    rw [h n (by omega), scan_app h hl k (n + 1) g (by omega) (by omega)]
theorem wordN_le (s : List UInt8) : wordN s <= s.length := by have := scan_le (okW s) s.length 0; unfold wordN; omega
theorem numN_le (s : List UInt8) (h : 0 < s.length) : numN s <= s.length := by have := scan_le (okN s) (s.length - 1) 1; unfold numN; omega
theorem contents_app (t : List UInt8) : ∀ (s : List UInt8) (esc : Bool) (acc : List UInt8) (i : Nat), (contents esc acc i s).2.2 = 0 -> contents esc acc i (s ++ t) = contents esc acc i s
  | [], _, _, _, h => by simp [contents] at h
  | c :: r, esc, acc, i, h => by
    have i1 := contents_app t r true acc (i + 1)
    have i2 := contents_app t r false (acc ++ [c]) (i + 1)
    rw [List.cons_append]
    unfold contents at h ⊢
    split
    · rfl
    · rename_i g1
      rw [if_neg g1] at h
      split
      · rfl
      rename_i g2
      rw [if_neg g2] at h
      split
      · rfl
      rename_i g3
      rw [if_neg g3] at h
      split
      · rename_i g4
        rw [if_pos g4] at h
        exact i1 h
      rename_i g4
      rw [if_neg g4] at h
      split
      · rfl
      rename_i g5
      rw [if_neg g5] at h
      exact i2 h
end Go.Proofs.YtjaeedbjknejdaaGreatDoor.Lx

namespace Go.Proofs.YtjaeedbjknejdaaGreatDoor.Lx
open Go.Lib Fx
theorem scan_all {p : Nat -> Bool} : ∀ (f n : Nat), (∀ k, n <= k -> k < n + f -> p k = true) -> scan p f n = n + f
  | 0, _, _ => rfl
  | f + 1, n, h => by
    show (if p n then scan p f (n + 1) else n) = n + (f + 1)
    rw [h n (Nat.le_refl _) (by omega), if_pos rfl, scan_all f (n + 1) (fun k h1 h2 => h k (by omega) (by omega))]
    omega
def isN (b : UInt8) : Bool := isD b || b == 46
theorem fmtU_bytes (u : Nat) : ∃ b r, fmtU u = b :: r /\ isD b = true /\ r.all isN = true := by
  obtain ⟨v1, v2, v3, v4⟩ := dd_props (u / 1000)
  obtain ⟨f1, f2, f3⟩ := frac3 (u % 1000) (by omega)
  have ht := (trim_props ((decDigits (1000 + u % 1000)).drop 1)).2.1 f2
  have tail : (if 0 < u % 1000 then 46 :: fracT (u % 1000) else []).all isN = true := by
    split
    · unfold fracT
      rw [List.all_cons, Bool.and_eq_true]
      refine ⟨rfl, ?_⟩
      rw [List.all_eq_true] at ht ⊢
      exact fun x hx => by unfold isN; rw [ht x hx]; rfl
    rfl
  cases hd : decDigits (u / 1000) with
  | nil => exact absurd hd v3
  | cons b r =>
    rw [hd, List.all_cons, Bool.and_eq_true] at v2
    refine ⟨b, r ++ (if 0 < u % 1000 then 46 :: fracT (u % 1000) else []), ?_, v2.1, ?_⟩
    · unfold fmtU; rw [hd]; rfl
    · rw [List.all_append, tail, Bool.and_true]
      have h2 := v2.2
      rw [List.all_eq_true] at h2 ⊢
      exact fun x hx => by unfold isN; rw [h2 x hx]; rfl
theorem bt_zero (b : UInt8) (r : List UInt8) : bt (b :: r) 0 = b := rfl
theorem bt_one (a b : UInt8) (r : List UInt8) : bt (a :: b :: r) 1 = b := rfl
theorem bt_all {r : List UInt8} (h : r.all isN = true) (b : UInt8) (k : Nat) (hk : k + 1 < (b :: r).length) : isN (bt (b :: r) (k + 1)) = true := by
  rw [List.all_eq_true] at h
  have hk' : k < r.length := by simpa using hk
  have e : bt (b :: r) (k + 1) = r[k] := by
    unfold bt
    rw [List.getElem?_cons_succ, List.getElem?_eq_getElem hk']; rfl
  rw [e]; exact h _ (List.getElem_mem hk')
theorem okN_of (s : List UInt8) (k : Nat) (h : isN (bt s k) = true) : okN s k = true := by
  unfold isN at h; unfold okN
  rw [Bool.or_assoc, h, Bool.or_true]
theorem isD_notL {b : UInt8} (h : isD b = true) : isL b = false := by
  unfold isD at h; unfold isL
  rw [decide_eq_true_eq] at h
  simp; omega
theorem wordN_zero (b : UInt8) (r : List UInt8) (h : isL b = false) : wordN (b :: r) = 0 := by
  unfold wordN
  rw [List.length_cons]
  show (if okW (b :: r) 0 then _ else 0) = 0
  rw [show okW (b :: r) 0 = false from by unfold okW; rw [bt_zero, h]; rfl]; rfl
theorem next_fmt (n : Int) (h : n.natAbs <= 268435456) : next (fmt n) = (⟨3, [], n, 0⟩, (fmt n).length, 0) := by
  have hp := parse_fmt n
  rw [if_pos h] at hp
  obtain ⟨b, r, hu, hb, hr⟩ := fmtU_bytes n.natAbs
  have key : ∀ s : List UInt8, s = fmt n -> wordN s = 0 -> (isD (bt s 0) || (bt s 0 == 45 && decide (1 < s.length) && isD (bt s 1))) = true -> numN s = s.length -> next s = (⟨3, [], n, 0⟩, s.length, 0) := by
    intro s hs h1 h2 h3
    unfold next
    rw [h1, if_neg (by omega), if_pos h2, h3, List.take_length, hs, hp, if_pos rfl]
  refine key (fmt n) rfl ?_ ?_ ?_
  all_goals unfold fmt
  all_goals split
  · exact wordN_zero 45 _ rfl
  · rw [hu]; exact wordN_zero b r (isD_notL hb)
  · rw [hu, bt_zero, bt_one, hb, decide_eq_true (by simp)]; rfl
  · rw [hu, bt_zero, hb]; rfl
  · rw [hu]
    unfold numN
    rw [scan_all _ _ (fun k h1 h2 => ?_)]
    · simp; omega
    obtain ⟨k, rfl⟩ : ∃ k', k = k' + 1 := ⟨k - 1, by omega⟩
    refine okN_of _ _ (bt_all ?_ 45 k ?_)
    · rw [List.all_cons, Bool.and_eq_true]; exact ⟨by unfold isN; rw [hb]; rfl, hr⟩
    simp only [List.length_cons] at h2 ⊢; omega
  rw [hu]
  unfold numN
  rw [scan_all _ _ (fun k h1 h2 => ?_)]
  · simp; omega
  obtain ⟨k, rfl⟩ : ∃ k', k = k' + 1 := ⟨k - 1, by omega⟩
  exact okN_of _ _ (bt_all hr b k (by simp only [List.length_cons] at h2 ⊢; omega))
theorem next_name (l : List UInt8) (h : nameB l = true) : next l = (⟨1, l, 0, 0⟩, l.length, 0) := by
  unfold nameB at h
  simp only [Bool.and_eq_true, Bool.not_eq_true', decide_eq_true_eq] at h
  obtain ⟨⟨⟨h1, h2⟩, h3⟩, h4⟩ := h
  have hl : 0 < l.length := by cases l with
    | nil => simp at h1
    | cons a r => simp
  unfold next
  rw [h3, if_pos hl, List.take_length, h4, if_neg (by simp), if_neg (by omega)]
theorem next_kw (l : List UInt8) (h : kw l = true) : next l = (⟨2, l, 0, 0⟩, l.length, 0) := by
  unfold kw at h
  simp only [Bool.or_eq_true, beq_iff_eq] at h
  rcases h with ((((rfl | rfl) | rfl) | rfl) | rfl) | rfl <;> decide
theorem next_marks (l : List UInt8) (h : l ∈ marks) : next l = (⟨5, l, 0, 0⟩, l.length, 0) := by
  simp only [marks, List.mem_cons, List.not_mem_nil, or_false] at h
  rcases h with rfl | rfl | rfl | rfl | rfl | rfl | rfl | rfl | rfl | rfl <;> decide
end Go.Proofs.YtjaeedbjknejdaaGreatDoor.Lx

namespace Go.Proofs.YtjaeedbjknejdaaGreatDoor.Lx
open Go.Lib Fx
def written (t : Tok) : List UInt8 × Bool :=
  if t.kind = 1 then (t.text, decide (t.n = 0) && nameB t.text)
  else if t.kind = 2 then (t.text, decide (t.n = 0) && kw t.text)
  else if t.kind = 3 then (fmt t.n, t.text.isEmpty && decide (-268435456 <= t.n) && decide (t.n <= 268435456))
  else if t.kind = 4 then ((quote t.text).1, decide (t.n = 0) && decide ((quote t.text).2 = 0))
  else if t.kind = 5 then (t.text, decide (t.n = 0) && marks.contains t.text)
  else ([], false)
def headOk (s : List UInt8) : Prop := ∃ b r, s = b :: r /\ b ≠ 10 /\ (decide (b = 32) || decide (b = 9)) = false /\ b ≠ 35
theorem headOk_L {b : UInt8} (r : List UInt8) (h : isL b = true) : headOk (b :: r) := by
  refine ⟨b, r, rfl, ?_, ?_, ?_⟩
  · rintro rfl; exact absurd h (by decide)
  · by_cases h1 : b = 32
    · subst h1; exact absurd h (by decide)
    by_cases h2 : b = 9
    · subst h2; exact absurd h (by decide)
    simp [h1, h2]
  rintro rfl; exact absurd h (by decide)
theorem headOk_D {b : UInt8} (r : List UInt8) (h : isD b = true) : headOk (b :: r) := by
  refine ⟨b, r, rfl, ?_, ?_, ?_⟩
  · rintro rfl; exact absurd h (by decide)
  · by_cases h1 : b = 32
    · subst h1; exact absurd h (by decide)
    by_cases h2 : b = 9
    · subst h2; exact absurd h (by decide)
    simp [h1, h2]
  rintro rfl; exact absurd h (by decide)
theorem headOk_at (b : UInt8) (r : List UInt8) (h : b ≠ 10 /\ (decide (b = 32) || decide (b = 9)) = false /\ b ≠ 35) : headOk (b :: r) := ⟨b, r, rfl, h⟩
theorem wordN_pos (l : List UInt8) (h : 0 < wordN l) : ∃ b r, l = b :: r /\ isL b = true := by
  cases l with
  | nil => exact absurd h (by decide)
  | cons b r =>
    refine ⟨b, r, rfl, ?_⟩
    cases hb : isL b
    · rw [wordN_zero b r hb] at h; exact absurd h (by decide)
    · rfl
theorem next_written (t : Tok) (h : (written t).2 = true) : next (written t).1 = (⟨t.kind, t.text, t.n, 0⟩, (written t).1.length, 0) /\ headOk (written t).1 := by
  obtain ⟨k, x, n, ln⟩ := t
  unfold written at h ⊢
  dsimp only at h ⊢
  by_cases c1 : k = 1
  · subst c1
    rw [if_pos rfl] at h ⊢
    simp only [Bool.and_eq_true, decide_eq_true_eq] at h
    obtain ⟨rfl, hn⟩ := h
    refine ⟨next_name x hn, ?_⟩
    have h2 := hn
    unfold nameB at h2
    simp only [Bool.and_eq_true, Bool.not_eq_true', decide_eq_true_eq] at h2
    obtain ⟨⟨⟨g1, _⟩, g3⟩, _⟩ := h2
    obtain ⟨b, r, rfl, hb⟩ := wordN_pos x (by rw [g3]; cases x with
      | nil => simp at g1
      | cons a r => simp)
    exact headOk_L r hb
  rw [if_neg c1] at h ⊢
  by_cases c2 : k = 2
  · subst c2
    rw [if_pos rfl] at h ⊢
    simp only [Bool.and_eq_true, decide_eq_true_eq] at h
    obtain ⟨rfl, hn⟩ := h
    refine ⟨next_kw x hn, ?_⟩
    unfold kw at hn
    simp only [Bool.or_eq_true, beq_iff_eq] at hn
    rcases hn with ((((rfl | rfl) | rfl) | rfl) | rfl) | rfl <;> exact headOk_at _ _ (by decide)
  rw [if_neg c2] at h ⊢
  by_cases c3 : k = 3
  · subst c3
    rw [if_pos rfl] at h ⊢
    simp only [Bool.and_eq_true, decide_eq_true_eq] at h
    obtain ⟨⟨hx, h1⟩, h2⟩ := h
    have : x = [] := by simpa using hx
    subst this
    refine ⟨next_fmt n (by omega), ?_⟩
    obtain ⟨b, r, hu, hb, _⟩ := fmtU_bytes n.natAbs
    unfold fmt
    split
    · exact headOk_at _ _ (by decide)
    rw [hu]; exact headOk_D r hb
  rw [if_neg c3] at h ⊢
  by_cases c4 : k = 4
  · subst c4
    rw [if_pos rfl] at h ⊢
    simp only [Bool.and_eq_true, decide_eq_true_eq] at h
    obtain ⟨rfl, hq⟩ := h
    unfold quote at hq ⊢
    by_cases g1 : 32 < x.length
    · rw [if_pos g1] at hq; exact absurd hq (by decide)
    rw [if_neg g1] at hq ⊢
    cases hp : plainB x
    · rw [hp, if_pos (by decide)] at hq; exact absurd hq (by decide)
    rw [hp] at hq
    rw [if_neg (by simp)]
    refine ⟨?_, headOk_at _ _ (by decide)⟩
    rw [next_quote x [] hp (by omega)]
    simp
  rw [if_neg c4] at h ⊢
  by_cases c5 : k = 5
  · subst c5
    rw [if_pos rfl] at h ⊢
    simp only [Bool.and_eq_true, decide_eq_true_eq, List.contains_iff_mem] at h
    obtain ⟨rfl, hm⟩ := h
    refine ⟨next_marks x hm, ?_⟩
    simp only [marks, List.mem_cons, List.not_mem_nil, or_false] at hm
    rcases hm with rfl | rfl | rfl | rfl | rfl | rfl | rfl | rfl | rfl | rfl <;> exact headOk_at _ _ (by decide)
  rw [if_neg c5] at h; exact absurd h (by decide)
end Go.Proofs.YtjaeedbjknejdaaGreatDoor.Lx

namespace Go.Proofs.YtjaeedbjknejdaaGreatDoor.Lx
open Go.Lib Fx
def sepB (c : UInt8) : Prop := isL c = false /\ isD c = false /\ (c == 46) = false /\ c ≠ 62 /\ c ≠ 45
theorem okW_sep (s t : List UInt8) {c : UInt8} (hc : sepB c) : (∀ n, n < s.length -> okW (s ++ c :: t) n = okW s n) /\ okW (s ++ c :: t) s.length = false := by
  refine ⟨fun n h => by unfold okW; rw [bt_app h], ?_⟩
  unfold okW
  rw [bt_end, hc.1, hc.2.1]; simp
theorem okN_sep (s t : List UInt8) {c : UInt8} (hc : sepB c) : (∀ n, n < s.length -> okN (s ++ c :: t) n = okN s n) /\ okN (s ++ c :: t) s.length = false := by
  refine ⟨fun n h => by unfold okN; rw [bt_app h], ?_⟩
  unfold okN
  rw [bt_end, hc.1, hc.2.1, hc.2.2.1]; rfl
theorem wordN_sep (s t : List UInt8) {c : UInt8} (hc : sepB c) : wordN (s ++ c :: t) = wordN s :=
  scan_app (okW_sep s t hc).1 (okW_sep s t hc).2 s.length 0 _ (by omega) (by simp)
theorem numN_sep (s t : List UInt8) {c : UInt8} (hc : sepB c) (h : 0 < s.length) : numN (s ++ c :: t) = numN s :=
  scan_app (okN_sep s t hc).1 (okN_sep s t hc).2 (s.length - 1) 1 _ (by omega) (by simp; omega)
theorem markOf_sep (s t : List UInt8) {c : UInt8} (hc : sepB c) (h : 0 < s.length) : markOf (s ++ c :: t) marks = markOf s marks := by
  match s, h with
  | [a], _ =>
    have e1 : ∀ b : UInt8, ([45, b] : List UInt8).isPrefixOf [a] = false := fun b => by simp [List.isPrefixOf]
    have e2 : ∀ b : UInt8, b ≠ c -> ([45, b] : List UInt8).isPrefixOf ([a] ++ c :: t) = false := fun b hb => by simp [List.isPrefixOf]; intro _; exact hb
    have e3 : ∀ b : UInt8, ([b] : List UInt8).isPrefixOf ([a] ++ c :: t) = ([b] : List UInt8).isPrefixOf [a] := fun b => by simp [List.isPrefixOf]
    simp only [markOf, marks, e1, e2 62 (fun e => hc.2.2.2.1 e.symm), e2 45 (fun e => hc.2.2.2.2 e.symm), e3]
  | a :: b :: r, _ =>
    have e1 : ∀ x y : UInt8, ([x, y] : List UInt8).isPrefixOf (a :: b :: r ++ c :: t) = ([x, y] : List UInt8).isPrefixOf (a :: b :: r) := fun x y => by simp [List.isPrefixOf]
    have e3 : ∀ x : UInt8, ([x] : List UInt8).isPrefixOf (a :: b :: r ++ c :: t) = ([x] : List UInt8).isPrefixOf (a :: b :: r) := fun x => by simp [List.isPrefixOf]
    simp only [markOf, marks, e1, e3]
theorem numHead_sep (s t : List UInt8) {c : UInt8} (hc : sepB c) (h : 0 < s.length) : (isD (bt (s ++ c :: t) 0) || (bt (s ++ c :: t) 0 == 45 && decide (1 < (s ++ c :: t).length) && isD (bt (s ++ c :: t) 1))) = (isD (bt s 0) || (bt s 0 == 45 && decide (1 < s.length) && isD (bt s 1))) := by
  rw [bt_app h]
  by_cases h1 : 1 < s.length
  · rw [bt_app h1, decide_eq_true h1, decide_eq_true (by simp; omega)]
  have h2 : s.length = 1 := by omega
  have := bt_end s c t
  rw [h2] at this
  rw [this, decide_eq_false h1, hc.2.1]; simp
theorem next_sep (s t : List UInt8) {c : UInt8} (hc : sepB c) (h : 0 < s.length) (ho : (next s).2.2 = 0) : next (s ++ c :: t) = next s := by
  unfold next at ho ⊢
  rw [wordN_sep s t hc, numN_sep s t hc h, numHead_sep s t hc h, bt_app h, markOf_sep s t hc h, List.take_append_of_le_length (wordN_le s), List.take_append_of_le_length (numN_le s h)]
  rw [List.drop_append_of_le_length (by omega)]
  by_cases h1 : 0 < wordN s
  · rw [if_pos h1, if_pos h1]
  rw [if_neg h1] at ho
  rw [if_neg h1, if_neg h1]
  by_cases h2 : (isD (bt s 0) || (bt s 0 == 45 && decide (1 < s.length) && isD (bt s 1))) = true
  · rw [if_pos h2, if_pos h2]
  rw [if_neg h2] at ho
  rw [if_neg h2, if_neg h2]
  by_cases h3 : (bt s 0 == 34) = true
  · rw [if_pos h3] at ho
    rw [if_pos h3, if_pos h3]
    have hc : (contents false [] 0 (s.drop 1)).2.2 = 0 := by
      by_cases hc : (contents false [] 0 (s.drop 1)).2.2 = 0
      · exact hc
      rw [if_neg hc] at ho; exact absurd ho hc
    rw [contents_app _ _ _ _ _ hc]
  rw [if_neg h3, if_neg h3]
def Z (ln : Int) (L : List Tok) (s : List UInt8) : List Tok × Int × Int := tokz s.length ln L s
theorem Z_of (f : Nat) (ln : Int) (L : List Tok) (s : List UInt8) (h : s.length <= f) : tokz f ln L s = Z ln L s :=
  tokz_fuel (fun s h0 h1 => (next_len s h0 h1).1) s.length s (Nat.le_refl _) f s.length ln L h (Nat.le_refl _)
theorem Z_nil (ln : Int) (L : List Tok) : Z ln L [] = (L, 0, 0) := tokz_nil _ _ _
theorem Z_nl (ln : Int) (L : List Tok) (t : List UInt8) : Z ln L (10 :: t) = Z (ln + 1) L t := by
  unfold Z
  rw [List.length_cons, tokz_cons, if_pos rfl]
theorem Z_sp (ln : Int) (L : List Tok) (t : List UInt8) : Z ln L (32 :: t) = Z ln L t := by
  unfold Z
  rw [List.length_cons, tokz_cons, if_neg (by decide), if_pos (by decide)]
theorem Z_sps (ln : Int) (L : List Tok) (t : List UInt8) : ∀ n, Z ln L (List.replicate n 32 ++ t) = Z ln L t
  | 0 => rfl
  | n + 1 => by rw [List.replicate_succ, List.cons_append, Z_sp, Z_sps ln L t n]
theorem Z_tok (ln : Int) (L : List Tok) (s t : List UInt8) (k n : Int) (x : List UInt8) (hs : headOk s) (hn : next (s ++ t) = (⟨k, x, n, 0⟩, s.length, 0)) : Z ln L (s ++ t) = Z ln (L ++ [⟨k, x, n, ln⟩]) t := by
  obtain ⟨b, r, rfl, n1, n2, n3⟩ := hs
  unfold Z
  rw [List.cons_append] at hn ⊢
  rw [List.length_cons, tokz_cons, if_neg n1, if_neg (by rw [n2]; decide), if_neg n3, hn, if_pos rfl]
  show tokz _ ln _ ((b :: (r ++ t)).drop (b :: r).length) = _
  rw [<- List.cons_append, List.drop_left, Z_of _ _ _ _ (by simp)]
  rfl
theorem Z_sep (ln : Int) (L : List Tok) (t : List UInt8) {c : UInt8} (hc : sepB c) (u : Tok) (h : (written u).2 = true) : Z ln L ((written u).1 ++ c :: t) = Z ln (L ++ [⟨u.kind, u.text, u.n, ln⟩]) (c :: t) := by
  obtain ⟨h1, h2⟩ := next_written u h
  have h0 : 0 < (written u).1.length := by obtain ⟨b, r, e, _⟩ := h2; rw [e]; simp
  refine Z_tok ln L _ _ _ _ _ h2 ?_
  rw [next_sep _ t hc h0 (by rw [h1]), h1]
theorem Z_mark (ln : Int) (L : List Tok) (t m : List UInt8) (h : m ∈ marks) : Z ln L (m ++ t) = Z ln (L ++ [⟨5, m, 0, ln⟩]) t := by
  have key : ∀ (b : UInt8) (r : List UInt8), isL b = false -> (isD b || (b == 45 && isD (bt r 0))) = false -> (b == 34) = false -> wordN (b :: r) = 0 /\ next (b :: r) = (match markOf (b :: r) marks with | some m => ((⟨5, m, 0, 0⟩ : Tok), m.length, (0 : Int)) | none => (⟨0, [], 0, 0⟩, 0, 4)) := by
    intro b r h1 h2 h3
    have hw := wordN_zero b r h1
    refine ⟨hw, ?_⟩
    have hd : (isD (bt (b :: r) 0) || (bt (b :: r) 0 == 45 && decide (1 < (b :: r).length) && isD (bt (b :: r) 1))) = false := by
      rw [show bt (b :: r) 0 = b from rfl, show bt (b :: r) 1 = bt r 0 from rfl]
      rw [Bool.or_eq_false_iff] at h2 ⊢
      refine ⟨h2.1, ?_⟩
      have := h2.2
      cases hb : (b == 45)
      · simp
      rw [hb] at this; rw [Bool.true_and] at this; rw [this]; simp
    unfold next
    rw [hw, if_neg (by omega), hd, if_neg (by decide), show bt (b :: r) 0 = b from rfl, h3, if_neg (by decide)]
    rfl
  have hh : headOk m := (next_written ⟨5, m, 0, 0⟩ (by unfold written; rw [if_neg (show ¬ (5 : Int) = 1 by decide), if_neg (show ¬ (5 : Int) = 2 by decide), if_neg (show ¬ (5 : Int) = 3 by decide), if_neg (show ¬ (5 : Int) = 4 by decide), if_pos rfl]; simpa using h)).2
  refine Z_tok ln L m t 5 0 m hh ?_
  simp only [marks, List.mem_cons, List.not_mem_nil, or_false] at h
  rcases h with rfl | rfl | rfl | rfl | rfl | rfl | rfl | rfl | rfl | rfl <;> exact (key _ _ rfl rfl rfl).2
end Go.Proofs.YtjaeedbjknejdaaGreatDoor.Lx
