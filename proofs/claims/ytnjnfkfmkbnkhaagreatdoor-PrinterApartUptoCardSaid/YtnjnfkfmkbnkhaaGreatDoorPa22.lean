/- Packed texts: TreTokz, TreToks, TreStaR -/
import Derived.Test.YtnjnfkfmkbnkhaaGreatDoorPa20
import Derived.Test.YtnjnfkfmkbnkhaaGreatDoorPa21
import Derived.Test.YtnjnfkfmkbnkhaaGreatDoorPa05
import Derived.Test.YtnjnfkfmkbnkhaaGreatDoorPa17
import Derived.Test.YtnjnfkfmkbnkhaaGreatDoorPa18
set_option linter.unusedVariables false
set_option linter.unusedSimpArgs false
/- The tokens of printed texts, one after another; no program in sight. -/
namespace Go.Proofs.YtnjnfkfmkbnkhaaGreatDoor.Lx
open Go.Lib Fx

/-- A byte that ends a name and a number. -/
def sepB (c : UInt8) : Prop := isL c = false ∧ isD c = false ∧ (c == 46) = false ∧ c ≠ 62 ∧ c ≠ 45
theorem okW_sep (s t : List UInt8) {c : UInt8} (hc : sepB c) : (∀ n, n < s.length → okW (s ++ c :: t) n = okW s n) ∧ okW (s ++ c :: t) s.length = false := by
  refine ⟨fun n h => by unfold okW; rw [bt_app h], ?_⟩
  unfold okW
  rw [bt_end, hc.1, hc.2.1]; simp
theorem okN_sep (s t : List UInt8) {c : UInt8} (hc : sepB c) : (∀ n, n < s.length → okN (s ++ c :: t) n = okN s n) ∧ okN (s ++ c :: t) s.length = false := by
  refine ⟨fun n h => by unfold okN; rw [bt_app h], ?_⟩
  unfold okN
  rw [bt_end, hc.1, hc.2.1, hc.2.2.1]; rfl
theorem wordN_sep (s t : List UInt8) {c : UInt8} (hc : sepB c) : wordN (s ++ c :: t) = wordN s :=
  scan_app (okW_sep s t hc).1 (okW_sep s t hc).2 s.length 0 _ (by omega) (by simp)
theorem numN_sep (s t : List UInt8) {c : UInt8} (hc : sepB c) (h : 0 < s.length) : numN (s ++ c :: t) = numN s :=
  scan_app (okN_sep s t hc).1 (okN_sep s t hc).2 (s.length - 1) 1 _ (by omega) (by simp; omega)
theorem markOf_sep (s t : List UInt8) {c : UInt8} (hc : sepB c) (h : 0 < s.length) : markOf (s ++ c :: t) marks = markOf s marks := by
  match s, h with
  | [a], _ =>
    have e1 : ∀ b : UInt8, ([45, b] : List UInt8).isPrefixOf [a] = false := fun b => by simp [List.isPrefixOf]
    have e2 : ∀ b : UInt8, b ≠ c → ([45, b] : List UInt8).isPrefixOf ([a] ++ c :: t) = false := fun b hb => by simp [List.isPrefixOf]; intro _; exact hb
    have e3 : ∀ b : UInt8, ([b] : List UInt8).isPrefixOf ([a] ++ c :: t) = ([b] : List UInt8).isPrefixOf [a] := fun b => by simp [List.isPrefixOf]
    simp only [markOf, marks, e1, e2 62 (fun e => hc.2.2.2.1 e.symm), e2 45 (fun e => hc.2.2.2.2 e.symm), e3]
  | a :: b :: r, _ =>
    have e1 : ∀ x y : UInt8, ([x, y] : List UInt8).isPrefixOf (a :: b :: r ++ c :: t) = ([x, y] : List UInt8).isPrefixOf (a :: b :: r) := fun x y => by simp [List.isPrefixOf]
    have e3 : ∀ x : UInt8, ([x] : List UInt8).isPrefixOf (a :: b :: r ++ c :: t) = ([x] : List UInt8).isPrefixOf (a :: b :: r) := fun x => by simp [List.isPrefixOf]
    simp only [markOf, marks, e1, e3]
theorem numHead_sep (s t : List UInt8) {c : UInt8} (hc : sepB c) (h : 0 < s.length) : (isD (bt (s ++ c :: t) 0) || (bt (s ++ c :: t) 0 == 45 && decide (1 < (s ++ c :: t).length) && isD (bt (s ++ c :: t) 1))) = (isD (bt s 0) || (bt s 0 == 45 && decide (1 < s.length) && isD (bt s 1))) := by
  rw [bt_app h]
  by_cases h1 : 1 < s.length
  · rw [bt_app h1, decide_eq_true h1, decide_eq_true (by simp; omega)]
  · have h2 : s.length = 1 := by omega
    have := bt_end s c t
    rw [h2] at this
    rw [this, decide_eq_false h1, hc.2.1]; simp
theorem next_sep (s t : List UInt8) {c : UInt8} (hc : sepB c) (h : 0 < s.length) (ho : (next s).2.2 = 0) : next (s ++ c :: t) = next s := by
  unfold next at ho ⊢
  rw [wordN_sep s t hc, numN_sep s t hc h, numHead_sep s t hc h, bt_app h, markOf_sep s t hc h, List.take_append_of_le_length (wordN_le s), List.take_append_of_le_length (numN_le s h)]
  rw [List.drop_append_of_le_length (by omega)]
  by_cases h1 : 0 < wordN s
  · rw [if_pos h1, if_pos h1]
  rw [if_neg h1] at ho
  rw [if_neg h1, if_neg h1]
  by_cases h2 : (isD (bt s 0) || (bt s 0 == 45 && decide (1 < s.length) && isD (bt s 1))) = true
  · rw [if_pos h2, if_pos h2]
  rw [if_neg h2] at ho
  rw [if_neg h2, if_neg h2]
  by_cases h3 : (bt s 0 == 34) = true
  · rw [if_pos h3] at ho
    rw [if_pos h3, if_pos h3]
    have hc : (contents false [] 0 (s.drop 1)).2.2 = 0 := by
      by_cases hc : (contents false [] 0 (s.drop 1)).2.2 = 0
      · exact hc
      · rw [if_neg hc] at ho; exact absurd ho hc
    rw [contents_app _ _ _ _ _ hc]
  · rw [if_neg h3, if_neg h3]

/-- All tokens of a text from a line on. -/
def Z (ln : Int) (L : List Tok) (s : List UInt8) : List Tok × Int × Int := tokz s.length ln L s
theorem Z_of (f : Nat) (ln : Int) (L : List Tok) (s : List UInt8) (h : s.length ≤ f) : tokz f ln L s = Z ln L s :=
  tokz_fuel (fun s h0 h1 => (next_len s h0 h1).1) s.length s (Nat.le_refl _) f s.length ln L h (Nat.le_refl _)
theorem Z_nil (ln : Int) (L : List Tok) : Z ln L [] = (L, 0, 0) := tokz_nil _ _ _
theorem Z_nl (ln : Int) (L : List Tok) (t : List UInt8) : Z ln L (10 :: t) = Z (ln + 1) L t := by
  unfold Z
  rw [List.length_cons, tokz_cons, if_pos rfl]
theorem Z_sp (ln : Int) (L : List Tok) (t : List UInt8) : Z ln L (32 :: t) = Z ln L t := by
  unfold Z
  rw [List.length_cons, tokz_cons, if_neg (by decide), if_pos (by decide)]
theorem Z_sps (ln : Int) (L : List Tok) (t : List UInt8) : ∀ n, Z ln L (List.replicate n 32 ++ t) = Z ln L t
  | 0 => rfl
  | n + 1 => by rw [List.replicate_succ, List.cons_append, Z_sp, Z_sps ln L t n]
theorem Z_tok (ln : Int) (L : List Tok) (s t : List UInt8) (k n : Int) (x : List UInt8) (hs : headOk s) (hn : next (s ++ t) = (⟨k, x, n, 0⟩, s.length, 0)) : Z ln L (s ++ t) = Z ln (L ++ [⟨k, x, n, ln⟩]) t := by
  obtain ⟨b, r, rfl, n1, n2, n3⟩ := hs
  unfold Z
  rw [List.cons_append] at hn ⊢
  rw [List.length_cons, tokz_cons, if_neg n1, if_neg (by rw [n2]; decide), if_neg n3, hn, if_pos rfl]
  show tokz _ ln _ ((b :: (r ++ t)).drop (b :: r).length) = _
  rw [← List.cons_append, List.drop_left, Z_of _ _ _ _ (by simp)]
  rfl
/-- A written token with a separating byte behind it. -/
theorem Z_sep (ln : Int) (L : List Tok) (t : List UInt8) {c : UInt8} (hc : sepB c) (u : Tok) (h : (written u).2 = true) : Z ln L ((written u).1 ++ c :: t) = Z ln (L ++ [⟨u.kind, u.text, u.n, ln⟩]) (c :: t) := by
  obtain ⟨h1, h2⟩ := next_written u h
  have h0 : 0 < (written u).1.length := by obtain ⟨b, r, e, _⟩ := h2; rw [e]; simp
  refine Z_tok ln L _ _ _ _ _ h2 ?_
  rw [next_sep _ t hc h0 (by rw [h1]), h1]
/-- A mark, whatever stands behind it. -/
theorem Z_mark (ln : Int) (L : List Tok) (t m : List UInt8) (h : m ∈ marks) : Z ln L (m ++ t) = Z ln (L ++ [⟨5, m, 0, ln⟩]) t := by
  have key : ∀ (b : UInt8) (r : List UInt8), isL b = false → (isD b || (b == 45 && isD (bt r 0))) = false → (b == 34) = false → wordN (b :: r) = 0 ∧ next (b :: r) = (match markOf (b :: r) marks with | some m => ((⟨5, m, 0, 0⟩ : Tok), m.length, (0 : Int)) | none => (⟨0, [], 0, 0⟩, 0, 4)) := by
    intro b r h1 h2 h3
    have hw := wordN_zero b r h1
    refine ⟨hw, ?_⟩
    have hd : (isD (bt (b :: r) 0) || (bt (b :: r) 0 == 45 && decide (1 < (b :: r).length) && isD (bt (b :: r) 1))) = false := by
      rw [show bt (b :: r) 0 = b from rfl, show bt (b :: r) 1 = bt r 0 from rfl]
      rw [Bool.or_eq_false_iff] at h2 ⊢
      refine ⟨h2.1, ?_⟩
      have := h2.2
      cases hb : (b == 45)
      · simp
      · rw [hb] at this; rw [Bool.true_and] at this; rw [this]; simp
    unfold next
    rw [hw, if_neg (by omega), hd, if_neg (by decide), show bt (b :: r) 0 = b from rfl, h3, if_neg (by decide)]
    rfl
  have hh : headOk m := (next_written ⟨5, m, 0, 0⟩ (by unfold written; rw [if_neg (show ¬ (5 : Int) = 1 by decide), if_neg (show ¬ (5 : Int) = 2 by decide), if_neg (show ¬ (5 : Int) = 3 by decide), if_neg (show ¬ (5 : Int) = 4 by decide), if_pos rfl]; simpa using h)).2
  refine Z_tok ln L m t 5 0 m hh ?_
  simp only [marks, List.mem_cons, List.not_mem_nil, or_false] at h
  rcases h with rfl | rfl | rfl | rfl | rfl | rfl | rfl | rfl | rfl | rfl <;> exact (key _ _ rfl rfl rfl).2
end Go.Proofs.YtnjnfkfmkbnkhaaGreatDoor.Lx

/- The tokens of a printed tree; no program in sight. -/
namespace Go.Proofs.YtnjnfkfmkbnkhaaGreatDoor.Tr
open Go.Lib Fx Lx

def mk (m : List UInt8) (ln : Int) : Tok := ⟨5, m, 0, ln⟩
def nm (x : ByteArray) (ln : Int) : Tok := ⟨1, x.data.toList, 0, ln⟩
def valTok (s : ByteArray) (ln : Int) : Tok := if nameB s.data.toList = true then ⟨1, s.data.toList, 0, ln⟩ else if (parse s.data.toList).2 = 0 then ⟨3, [], (parse s.data.toList).1, ln⟩ else ⟨4, s.data.toList, 0, ln⟩
def attrToks (ln : Int) (q : Two) : List Tok := [nm q.1 ln, mk [61] ln, valTok q.2 ln]
def sepToks (m : Tok) : List (List Tok) → List Tok
  | [] => []
  | [x] => x
  | x :: y :: r => x ++ m :: sepToks m (y :: r)
def listToks (ln : Int) (a : List Two) : List Tok := mk [91] ln :: (sepToks (mk [44] ln) (a.map (attrToks ln)) ++ [mk [93] ln])
def tailToks (ln : Int) (a : List Two) : List Tok := (if a.isEmpty = true then [] else listToks ln a) ++ [mk [59] ln]
def refToks (ln : Int) (r : Two) : List Tok := nm r.1 ln :: (if r.2.size = 0 then [] else [mk [58] ln, nm r.2 ln])
def arrowM (d : Bool) : List UInt8 := if d then [45, 62] else [45, 45]
mutual
def linesS : Stm → Nat
  | .mk k _ _ _ b => if k = 5 then 2 + linesL b else 1
def linesL : List Stm → Nat
  | [] => 0
  | x :: r => linesS x + linesL r
end
mutual
def toksS (d : Bool) (ln : Int) : Stm → List Tok
  | .mk k n r a b =>
    if k = 1 then nm n ln :: tailToks ln a
    else if k = 2 then sepToks (mk (arrowM d) ln) (r.map (refToks ln)) ++ tailToks ln a
    else if k = 3 then ⟨2, n.data.toList, 0, ln⟩ :: (listToks ln a ++ [mk [59] ln])
    else if k = 4 then [⟨2, [115, 101, 116], 0, ln⟩, nm n ln, mk [61] ln, valTok (a.headD (⟨#[]⟩, ⟨#[]⟩)).2 ln, mk [59] ln]
    else ⟨2, [99, 108, 117, 115, 116, 101, 114], 0, ln⟩ :: nm n ln :: mk [123] ln :: (toksL d (ln + 1) b ++ [mk [125] (ln + 1 + linesL b)])
def toksL (d : Bool) (ln : Int) : List Stm → List Tok
  | [] => []
  | x :: r => toksS d ln x ++ toksL d (ln + linesS x) r
end
def toksT (d : Bool) (name : ByteArray) (body : List Stm) : List Tok :=
  ⟨2, if d then [100, 105, 103, 114, 97, 112, 104] else [103, 114, 97, 112, 104], 0, 1⟩ :: nm name 1 :: mk [123] 1 :: (toksL d 2 body ++ [mk [125] (2 + linesL body)])

/-- What a valid statement holds, whatever its level. -/
def okS (x : Stm) : Prop := formB x = true ∧ ((x.kind = 1 ∨ x.kind = 4 ∨ x.kind = 5) → nameB x.name.data.toList = true) ∧ x.refs.all refB = true ∧ (∀ q ∈ x.attrs, (x.kind ≠ 4 → nameB q.1.data.toList = true) ∧ q.2.size ≤ 32 ∧ q.2.data.toList.all okT = true)
theorem attrsGo_ok (kind : Int) : ∀ (L D : List Two), attrsGo kind L D = 0 → ∀ q ∈ L, (kind ≠ 4 → nameB q.1.data.toList = true) ∧ q.2.size ≤ 32 ∧ q.2.data.toList.all okT = true
  | x :: r, D, h, q, hq => by
    rw [attrsGo] at h
    split at h
    · exact absurd h (by decide)
    · rename_i h1
      split at h
      · exact absurd h (by decide)
      · split at h
        · exact absurd h (by decide)
        · rename_i h3
          split at h
          · exact absurd h (by decide)
          · rename_i h4
            rcases List.mem_cons.1 hq with rfl | hq
            · refine ⟨fun hk => ?_, by omega, by simpa using h4⟩
              cases hn : nameB q.1.data.toList
              · exact absurd ⟨hk, hn⟩ h1
              · rfl
            · exact attrsGo_ok kind r _ h q hq
theorem okS_of (x : Stm) (lev : Nat) (h : stmE (x, lev) = 0) : okS x := by
  unfold stmE at h
  dsimp only at h
  split at h
  · exact absurd h (by decide)
  · rename_i h1
    split at h
    · exact absurd h (by decide)
    · split at h
      · exact absurd h (by decide)
      · rename_i h3
        split at h
        · exact absurd h (by decide)
        · rename_i h4
          refine ⟨by simpa using h1, fun hk => ?_, by simpa using h4, ?_⟩
          · cases hn : nameB x.name.data.toList
            · exact absurd ⟨hk, hn⟩ h3
            · rfl
          · unfold attrsE at h
            split at h
            · exact absurd h (by decide)
            · exact attrsGo_ok x.kind x.attrs [] h
mutual
/-- All statements of a list, and of their bodies. -/
def AllS (p : Stm → Prop) : Stm → Prop
  | .mk k n r a b => p (.mk k n r a b) ∧ AllL p b
def AllL (p : Stm → Prop) : List Stm → Prop
  | [] => True
  | x :: r => AllS p x ∧ AllL p r
end
mutual
theorem allS_flat (p : Stm → Prop) (lev : Nat) : ∀ x : Stm, (∀ q ∈ flatS lev x, p q.1) → AllS p x
  | .mk k n r a b, h => by
    rw [flatS] at h
    rw [AllS]
    exact ⟨h _ List.mem_cons_self, allL_flat p _ b fun q hq => h q (List.mem_cons_of_mem _ hq)⟩
theorem allL_flat (p : Stm → Prop) (lev : Nat) : ∀ L : List Stm, (∀ q ∈ flatL lev L, p q.1) → AllL p L
  | [], _ => by rw [AllL]; trivial
  | x :: r, h => by
    rw [flatL] at h
    rw [AllL]
    exact ⟨allS_flat p lev x fun q hq => h q (List.mem_append_left _ hq), allL_flat p lev r fun q hq => h q (List.mem_append_right _ hq)⟩
end
theorem firstE_zero : ∀ (l : List (Stm × Nat)), firstE l = 0 → ∀ p ∈ l, stmE p = 0
  | q :: r, h, p, hp => by
    rw [firstE] at h
    by_cases hq : stmE q = 0
    · rw [if_neg (fun h' => h' hq)] at h
      rcases List.mem_cons.1 hp with rfl | hp
      · exact hq
      · exact firstE_zero r h p hp
    · rw [if_pos hq] at h; exact absurd h hq
theorem valid_ok (name : ByteArray) (L : List Stm) (h : validE name L = 0) : nameB name.data.toList = true ∧ (flatL 0 L).length ≤ 512 ∧ (∀ p ∈ flatL 0 L, stmE p = 0) ∧ AllL okS L := by
  unfold validE at h
  split at h
  · exact absurd h (by decide)
  · rename_i h1
    split at h
    · exact absurd h (by decide)
    · rename_i h2
      have h3 := firstE_zero _ h
      exact ⟨by simpa using h1, by omega, h3, allL_flat okS 0 L fun q hq => okS_of q.1 q.2 (h3 q hq)⟩

theorem sep_of {c : UInt8} (h : c = 10 ∨ c = 32 ∨ c = 58 ∨ c = 59 ∨ c = 61 ∨ c = 44 ∨ c = 93) : sepB c := by
  rcases h with rfl | rfl | rfl | rfl | rfl | rfl | rfl <;> (unfold sepB; decide)
/-- The text begins with a separating byte. -/
def SepH (t : List UInt8) : Prop := ∃ c r, t = c :: r ∧ sepB c
theorem SepH.at {c : UInt8} (r : List UInt8) (h : c = 10 ∨ c = 32 ∨ c = 58 ∨ c = 59 ∨ c = 61 ∨ c = 44 ∨ c = 93) : SepH (c :: r) := ⟨c, r, rfl, sep_of h⟩
theorem Z_nm (ln : Int) (L : List Tok) (x : ByteArray) (t : List UInt8) (hx : nameB x.data.toList = true) (ht : SepH t) : Z ln L (x.data.toList ++ t) = Z ln (L ++ [nm x ln]) t := by
  obtain ⟨c, r, rfl, hc⟩ := ht
  have hw : Lx.written ⟨1, x.data.toList, 0, 0⟩ = (x.data.toList, true) := by unfold Lx.written; rw [if_pos rfl]; simp [hx]
  have h := Z_sep ln L r hc ⟨1, x.data.toList, 0, 0⟩ (by rw [hw])
  rw [hw] at h
  exact h
theorem Z_kw (ln : Int) (L : List Tok) (x t : List UInt8) (hx : kw x = true) (ht : SepH t) : Z ln L (x ++ t) = Z ln (L ++ [⟨2, x, 0, ln⟩]) t := by
  obtain ⟨c, r, rfl, hc⟩ := ht
  have hw : Lx.written ⟨2, x, 0, 0⟩ = (x, true) := by unfold Lx.written; rw [if_neg (show ¬ (2 : Int) = 1 by decide), if_pos rfl]; simp [hx]
  have h := Z_sep ln L r hc ⟨2, x, 0, 0⟩ (by rw [hw])
  rw [hw] at h
  exact h
theorem okT_plain (l : List UInt8) (h : l.all okT = true) : plainB l = true := by
  unfold plainB
  rw [List.all_eq_true] at h ⊢
  intro b hb
  have := h b hb
  unfold okT at this
  simp only [Bool.and_eq_true, decide_eq_true_eq] at this ⊢
  exact this
theorem quote_ok (s : ByteArray) (h1 : s.size ≤ 32) (h2 : s.data.toList.all okT = true) : (quote s.data.toList).2 = 0 := by
  unfold quote
  rw [if_neg (by rw [← size_len']; omega), okT_plain _ h2]; rfl
where size_len' : s.size = s.data.toList.length := by simp
theorem Z_val (ln : Int) (L : List Tok) (s : ByteArray) (t : List UInt8) (h1 : s.size ≤ 32) (h2 : s.data.toList.all okT = true) (ht : SepH t) : Z ln L (valueT s ++ t) = Z ln (L ++ [valTok s ln]) t := by
  obtain ⟨c, r, rfl, hc⟩ := ht
  unfold valueT valTok
  by_cases n1 : nameB s.data.toList = true
  · rw [if_pos n1, if_pos n1]
    exact Z_nm ln L s _ n1 ⟨c, r, rfl, hc⟩
  rw [if_neg n1, if_neg n1]
  by_cases n2 : (parse s.data.toList).2 = 0
  · rw [if_pos n2, if_pos n2]
    obtain ⟨e, b1, b2⟩ := exact_ok s.data.toList (parse s.data.toList).1 (by rw [← n2])
    have hw : Lx.written ⟨3, [], (parse s.data.toList).1, 0⟩ = (s.data.toList, true) := by
      unfold Lx.written
      rw [if_neg (show ¬ (3 : Int) = 1 by decide), if_neg (show ¬ (3 : Int) = 2 by decide), if_pos rfl]
      dsimp only
      rw [e]
      simp [b1, b2]
    have h := Z_sep ln L r hc ⟨3, [], (parse s.data.toList).1, 0⟩ (by rw [hw])
    rw [hw] at h
    exact h
  · rw [if_neg n2, if_neg n2]
    have hq := quote_ok s h1 h2
    have hw : Lx.written ⟨4, s.data.toList, 0, 0⟩ = ((quote s.data.toList).1, true) := by
      unfold Lx.written
      rw [if_neg (show ¬ (4 : Int) = 1 by decide), if_neg (show ¬ (4 : Int) = 2 by decide), if_neg (show ¬ (4 : Int) = 3 by decide), if_pos rfl]
      dsimp only
      rw [hq]; rfl
    have h := Z_sep ln L r hc ⟨4, s.data.toList, 0, 0⟩ (by rw [hw])
    rw [hw] at h
    exact h
theorem Z_m1 (ln : Int) (L : List Tok) (c : UInt8) (t : List UInt8) (h : [c] ∈ marks) : Z ln L (c :: t) = Z ln (L ++ [mk [c] ln]) t := Z_mark ln L t [c] h
theorem Z_attr (ln : Int) (L : List Tok) (q : Two) (t : List UInt8) (h0 : nameB q.1.data.toList = true) (h1 : q.2.size ≤ 32) (h2 : q.2.data.toList.all okT = true) (ht : SepH t) : Z ln L (attrT q ++ t) = Z ln (L ++ attrToks ln q) t := by
  unfold attrT attrToks
  rw [List.append_assoc, List.cons_append, Z_nm ln L q.1 _ h0 (SepH.at _ (by decide)), Z_m1 _ _ _ _ (by decide), Z_val _ _ _ _ h1 h2 ht]
  simp
theorem Z_sepT (ln : Int) (sep : List UInt8) (m : Tok) (F : Two → List UInt8) (G : Two → List Tok) (p : Two → Prop) (hsep : ∀ t, SepH (sep ++ t)) (hm : ∀ (L : List Tok) t, Z ln L (sep ++ t) = Z ln (L ++ [m]) t)
    (hF : ∀ (L : List Tok) q t, p q → SepH t → Z ln L (F q ++ t) = Z ln (L ++ G q) t) : ∀ (l : List Two), (∀ q ∈ l, p q) → ∀ (L : List Tok) (t : List UInt8), SepH t → Z ln L (sepT sep (l.map F) ++ t) = Z ln (L ++ sepToks m (l.map G)) t
  | [], _, L, t, _ => by simp [sepT, sepToks]
  | [x], h, L, t, ht => by
    show Z ln L (F x ++ t) = Z ln (L ++ G x) t
    exact hF L x t (h x (by simp)) ht
  | x :: y :: r, h, L, t, ht => by
    show Z ln L (F x ++ sep ++ sepT sep ((y :: r).map F) ++ t) = Z ln (L ++ (G x ++ m :: sepToks m ((y :: r).map G))) t
    rw [List.append_assoc, List.append_assoc, hF L x _ (h x (by simp)) (hsep _), hm, Z_sepT ln sep m F G p hsep hm hF (y :: r) (fun q hq => h q (by simp [hq])) _ t ht]
    simp
def okA (q : Two) : Prop := nameB q.1.data.toList = true ∧ q.2.size ≤ 32 ∧ q.2.data.toList.all okT = true
theorem Z_list (ln : Int) (L : List Tok) (a : List Two) (t : List UInt8) (h : ∀ q ∈ a, okA q) : Z ln L (listedT a ++ t) = Z ln (L ++ listToks ln a) t := by
  unfold listedT listToks
  rw [List.cons_append, Z_m1 _ _ _ _ (by decide), List.append_assoc, List.singleton_append]
  rw [Z_sepT ln [44, 32] (mk [44] ln) attrT (attrToks ln) okA (fun t => SepH.at _ (by decide)) (fun L t => by
    show Z ln L (44 :: 32 :: t) = _
    rw [Z_m1 _ _ _ _ (by decide), Z_sp]) (fun L q t hq ht => Z_attr ln L q t hq.1 hq.2.1 hq.2.2 ht) a h _ _ (SepH.at _ (by decide))]
  rw [Z_m1 _ _ _ _ (by decide)]
  simp
theorem Z_tail (ln : Int) (L : List Tok) (a : List Two) (t : List UInt8) (h : ∀ q ∈ a, okA q) : Z ln L (tailT a ++ t) = Z ln (L ++ tailToks ln a) t := by
  unfold tailT tailToks
  by_cases h0 : a.isEmpty = true
  · rw [if_pos h0, if_pos h0]
    show Z ln L (59 :: t) = _
    rw [Z_m1 _ _ _ _ (by decide)]; rfl
  · rw [if_neg h0, if_neg h0]
    show Z ln L (32 :: (listedT a ++ [59] ++ t)) = _
    rw [Z_sp, List.append_assoc, Z_list ln L a _ h]
    show Z ln _ (59 :: t) = _
    rw [Z_m1 _ _ _ _ (by decide)]; simp
theorem Z_ref (ln : Int) (L : List Tok) (r : Two) (t : List UInt8) (h : refB r = true) (ht : SepH t) : Z ln L (refT r ++ t) = Z ln (L ++ refToks ln r) t := by
  unfold refB at h
  simp only [Bool.and_eq_true, Bool.or_eq_true, decide_eq_true_eq] at h
  unfold refT refToks
  by_cases h0 : r.2.size = 0
  · rw [if_pos h0, if_pos h0, List.append_nil, Z_nm ln L r.1 t h.1 ht]
  · rw [if_neg h0, if_neg h0, List.append_assoc]
    show Z ln L (r.1.data.toList ++ (58 :: (r.2.data.toList ++ t))) = _
    rw [Z_nm ln L r.1 _ h.1 (SepH.at _ (by decide)), Z_m1 _ _ _ _ (by decide), Z_nm _ _ _ _ (h.2.resolve_left h0) ht]
    simp
theorem Z_arrow (d : Bool) (ln : Int) (L : List Tok) (t : List UInt8) : Z ln L (arrow d ++ t) = Z ln (L ++ [mk (arrowM d) ln]) t := by
  cases d
  · show Z ln L (32 :: ([45, 45] ++ 32 :: t)) = _
    rw [Z_sp, Z_mark ln L _ [45, 45] (by decide), Z_sp]; rfl
  · show Z ln L (32 :: ([45, 62] ++ 32 :: t)) = _
    rw [Z_sp, Z_mark ln L _ [45, 62] (by decide), Z_sp]; rfl
theorem sep_arrow (d : Bool) (t : List UInt8) : SepH (arrow d ++ t) := by
  cases d <;> exact SepH.at _ (by decide)
theorem sep_tail (a : List Two) (t : List UInt8) : SepH (tailT a ++ t) := by
  unfold tailT
  by_cases h0 : a.isEmpty = true
  · rw [if_pos h0]; exact SepH.at _ (by decide)
  · rw [if_neg h0]; exact SepH.at _ (by decide)
theorem form_kinds (x : Stm) (h : formB x = true) : (x.kind = 1 ∨ x.kind = 2 ∨ x.kind = 3 ∨ x.kind = 4 ∨ x.kind = 5) ∧ (x.kind = 3 → kw x.name.data.toList = true) ∧ (x.kind = 4 → ∃ q, x.attrs = [q] ∧ q.1.size = 0) := by
  unfold formB at h
  by_cases h1 : x.kind = 1
  · exact ⟨.inl h1, fun h => by omega, fun h => by omega⟩
  rw [if_neg h1] at h
  by_cases h2 : x.kind = 2
  · exact ⟨.inr (.inl h2), fun h => by omega, fun h => by omega⟩
  rw [if_neg h2] at h
  by_cases h3 : x.kind = 3
  · rw [if_pos h3] at h
    refine ⟨.inr (.inr (.inl h3)), fun _ => ?_, fun h => by omega⟩
    simp only [Bool.and_eq_true, Bool.or_eq_true, decide_eq_true_eq] at h
    rcases h.2 with e | e <;> (rw [e]; decide)
  rw [if_neg h3] at h
  by_cases h4 : x.kind = 4
  · rw [if_pos h4] at h
    refine ⟨.inr (.inr (.inr (.inl h4))), fun h => by omega, fun _ => ?_⟩
    simp only [Bool.and_eq_true] at h
    have h5 := h.2
    unfold setB at h5
    split at h5
    · rename_i q e; exact ⟨q, e, by simpa using h5⟩
    · exact absurd h5 (by decide)
  rw [if_neg h4] at h
  by_cases h5 : x.kind = 5
  · exact ⟨.inr (.inr (.inr (.inr h5))), fun h => by omega, fun h => by omega⟩
  rw [if_neg h5] at h
  exact absurd h (by decide)
theorem Z_ind (ln : Int) (L : List Tok) (n : Nat) (t : List UInt8) : Z ln L (indT n ++ t) = Z ln L t := Z_sps ln L t _
mutual
/-- The tokens of a statement's lines. -/
theorem Z_stm (d : Bool) : ∀ (x : Stm) (lev : Nat) (ln : Int) (L : List Tok) (t : List UInt8), AllS okS x → Z ln L (printS d lev x ++ t) = Z (ln + linesS x) (L ++ toksS d ln x) t
  | .mk k n r a b, lev, ln, L, t, h => by
    rw [AllS] at h
    obtain ⟨⟨hf, hn, hr, ha⟩, hb⟩ := h
    obtain ⟨hk, hk3, hk4⟩ := form_kinds _ hf
    simp only [Stm.kind, Stm.name, Stm.refs, Stm.attrs] at hn hr ha hk hk3 hk4
    rw [printS, toksS, linesS]
    have haA : k ≠ 4 → ∀ q ∈ a, okA q := fun h4 q hq => ⟨(ha q hq).1 h4, (ha q hq).2⟩
    by_cases h1 : k = 1
    · rw [if_pos h1, if_pos h1, if_neg (by omega)]
      simp only [List.append_assoc]
      rw [Z_ind, Z_nm ln L n _ (hn (.inl h1)) (sep_tail _ _), Z_tail ln _ a _ (haA (by omega))]
      show Z ln _ (10 :: t) = _
      rw [Z_nl]; simp
    rw [if_neg h1, if_neg h1]
    by_cases h2 : k = 2
    · rw [if_pos h2, if_pos h2, if_neg (by omega)]
      simp only [List.append_assoc]
      rw [Z_ind, Z_sepT ln (arrow d) (mk (arrowM d) ln) refT (refToks ln) (fun q => refB q = true) (sep_arrow d) (fun L t => Z_arrow d ln L t) (fun L q t hq ht => Z_ref ln L q t hq ht) r (fun q hq => List.all_eq_true.1 hr q hq) L _ (sep_tail _ _), Z_tail ln _ a _ (haA (by omega))]
      show Z ln _ (10 :: t) = _
      rw [Z_nl]; simp
    rw [if_neg h2, if_neg h2]
    by_cases h3 : k = 3
    · rw [if_pos h3, if_pos h3, if_neg (by omega)]
      simp only [List.append_assoc]
      rw [Z_ind]
      show Z ln L (n.data.toList ++ 32 :: (listedT a ++ 59 :: 10 :: t)) = _
      rw [Z_kw ln L _ _ (hk3 h3) (SepH.at _ (by decide)), Z_sp, Z_list ln _ a _ (haA (by omega)), Z_m1 _ _ _ _ (by decide), Z_nl]
      simp
    rw [if_neg h3, if_neg h3]
    by_cases h4 : k = 4
    · rw [if_pos h4, if_pos h4, if_neg (by omega)]
      obtain ⟨q, rfl, _⟩ := hk4 h4
      obtain ⟨_, q1, q2⟩ := ha q (by simp)
      simp only [List.append_assoc]
      rw [Z_ind]
      show Z ln L ([115, 101, 116] ++ 32 :: (n.data.toList ++ 32 :: 61 :: 32 :: (valueT q.2 ++ 59 :: 10 :: t))) = _
      rw [Z_kw ln L _ _ (by decide) (SepH.at _ (by decide)), Z_sp, Z_nm ln _ n _ (hn (.inr (.inl h4))) (SepH.at _ (by decide)), Z_sp, Z_m1 _ _ _ _ (by decide), Z_sp, Z_val ln _ q.2 _ q1 q2 (SepH.at _ (by decide)), Z_m1 _ _ _ _ (by decide), Z_nl]
      simp
    rw [if_neg h4, if_neg h4]
    have h5 : k = 5 := by clear hk3 hk4; omega
    rw [if_pos h5]
    simp only [List.append_assoc]
    rw [Z_ind]
    show Z ln L ([99, 108, 117, 115, 116, 101, 114] ++ 32 :: (n.data.toList ++ 32 :: 123 :: 10 :: (printL d (lev + 1) b ++ (indT lev ++ 125 :: 10 :: t)))) = _
    rw [Z_kw ln L _ _ (by decide) (SepH.at _ (by decide)), Z_sp, Z_nm ln _ n _ (hn (.inr (.inr h5))) (SepH.at _ (by decide)), Z_sp, Z_m1 _ _ _ _ (by decide), Z_nl, Z_stms d b (lev + 1) (ln + 1) _ _ hb, Z_ind, Z_m1 _ _ _ _ (by decide), Z_nl]
    rw [show ln + 1 + (linesL b : Int) + 1 = ln + ((2 + linesL b : Nat) : Int) by omega]
    simp
theorem Z_stms (d : Bool) : ∀ (X : List Stm) (lev : Nat) (ln : Int) (L : List Tok) (t : List UInt8), AllL okS X → Z ln L (printL d lev X ++ t) = Z (ln + linesL X) (L ++ toksL d ln X) t
  | [], lev, ln, L, t, _ => by rw [printL, toksL, linesL]; simp
  | x :: r, lev, ln, L, t, h => by
    rw [AllL] at h
    rw [printL, toksL, linesL, List.append_assoc, Z_stm d x lev ln L _ h.1, Z_stms d r lev (ln + linesS x) _ t h.2]
    rw [show ln + (linesS x : Int) + linesL r = ln + ((linesS x + linesL r : Nat) : Int) by omega]
    simp
end
/-- The tokens of a printed tree. -/
theorem Z_tree (d : Bool) (name : ByteArray) (body : List Stm) (h1 : nameB name.data.toList = true) (h2 : AllL okS body) : Z 1 [] (printT d name body) = (toksT d name body, 0, 0) := by
  have hk : Z 1 [] (printT d name body) = Z 1 [⟨2, if d then [100, 105, 103, 114, 97, 112, 104] else [103, 114, 97, 112, 104], 0, 1⟩] (name.data.toList ++ 32 :: 123 :: 10 :: (printL d 1 body ++ [125, 10])) := by
    unfold printT
    simp only [List.append_assoc]
    cases d
    · show Z 1 [] ([103, 114, 97, 112, 104] ++ 32 :: (name.data.toList ++ 32 :: 123 :: 10 :: (printL false 1 body ++ [125, 10]))) = _
      rw [Z_kw 1 [] _ _ (by decide) (SepH.at _ (by decide)), Z_sp]; rfl
    · show Z 1 [] ([100, 105, 103, 114, 97, 112, 104] ++ 32 :: (name.data.toList ++ 32 :: 123 :: 10 :: (printL true 1 body ++ [125, 10]))) = _
      rw [Z_kw 1 [] _ _ (by decide) (SepH.at _ (by decide)), Z_sp]; rfl
  rw [hk, Z_nm _ _ name _ h1 (SepH.at _ (by decide)), Z_sp, Z_m1 _ _ _ _ (by decide), Z_nl, Z_stms d body 1 _ _ _ h2, Z_m1 _ _ _ _ (by decide), Z_nl, Z_nil]
  unfold toksT
  simp
theorem tokenize_tree (d : Bool) (name : ByteArray) (body : List Stm) (h : validE name body = 0) (hl : (printT d name body).length ≤ 16384) : tokenize (printT d name body) = (toksT d name body, 0, 0) := by
  obtain ⟨h1, _, _, h2⟩ := valid_ok name body h
  unfold tokenize
  rw [if_neg (by omega)]
  exact Z_tree d name body h1 h2
end Go.Proofs.YtnjnfkfmkbnkhaaGreatDoor.Tr

/- What the document's statement returns. -/
namespace Go.Proofs.YtnjnfkfmkbnkhaaGreatDoor.Tr
open Go.RowKit Go.Sort Go.Lib Go.Shelf Fx Lx

theorem flat_cells (w : World) (k lev : Int) (nm : ByteArray) (r a b : Option Addr) (R A B rc ac bc : Nat) : ∀ w1, Ext (w.alloc (.cells #[.int .i64 k, .string nm, .slice r R rc, .slice a A ac, .slice b B bc, .int .i64 lev] 49)) w1 →
    w1.cell? ⟨w.heap.size, 0, none⟩ = some (.int .i64 k) ∧ w1.cell? ⟨w.heap.size, 1, none⟩ = some (.string nm) ∧ w1.cell? ⟨w.heap.size, 2, none⟩ = some (.slice r R rc) ∧ w1.cell? ⟨w.heap.size, 3, none⟩ = some (.slice a A ac) ∧ w1.cell? ⟨w.heap.size, 4, none⟩ = some (.slice b B bc) ∧ w1.cell? ⟨w.heap.size, 5, none⟩ = some (.int .i64 lev) := fun w1 x => by
  have hb := heap_alloc_new w (.cells #[.int .i64 k, .string nm, .slice r R rc, .slice a A ac, .slice b B bc, .int .i64 lev] 49)
  refine ⟨x.cell ?_, x.cell ?_, x.cell ?_, x.cell ?_, x.cell ?_, x.cell ?_⟩ <;> rw [Lib.cell_of_heap hb] <;> rfl
set_option maxHeartbeats 4000000 in
set_option maxRecDepth 100000 in
theorem statR_any (kind : Int) (nm : ByteArray) (rs al : List Two) (body : List Stm) (r a b : Option Addr) (rc ac bc lev : Nat) (w : World) (hr : TwoIn w r rs) (ha : TwoIn w a al) (hrl : rs.length ≤ maxLen) (hn : nm.size ≤ 9223372036854775807)
    (hs : ∀ q ∈ al, q.1.size ≤ 9223372036854775807 ∧ q.2.size ≤ 9223372036854775807) (ht : ∀ q ∈ rs, q.1.size ≤ 9223372036854775807 ∧ q.2.size ≤ 9223372036854775807) :
    Calls Tryz.prog 28 #[.agg #[.int .i64 kind, .string nm, .slice r rs.length rc, .slice a al.length ac, .slice b body.length bc, .int .i64 lev]] w fun e w' => e = .returned (.int .i64 (stmE (.mk kind nm rs al body, lev))) ∧ Ext w w' := by
  rw [stmE_eq]
  have hfm := fun w' (x : Ext w w') => fields_any kind nm rs al body r a b rc ac bc w' (ha.ext x)
  have hat := fun w' (x : Ext w w') => attrR_any kind nm rs al body r a b rc ac bc w' (ha.ext x) hs
  obtain ⟨X, hX⟩ : ∃ X, X = headE (.mk kind nm rs al body, lev) := ⟨_, rfl⟩
  rw [← hX]
  rw [headE_mk] at hX
  rw [show (Stm.mk kind nm rs al body, lev).1.refs = rs from rfl]
  dsimp only
  have hnm := fun w => name07_any nm hn w
  have hkd := form_kinds (.mk kind nm rs al body)
  have hx0 : Ext w (w.alloc (.cells #[.int .i64 kind, .string nm, .slice r rs.length rc, .slice a al.length ac, .slice b body.length bc, .int .i64 lev] 49)) := (Ext.refl _).alloc _
  have hcl := flat_cells w kind lev nm r a b rs.length al.length body.length rc ac bc
  generalize formB (.mk kind nm rs al body) = fb at hfm hX hkd
  generalize attrsE (.mk kind nm rs al body) = ae at hat ⊢
  generalize body.length = B at *
  generalize al.length = A at *
  generalize nameB nm.data.toList = nb at hnm hX
  have HFM := Lib.hid hfm; have HAT := Lib.hid hat; have HNM := Lib.hid hnm; have HCL := Lib.hid hcl; have HR := Lib.hid hr; have HT := Lib.hid ht
  obtain ⟨N, hN⟩ : ∃ N, N = rs.length := ⟨_, rfl⟩
  rw [← hN] at HFM HAT HCL hx0 hrl ⊢
  have HN := Lib.hid hN
  have hrl9 : N ≤ 9223372036854775807 := by unfold maxLen at hrl; omega
  obtain ⟨k0, k1, k2, k3, k4, k5⟩ := HCL.out _ (Ext.refl _)
  clear hfm hat hnm hcl hr ht hs ha hn hN hrl
  cases fb
  · rw [if_pos rfl] at hX
    subst hX
    rw [if_pos (by decide)]
    clear hkd
    go_enter Tryz.func28, Tryz.ntmps28
    go_wp2_with (go_at_call 45; refine (HFM.out _ hx0).mono ?_; rintro e w1 ⟨rfl, x1⟩)
    go_returns
    exact ⟨rfl, hx0.trans x1⟩
  have hkk := (hkd rfl).1
  simp only [Stm.kind] at hkk
  rw [if_neg (by decide)] at hX
  clear hkd
  by_cases h2 : kind = 5 ∧ 6 ≤ lev
  · rw [if_pos h2] at hX
    subst hX
    rw [if_pos (by decide)]
    obtain ⟨rfl, h6⟩ := h2
    have g1 : decide ((6 : Int) ≤ lev) = true := decide_eq_true (by omega)
    clear hkk
    go_enter Tryz.func28, Tryz.ntmps28
    go_wp2_with (go_at_call 45; refine (HFM.out _ hx0).mono ?_; rintro e w1 ⟨rfl, x1⟩; obtain ⟨k0, k1, k2, k3, k4, k5⟩ := HCL.out _ x1)
    go_returns
    exact ⟨rfl, hx0.trans x1⟩
  rw [if_neg h2] at hX
  obtain ⟨F, hF⟩ : ∃ F, F = rs.all refB := ⟨_, rfl⟩
  rw [← hF]
  have HF : Hid (F = (rs.drop 0).all refB) := Lib.hid hF
  clear hF
  have ways : (((kind == 5) = true ∧ (kind != 2) = true ∧ (kind == 2) = false ∧ (kind != 3) = true ∧ (kind == 3) = false ∧ decide ((6 : Int) ≤ lev) = false) ∨ ((kind == 5) = false ∧ (kind != 2) = true ∧ (kind == 2) = false ∧ (kind != 3) = true ∧ (kind == 3) = false ∧ decide ((6 : Int) ≤ lev) = decide ((6 : Int) ≤ lev))) ∧ X = (if nb = false then 5 else 0) ∨
      ((kind = 2 ∨ kind = 3) ∧ X = 0) := by
    by_cases q2 : kind = 2 ∨ kind = 3
    · refine .inr ⟨q2, ?_⟩
      rw [hX, if_neg (by omega)]
    · refine .inl ⟨?_, ?_⟩
      · obtain ⟨a1, a2⟩ := ne_facts (x := kind) (k := 2) (by omega)
        obtain ⟨b1, b2⟩ := ne_facts (x := kind) (k := 3) (by omega)
        by_cases h5 : kind = 5
        · exact .inl ⟨by rw [h5]; rfl, a2, a1, b2, b1, decide_eq_false (fun h => h2 ⟨h5, by omega⟩)⟩
        · exact .inr ⟨(ne_facts h5).1, a2, a1, b2, b1, rfl⟩
      · rw [hX]
        have : kind = 1 ∨ kind = 4 ∨ kind = 5 := by omega
        simp [this]
  have HX := Lib.hid hX
  clear hX h2 hkk HX
  obtain ⟨V, hV⟩ : ∃ V, V = if F = false then 5 else ae := ⟨_, rfl⟩
  have HVV := Lib.hid hV
  rw [← hV]
  clear hV
  rcases ways with ⟨ways, hX⟩ | ⟨ways, rfl⟩
  · cases nb
    · rw [if_pos rfl] at hX
      subst hX
      rw [if_pos (by decide)]
      rcases ways with ⟨f5, f2, f2', f3, f3', g6⟩ | ⟨f5, f2, f2', f3, f3', -⟩
      all_goals
        go_enter Tryz.func28, Tryz.ntmps28
        go_wp2_with (first | (go_at_call 45; refine (HFM.out _ hx0).mono ?_; rintro e w1 ⟨rfl, x1⟩; obtain ⟨k0, k1, k2, k3, k4, k5⟩ := HCL.out _ x1) | (go_at_call 27; refine (HNM.out _).mono ?_; rintro e w3 ⟨rfl, rfl⟩))
        go_returns
        exact ⟨rfl, hx0.trans x1⟩
    · rw [if_neg (by decide)] at hX
      subst hX
      rw [if_neg (by decide)]
      rcases ways with ⟨f5, f2, f2', f3, f3', g6⟩ | ⟨f5, f2, f2', f3, f3', -⟩
      all_goals
        go_enter Tryz.func28, Tryz.ntmps28
        go_wp2_with (first | (go_at_call 45; refine (HFM.out _ hx0).mono ?_; rintro e w1 ⟨rfl, x1⟩; obtain ⟨k0, k1, k2, k3, k4, k5⟩ := HCL.out _ x1) | (go_at_call 27; refine (HNM.out _).mono ?_; rintro e w3 ⟨rfl, rfl⟩))
        go_loopw [4] (fun i' wr => ∃ k : Nat, k ≤ N ∧ i' = .int .i64 k ∧ Ext (w.alloc (.cells #[.int .i64 kind, .string nm, .slice r N rc, .slice a A ac, .slice b B bc, .int .i64 lev] 49)) wr ∧ Hid (F = (rs.drop k).all refB)) (fun i' _ => N - (RowKit.intOf i').toNat)
        case atStart => exact ⟨0, by omega, rfl, x1, HF⟩
        case round =>
          obtain ⟨k, hk, rfl, hx, hb⟩ := hrel
          clear HF x1 k0 k1 k2 k3 k4 k5
          obtain ⟨k0, k1, k2, k3, k4, k5⟩ := HCL.out _ hx
          by_cases hlt : k < N
          · have hkl : k < rs.length := by rw [← HN.out]; exact hlt
            obtain ⟨g, o, rfl, c0, c1⟩ := (HR.out.ext (hx0.trans hx)) k hkl
            obtain ⟨n, d, hq⟩ : ∃ n d, rs[k] = (n, d) := ⟨_, _, rfl⟩
            rw [hq] at c0 c1
            have hst := hb.out
            rw [List.drop_eq_getElem_cons hkl, List.all_cons, hq] at hst
            have hds := HT.out _ (List.getElem_mem hkl)
            rw [hq] at hds
            have hx1 := hx.alloc (.cells #[.string n, .string d] 51)
            have hz := @size0 d
            unfold refB at hst
            dsimp only at hst
            generalize decide (d.size = 0) = z at hst hz
            have HDS := Lib.hid hds
            clear hq hb hds hkl
            cases hp : nameB n.data.toList
            · have hf : Hid (F = false) := Lib.hid (by rw [hst, hp]; rfl)
              clear hst hz
              go_wp2_with (go_at_call 27; refine (name07_any _ (by first | exact HDS.out.1 | exact HDS.out.2) _).mono ?_; rintro e w3 ⟨rfl, rfl⟩)
              go_returns
              exact ⟨ret_int (by rw [HVV.out, hf.out]; rfl), hx0.trans hx1⟩
            · skip
              cases z
              · cases hq2 : nameB d.data.toList
                · have hf : Hid (F = false) := Lib.hid (by rw [hst, hp, hq2]; rfl)
                  clear hst
                  go_wp2_with (go_at_call 27; refine (name07_any _ (by first | exact HDS.out.1 | exact HDS.out.2) _).mono ?_; rintro e w3 ⟨rfl, rfl⟩)
                  go_returns
                  exact ⟨ret_int (by rw [HVV.out, hf.out]; rfl), hx0.trans hx1⟩
                · have hf : Hid (F = (rs.drop (k + 1)).all refB) := Lib.hid (by rw [hst, hp, hq2]; rfl)
                  clear hst
                  go_wp2_with (go_at_call 27; refine (name07_any _ (by first | exact HDS.out.1 | exact HDS.out.2) _).mono ?_; rintro e w3 ⟨rfl, rfl⟩)
                  go_roundw
                  case rel => exact ⟨k + 1, by omega, by go_num, hx1, hf⟩
                  case measure => simp [RowKit.intOf]; omega
              · have hf : Hid (F = (rs.drop (k + 1)).all refB) := Lib.hid (by rw [hst, hp]; rfl)
                clear hst
                go_wp2_with (go_at_call 27; refine (name07_any _ (by first | exact HDS.out.1 | exact HDS.out.2) _).mono ?_; rintro e w3 ⟨rfl, rfl⟩)
                go_roundw
                case rel => exact ⟨k + 1, by omega, by go_num, hx1, hf⟩
                case measure => simp [RowKit.intOf]; omega
          · have hf : Hid (F = true) := Lib.hid (by rw [hb.out, List.drop_eq_nil_of_le (by rw [← HN.out]; omega)]; rfl)
            clear hb
            go_wp2_with (go_at_call 46; refine (HAT.out _ (hx0.trans hx)).mono ?_; rintro e w3 ⟨rfl, x3⟩)
            go_returns
            exact ⟨ret_int (by rw [HVV.out, hf.out]; rfl), (hx0.trans hx).trans x3⟩
  · rw [if_neg (by decide)]
    rcases ways with rfl | rfl
    · skip
      go_enter Tryz.func28, Tryz.ntmps28
      go_wp2_with (first | (go_at_call 45; refine (HFM.out _ hx0).mono ?_; rintro e w1 ⟨rfl, x1⟩; obtain ⟨k0, k1, k2, k3, k4, k5⟩ := HCL.out _ x1) | (go_at_call 27; refine (HNM.out _).mono ?_; rintro e w3 ⟨rfl, rfl⟩))
      go_loopw [4] (fun i' wr => ∃ k : Nat, k ≤ N ∧ i' = .int .i64 k ∧ Ext (w.alloc (.cells #[.int .i64 2, .string nm, .slice r N rc, .slice a A ac, .slice b B bc, .int .i64 lev] 49)) wr ∧ Hid (F = (rs.drop k).all refB)) (fun i' _ => N - (RowKit.intOf i').toNat)
      case atStart => exact ⟨0, by omega, rfl, x1, HF⟩
      case round =>
        obtain ⟨k, hk, rfl, hx, hb⟩ := hrel
        clear HF x1 k0 k1 k2 k3 k4 k5
        obtain ⟨k0, k1, k2, k3, k4, k5⟩ := HCL.out _ hx
        by_cases hlt : k < N
        · have hkl : k < rs.length := by rw [← HN.out]; exact hlt
          obtain ⟨g, o, rfl, c0, c1⟩ := (HR.out.ext (hx0.trans hx)) k hkl
          obtain ⟨n, d, hq⟩ : ∃ n d, rs[k] = (n, d) := ⟨_, _, rfl⟩
          rw [hq] at c0 c1
          have hst := hb.out
          rw [List.drop_eq_getElem_cons hkl, List.all_cons, hq] at hst
          have hds := HT.out _ (List.getElem_mem hkl)
          rw [hq] at hds
          have hx1 := hx.alloc (.cells #[.string n, .string d] 51)
          have hz := @size0 d
          unfold refB at hst
          dsimp only at hst
          generalize decide (d.size = 0) = z at hst hz
          have HDS := Lib.hid hds
          clear hq hb hds hkl
          cases hp : nameB n.data.toList
          · have hf : Hid (F = false) := Lib.hid (by rw [hst, hp]; rfl)
            clear hst hz
            go_wp2_with (go_at_call 27; refine (name07_any _ (by first | exact HDS.out.1 | exact HDS.out.2) _).mono ?_; rintro e w3 ⟨rfl, rfl⟩)
            go_returns
            exact ⟨ret_int (by rw [HVV.out, hf.out]; rfl), hx0.trans hx1⟩
          · skip
            cases z
            · cases hq2 : nameB d.data.toList
              · have hf : Hid (F = false) := Lib.hid (by rw [hst, hp, hq2]; rfl)
                clear hst
                go_wp2_with (go_at_call 27; refine (name07_any _ (by first | exact HDS.out.1 | exact HDS.out.2) _).mono ?_; rintro e w3 ⟨rfl, rfl⟩)
                go_returns
                exact ⟨ret_int (by rw [HVV.out, hf.out]; rfl), hx0.trans hx1⟩
              · have hf : Hid (F = (rs.drop (k + 1)).all refB) := Lib.hid (by rw [hst, hp, hq2]; rfl)
                clear hst
                go_wp2_with (go_at_call 27; refine (name07_any _ (by first | exact HDS.out.1 | exact HDS.out.2) _).mono ?_; rintro e w3 ⟨rfl, rfl⟩)
                go_roundw
                case rel => exact ⟨k + 1, by omega, by go_num, hx1, hf⟩
                case measure => simp [RowKit.intOf]; omega
            · have hf : Hid (F = (rs.drop (k + 1)).all refB) := Lib.hid (by rw [hst, hp]; rfl)
              clear hst
              go_wp2_with (go_at_call 27; refine (name07_any _ (by first | exact HDS.out.1 | exact HDS.out.2) _).mono ?_; rintro e w3 ⟨rfl, rfl⟩)
              go_roundw
              case rel => exact ⟨k + 1, by omega, by go_num, hx1, hf⟩
              case measure => simp [RowKit.intOf]; omega
        · have hf : Hid (F = true) := Lib.hid (by rw [hb.out, List.drop_eq_nil_of_le (by rw [← HN.out]; omega)]; rfl)
          clear hb
          go_wp2_with (go_at_call 46; refine (HAT.out _ (hx0.trans hx)).mono ?_; rintro e w3 ⟨rfl, x3⟩)
          go_returns
          exact ⟨ret_int (by rw [HVV.out, hf.out]; rfl), (hx0.trans hx).trans x3⟩
    · skip
      go_enter Tryz.func28, Tryz.ntmps28
      go_wp2_with (first | (go_at_call 45; refine (HFM.out _ hx0).mono ?_; rintro e w1 ⟨rfl, x1⟩; obtain ⟨k0, k1, k2, k3, k4, k5⟩ := HCL.out _ x1) | (go_at_call 27; refine (HNM.out _).mono ?_; rintro e w3 ⟨rfl, rfl⟩))
      go_loopw [4] (fun i' wr => ∃ k : Nat, k ≤ N ∧ i' = .int .i64 k ∧ Ext (w.alloc (.cells #[.int .i64 3, .string nm, .slice r N rc, .slice a A ac, .slice b B bc, .int .i64 lev] 49)) wr ∧ Hid (F = (rs.drop k).all refB)) (fun i' _ => N - (RowKit.intOf i').toNat)
      case atStart => exact ⟨0, by omega, rfl, x1, HF⟩
      case round =>
        obtain ⟨k, hk, rfl, hx, hb⟩ := hrel
        clear HF x1 k0 k1 k2 k3 k4 k5
        obtain ⟨k0, k1, k2, k3, k4, k5⟩ := HCL.out _ hx
        by_cases hlt : k < N
        · have hkl : k < rs.length := by rw [← HN.out]; exact hlt
          obtain ⟨g, o, rfl, c0, c1⟩ := (HR.out.ext (hx0.trans hx)) k hkl
          obtain ⟨n, d, hq⟩ : ∃ n d, rs[k] = (n, d) := ⟨_, _, rfl⟩
          rw [hq] at c0 c1
          have hst := hb.out
          rw [List.drop_eq_getElem_cons hkl, List.all_cons, hq] at hst
          have hds := HT.out _ (List.getElem_mem hkl)
          rw [hq] at hds
          have hx1 := hx.alloc (.cells #[.string n, .string d] 51)
          have hz := @size0 d
          unfold refB at hst
          dsimp only at hst
          generalize decide (d.size = 0) = z at hst hz
          have HDS := Lib.hid hds
          clear hq hb hds hkl
          cases hp : nameB n.data.toList
          · have hf : Hid (F = false) := Lib.hid (by rw [hst, hp]; rfl)
            clear hst hz
            go_wp2_with (go_at_call 27; refine (name07_any _ (by first | exact HDS.out.1 | exact HDS.out.2) _).mono ?_; rintro e w3 ⟨rfl, rfl⟩)
            go_returns
            exact ⟨ret_int (by rw [HVV.out, hf.out]; rfl), hx0.trans hx1⟩
          · skip
            cases z
            · cases hq2 : nameB d.data.toList
              · have hf : Hid (F = false) := Lib.hid (by rw [hst, hp, hq2]; rfl)
                clear hst
                go_wp2_with (go_at_call 27; refine (name07_any _ (by first | exact HDS.out.1 | exact HDS.out.2) _).mono ?_; rintro e w3 ⟨rfl, rfl⟩)
                go_returns
                exact ⟨ret_int (by rw [HVV.out, hf.out]; rfl), hx0.trans hx1⟩
              · have hf : Hid (F = (rs.drop (k + 1)).all refB) := Lib.hid (by rw [hst, hp, hq2]; rfl)
                clear hst
                go_wp2_with (go_at_call 27; refine (name07_any _ (by first | exact HDS.out.1 | exact HDS.out.2) _).mono ?_; rintro e w3 ⟨rfl, rfl⟩)
                go_roundw
                case rel => exact ⟨k + 1, by omega, by go_num, hx1, hf⟩
                case measure => simp [RowKit.intOf]; omega
            · have hf : Hid (F = (rs.drop (k + 1)).all refB) := Lib.hid (by rw [hst, hp]; rfl)
              clear hst
              go_wp2_with (go_at_call 27; refine (name07_any _ (by first | exact HDS.out.1 | exact HDS.out.2) _).mono ?_; rintro e w3 ⟨rfl, rfl⟩)
              go_roundw
              case rel => exact ⟨k + 1, by omega, by go_num, hx1, hf⟩
              case measure => simp [RowKit.intOf]; omega
        · have hf : Hid (F = true) := Lib.hid (by rw [hb.out, List.drop_eq_nil_of_le (by rw [← HN.out]; omega)]; rfl)
          clear hb
          go_wp2_with (go_at_call 46; refine (HAT.out _ (hx0.trans hx)).mono ?_; rintro e w3 ⟨rfl, x3⟩)
          go_returns
          exact ⟨ret_int (by rw [HVV.out, hf.out]; rfl), (hx0.trans hx).trans x3⟩
end Go.Proofs.YtnjnfkfmkbnkhaaGreatDoor.Tr
