/- Packed texts: TrePrint, TreToks, TrePar, TreRtp -/
import Derived.Test.YtjaeedbjknejdaaGreatDoorPr33
set_option linter.unusedVariables false
set_option linter.unusedSimpArgs false
set_option maxHeartbeats 16000000
set_option maxRecDepth 100000
namespace Go.Proofs.YtjaeedbjknejdaaGreatDoor.Tr
open Go.Lib Fx Lx
def valueT (s : ByteArray) : List UInt8 := if nameB s.data.toList = true then s.data.toList else if (parse s.data.toList).2 = 0 then s.data.toList else (quote s.data.toList).1
def attrT (q : Two) : List UInt8 := q.1.data.toList ++ 61 :: valueT q.2
def sepT (sep : List UInt8) : List (List UInt8) -> List UInt8
  | [] => []
  | [x] => x
  | x :: y :: r => x ++ sep ++ sepT sep (y :: r)
def listedT (a : List Two) : List UInt8 := 91 :: (sepT [44, 32] (a.map attrT) ++ [93])
def tailT (a : List Two) : List UInt8 := if a.isEmpty = true then [59] else 32 :: (listedT a ++ [59])
def refT (r : Two) : List UInt8 := r.1.data.toList ++ (if r.2.size = 0 then [] else 58 :: r.2.data.toList)
def arrow (d : Bool) : List UInt8 := if d then [32, 45, 62, 32] else [32, 45, 45, 32]
def indT (n : Nat) : List UInt8 := List.replicate (4 * n) 32
mutual
def printS (d : Bool) (lev : Nat) : Stm -> List UInt8
  | .mk k n r a b =>
    if k = 1 then indT lev ++ n.data.toList ++ tailT a ++ [10]
    else if k = 2 then indT lev ++ sepT (arrow d) (r.map refT) ++ tailT a ++ [10]
    else if k = 3 then indT lev ++ n.data.toList ++ [32] ++ listedT a ++ [59, 10]
    else if k = 4 then indT lev ++ [115, 101, 116, 32] ++ n.data.toList ++ [32, 61, 32] ++ valueT (a.headD (⟨#[]⟩, ⟨#[]⟩)).2 ++ [59, 10]
    else indT lev ++ [99, 108, 117, 115, 116, 101, 114, 32] ++ n.data.toList ++ [32, 123, 10] ++ printL d (lev + 1) b ++ indT lev ++ [125, 10]
def printL (d : Bool) (lev : Nat) : List Stm -> List UInt8
  | [] => []
  | x :: r => printS d lev x ++ printL d lev r
end
def printT (d : Bool) (name : ByteArray) (body : List Stm) : List UInt8 :=
  (if d then [100, 105, 103, 114, 97, 112, 104, 32] else [103, 114, 97, 112, 104, 32]) ++ name.data.toList ++ [32, 123, 10] ++ printL d 1 body ++ [125, 10]
theorem printL_nil (d : Bool) (lev : Nat) : printL d lev [] = [] := by rw [printL]
theorem printL_cons (d : Bool) (lev : Nat) (x : Stm) (r : List Stm) : printL d lev (x :: r) = printS d lev x ++ printL d lev r := by rw [printL]
theorem printL_snoc (d : Bool) (lev : Nat) (x : Stm) : ∀ L : List Stm, printL d lev (L ++ [x]) = printL d lev L ++ printS d lev x
  | [] => by rw [List.nil_append, printL_cons, printL_nil, List.append_nil, List.nil_append]
  | y :: r => by rw [List.cons_append, printL_cons, printL_cons, printL_snoc d lev x r, List.append_assoc]
end Go.Proofs.YtjaeedbjknejdaaGreatDoor.Tr

namespace Go.Proofs.YtjaeedbjknejdaaGreatDoor.Tr
open Go.Lib Fx Lx
def mk (m : List UInt8) (ln : Int) : Tok := ⟨5, m, 0, ln⟩
def nm (x : ByteArray) (ln : Int) : Tok := ⟨1, x.data.toList, 0, ln⟩
def valTok (s : ByteArray) (ln : Int) : Tok := if nameB s.data.toList = true then ⟨1, s.data.toList, 0, ln⟩ else if (parse s.data.toList).2 = 0 then ⟨3, [], (parse s.data.toList).1, ln⟩ else ⟨4, s.data.toList, 0, ln⟩
def attrToks (ln : Int) (q : Two) : List Tok := [nm q.1 ln, mk [61] ln, valTok q.2 ln]
def sepToks (m : Tok) : List (List Tok) -> List Tok
  | [] => []
  | [x] => x
  | x :: y :: r => x ++ m :: sepToks m (y :: r)
def listToks (ln : Int) (a : List Two) : List Tok := mk [91] ln :: (sepToks (mk [44] ln) (a.map (attrToks ln)) ++ [mk [93] ln])
def tailToks (ln : Int) (a : List Two) : List Tok := (if a.isEmpty = true then [] else listToks ln a) ++ [mk [59] ln]
def refToks (ln : Int) (r : Two) : List Tok := nm r.1 ln :: (if r.2.size = 0 then [] else [mk [58] ln, nm r.2 ln])
def arrowM (d : Bool) : List UInt8 := if d then [45, 62] else [45, 45]
mutual
def linesS : Stm -> Nat
  | .mk k _ _ _ b => if k = 5 then 2 + linesL b else 1
def linesL : List Stm -> Nat
  | [] => 0
  | x :: r => linesS x + linesL r
end
mutual
def toksS (d : Bool) (ln : Int) : Stm -> List Tok
  | .mk k n r a b =>
    if k = 1 then nm n ln :: tailToks ln a
    else if k = 2 then sepToks (mk (arrowM d) ln) (r.map (refToks ln)) ++ tailToks ln a
    else if k = 3 then ⟨2, n.data.toList, 0, ln⟩ :: (listToks ln a ++ [mk [59] ln])
    else if k = 4 then [⟨2, [115, 101, 116], 0, ln⟩, nm n ln, mk [61] ln, valTok (a.headD (⟨#[]⟩, ⟨#[]⟩)).2 ln, mk [59] ln]
    else ⟨2, [99, 108, 117, 115, 116, 101, 114], 0, ln⟩ :: nm n ln :: mk [123] ln :: (toksL d (ln + 1) b ++ [mk [125] (ln + 1 + linesL b)])
def toksL (d : Bool) (ln : Int) : List Stm -> List Tok
  | [] => []
  | x :: r => toksS d ln x ++ toksL d (ln + linesS x) r
end
def toksT (d : Bool) (name : ByteArray) (body : List Stm) : List Tok :=
  ⟨2, if d then [100, 105, 103, 114, 97, 112, 104] else [103, 114, 97, 112, 104], 0, 1⟩ :: nm name 1 :: mk [123] 1 :: (toksL d 2 body ++ [mk [125] (2 + linesL body)])
def okS (x : Stm) : Prop := formB x = true /\ ((x.kind = 1 \/ x.kind = 4 \/ x.kind = 5) -> nameB x.name.data.toList = true) /\ x.refs.all refB = true /\ (∀ q ∈ x.attrs, (x.kind ≠ 4 -> nameB q.1.data.toList = true) /\ q.2.size <= 32 /\ q.2.data.toList.all okT = true)
theorem attrsGo_ok (kind : Int) : ∀ (L D : List Two), attrsGo kind L D = 0 -> ∀ q ∈ L, (kind ≠ 4 -> nameB q.1.data.toList = true) /\ q.2.size <= 32 /\ q.2.data.toList.all okT = true
  | x :: r, D, h, q, hq => by
    rw [attrsGo] at h
    split at h
    · exact absurd h (by decide)
    · rename_i h1
      split at h
      · exact absurd h (by decide)
      split at h
      · exact absurd h (by decide)
      rename_i h3
      split at h
      · exact absurd h (by decide)
      rename_i h4
      rcases List.mem_cons.1 hq with rfl | hq
      · refine ⟨fun hk => ?_, by omega, by simpa using h4⟩
        cases hn : nameB q.1.data.toList
        · exact absurd ⟨hk, hn⟩ h1
        rfl
      exact attrsGo_ok kind r _ h q hq
theorem okS_of (x : Stm) (lev : Nat) (h : stmE (x, lev) = 0) : okS x := by
  unfold stmE at h
  dsimp only at h
  split at h
  · exact absurd h (by decide)
  rename_i h1
  split at h
  · exact absurd h (by decide)
  split at h
  · exact absurd h (by decide)
  rename_i h3
  split at h
  · exact absurd h (by decide)
  rename_i h4
  refine ⟨by simpa using h1, fun hk => ?_, by simpa using h4, ?_⟩
  · cases hn : nameB x.name.data.toList
    · exact absurd ⟨hk, hn⟩ h3
    rfl
  unfold attrsE at h
  split at h
  · exact absurd h (by decide)
  exact attrsGo_ok x.kind x.attrs [] h
theorem firstE_zero : ∀ (l : List (Stm × Nat)), firstE l = 0 -> ∀ p ∈ l, stmE p = 0
  | q :: r, h, p, hp => by
    rw [firstE] at h
    by_cases hq : stmE q = 0
    · rw [if_neg (fun h' => h' hq)] at h
      rcases List.mem_cons.1 hp with rfl | hp
      · exact hq
      exact firstE_zero r h p hp
    · rw [if_pos hq] at h; exact absurd h hq
theorem valid_ok (name : ByteArray) (L : List Stm) (h : validE name L = 0) : nameB name.data.toList = true /\ (flatL 0 L).length <= 512 /\ (∀ p ∈ flatL 0 L, stmE p = 0) /\ AllL okS L := by
  unfold validE at h
  split at h
  · exact absurd h (by decide)
  rename_i h1
  split at h
  · exact absurd h (by decide)
  rename_i h2
  have h3 := firstE_zero _ h
  exact ⟨by simpa using h1, by omega, h3, allL_flat okS 0 L fun q hq => okS_of q.1 q.2 (h3 q hq)⟩
theorem sep_of {c : UInt8} (h : c = 10 \/ c = 32 \/ c = 58 \/ c = 59 \/ c = 61 \/ c = 44 \/ c = 93) : sepB c := by
  rcases h with rfl | rfl | rfl | rfl | rfl | rfl | rfl <;> (unfold sepB; decide)
def SepH (t : List UInt8) : Prop := ∃ c r, t = c :: r /\ sepB c
theorem SepH.at {c : UInt8} (r : List UInt8) (h : c = 10 \/ c = 32 \/ c = 58 \/ c = 59 \/ c = 61 \/ c = 44 \/ c = 93) : SepH (c :: r) := ⟨c, r, rfl, sep_of h⟩
theorem Z_nm (ln : Int) (L : List Tok) (x : ByteArray) (t : List UInt8) (hx : nameB x.data.toList = true) (ht : SepH t) : Z ln L (x.data.toList ++ t) = Z ln (L ++ [nm x ln]) t := by
  obtain ⟨c, r, rfl, hc⟩ := ht
  have hw : Lx.written ⟨1, x.data.toList, 0, 0⟩ = (x.data.toList, true) := by unfold Lx.written; rw [if_pos rfl]; simp [hx]
  have h := Z_sep ln L r hc ⟨1, x.data.toList, 0, 0⟩ (by rw [hw])
  rw [hw] at h
  exact h
theorem Z_kw (ln : Int) (L : List Tok) (x t : List UInt8) (hx : kw x = true) (ht : SepH t) : Z ln L (x ++ t) = Z ln (L ++ [⟨2, x, 0, ln⟩]) t := by
  obtain ⟨c, r, rfl, hc⟩ := ht
  have hw : Lx.written ⟨2, x, 0, 0⟩ = (x, true) := by unfold Lx.written; rw [if_neg (show ¬ (2 : Int) = 1 by decide), if_pos rfl]; simp [hx]
  have h := Z_sep ln L r hc ⟨2, x, 0, 0⟩ (by rw [hw])
  rw [hw] at h
  exact h
theorem okT_plain (l : List UInt8) (h : l.all okT = true) : plainB l = true := by
  unfold plainB
  rw [List.all_eq_true] at h ⊢
  intro b hb
  have := h b hb
  unfold okT at this
  simp only [Bool.and_eq_true, decide_eq_true_eq] at this ⊢
  exact this
theorem quote_ok (s : ByteArray) (h1 : s.size <= 32) (h2 : s.data.toList.all okT = true) : (quote s.data.toList).2 = 0 := by
  unfold quote
  rw [if_neg (by rw [<- size_len']; omega), okT_plain _ h2]; rfl
where size_len' : s.size = s.data.toList.length := by simp
theorem Z_val (ln : Int) (L : List Tok) (s : ByteArray) (t : List UInt8) (h1 : s.size <= 32) (h2 : s.data.toList.all okT = true) (ht : SepH t) : Z ln L (valueT s ++ t) = Z ln (L ++ [valTok s ln]) t := by
  obtain ⟨c, r, rfl, hc⟩ := ht
  unfold valueT valTok
  by_cases n1 : nameB s.data.toList = true
  · rw [if_pos n1, if_pos n1]
    exact Z_nm ln L s _ n1 ⟨c, r, rfl, hc⟩
  rw [if_neg n1, if_neg n1]
  by_cases n2 : (parse s.data.toList).2 = 0
  · rw [if_pos n2, if_pos n2]
    obtain ⟨e, b1, b2⟩ := exact_ok s.data.toList (parse s.data.toList).1 (by rw [<- n2])
    have hw : Lx.written ⟨3, [], (parse s.data.toList).1, 0⟩ = (s.data.toList, true) := by
      unfold Lx.written
      rw [if_neg (show ¬ (3 : Int) = 1 by decide), if_neg (show ¬ (3 : Int) = 2 by decide), if_pos rfl]
      dsimp only
      rw [e]
      simp [b1, b2]
    have h := Z_sep ln L r hc ⟨3, [], (parse s.data.toList).1, 0⟩ (by rw [hw])
    rw [hw] at h
    exact h
  rw [if_neg n2, if_neg n2]
  have hq := quote_ok s h1 h2
  have hw : Lx.written ⟨4, s.data.toList, 0, 0⟩ = ((quote s.data.toList).1, true) := by
    unfold Lx.written
    rw [if_neg (show ¬ (4 : Int) = 1 by decide), if_neg (show ¬ (4 : Int) = 2 by decide), if_neg (show ¬ (4 : Int) = 3 by decide), if_pos rfl]
    dsimp only
    rw [hq]; rfl
  have h := Z_sep ln L r hc ⟨4, s.data.toList, 0, 0⟩ (by rw [hw])
  rw [hw] at h
  exact h
theorem Z_m1 (ln : Int) (L : List Tok) (c : UInt8) (t : List UInt8) (h : [c] ∈ marks) : Z ln L (c :: t) = Z ln (L ++ [mk [c] ln]) t := Z_mark ln L t [c] h
theorem Z_attr (ln : Int) (L : List Tok) (q : Two) (t : List UInt8) (h0 : nameB q.1.data.toList = true) (h1 : q.2.size <= 32) (h2 : q.2.data.toList.all okT = true) (ht : SepH t) : Z ln L (attrT q ++ t) = Z ln (L ++ attrToks ln q) t := by
  unfold attrT attrToks
  rw [List.append_assoc, List.cons_append, Z_nm ln L q.1 _ h0 (SepH.at _ (by decide)), Z_m1 _ _ _ _ (by decide), Z_val _ _ _ _ h1 h2 ht]
  simp
theorem Z_sepT (ln : Int) (sep : List UInt8) (m : Tok) (F : Two -> List UInt8) (G : Two -> List Tok) (p : Two -> Prop) (hsep : ∀ t, SepH (sep ++ t)) (hm : ∀ (L : List Tok) t, Z ln L (sep ++ t) = Z ln (L ++ [m]) t)
    (hF : ∀ (L : List Tok) q t, p q -> SepH t -> Z ln L (F q ++ t) = Z ln (L ++ G q) t) : ∀ (l : List Two), (∀ q ∈ l, p q) -> ∀ (L : List Tok) (t : List UInt8), SepH t -> Z ln L (sepT sep (l.map F) ++ t) = Z ln (L ++ sepToks m (l.map G)) t
  | [], _, L, t, _ => by simp [sepT, sepToks]
  | [x], h, L, t, ht => by
    show Z ln L (F x ++ t) = Z ln (L ++ G x) t
    exact hF L x t (h x (by simp)) ht
  | x :: y :: r, h, L, t, ht => by
    show Z ln L (F x ++ sep ++ sepT sep ((y :: r).map F) ++ t) = Z ln (L ++ (G x ++ m :: sepToks m ((y :: r).map G))) t
    rw [List.append_assoc, List.append_assoc, hF L x _ (h x (by simp)) (hsep _), hm, Z_sepT ln sep m F G p hsep hm hF (y :: r) (fun q hq => h q (by simp [hq])) _ t ht]
    simp
def okA (q : Two) : Prop := nameB q.1.data.toList = true /\ q.2.size <= 32 /\ q.2.data.toList.all okT = true
theorem Z_list (ln : Int) (L : List Tok) (a : List Two) (t : List UInt8) (h : ∀ q ∈ a, okA q) : Z ln L (listedT a ++ t) = Z ln (L ++ listToks ln a) t := by
  unfold listedT listToks
  rw [List.cons_append, Z_m1 _ _ _ _ (by decide), List.append_assoc, List.singleton_append]
  rw [Z_sepT ln [44, 32] (mk [44] ln) attrT (attrToks ln) okA (fun t => SepH.at _ (by decide)) (fun L t => by
    show Z ln L (44 :: 32 :: t) = _
    rw [Z_m1 _ _ _ _ (by decide), Z_sp]) (fun L q t hq ht => Z_attr ln L q t hq.1 hq.2.1 hq.2.2 ht) a h _ _ (SepH.at _ (by decide))]
  rw [Z_m1 _ _ _ _ (by decide)]
  simp
theorem Z_tail (ln : Int) (L : List Tok) (a : List Two) (t : List UInt8) (h : ∀ q ∈ a, okA q) : Z ln L (tailT a ++ t) = Z ln (L ++ tailToks ln a) t := by
  unfold tailT tailToks
  by_cases h0 : a.isEmpty = true
  · rw [if_pos h0, if_pos h0]
    show Z ln L (59 :: t) = _
    rw [Z_m1 _ _ _ _ (by decide)]; rfl
  rw [if_neg h0, if_neg h0]
  show Z ln L (32 :: (listedT a ++ [59] ++ t)) = _
  rw [Z_sp, List.append_assoc, Z_list ln L a _ h]
  show Z ln _ (59 :: t) = _
  rw [Z_m1 _ _ _ _ (by decide)]; simp
theorem Z_ref (ln : Int) (L : List Tok) (r : Two) (t : List UInt8) (h : refB r = true) (ht : SepH t) : Z ln L (refT r ++ t) = Z ln (L ++ refToks ln r) t := by
  unfold refB at h
  simp only [Bool.and_eq_true, Bool.or_eq_true, decide_eq_true_eq] at h
  unfold refT refToks
  by_cases h0 : r.2.size = 0
  · rw [if_pos h0, if_pos h0, List.append_nil, Z_nm ln L r.1 t h.1 ht]
  rw [if_neg h0, if_neg h0, List.append_assoc]
  show Z ln L (r.1.data.toList ++ (58 :: (r.2.data.toList ++ t))) = _
  rw [Z_nm ln L r.1 _ h.1 (SepH.at _ (by decide)), Z_m1 _ _ _ _ (by decide), Z_nm _ _ _ _ (h.2.resolve_left h0) ht]
  simp
theorem Z_arrow (d : Bool) (ln : Int) (L : List Tok) (t : List UInt8) : Z ln L (arrow d ++ t) = Z ln (L ++ [mk (arrowM d) ln]) t := by
  cases d
  · show Z ln L (32 :: ([45, 45] ++ 32 :: t)) = _
    rw [Z_sp, Z_mark ln L _ [45, 45] (by decide), Z_sp]; rfl
  show Z ln L (32 :: ([45, 62] ++ 32 :: t)) = _
  rw [Z_sp, Z_mark ln L _ [45, 62] (by decide), Z_sp]; rfl
theorem sep_arrow (d : Bool) (t : List UInt8) : SepH (arrow d ++ t) := by
  cases d <;> exact SepH.at _ (by decide)
theorem sep_tail (a : List Two) (t : List UInt8) : SepH (tailT a ++ t) := by
  unfold tailT
  by_cases h0 : a.isEmpty = true
  · rw [if_pos h0]; exact SepH.at _ (by decide)
  rw [if_neg h0]; exact SepH.at _ (by decide)
theorem Z_ind (ln : Int) (L : List Tok) (n : Nat) (t : List UInt8) : Z ln L (indT n ++ t) = Z ln L t := Z_sps ln L t _
mutual
theorem Z_stm (d : Bool) : ∀ (x : Stm) (lev : Nat) (ln : Int) (L : List Tok) (t : List UInt8), AllS okS x -> Z ln L (printS d lev x ++ t) = Z (ln + linesS x) (L ++ toksS d ln x) t
  | .mk k n r a b, lev, ln, L, t, h => by
    rw [AllS] at h
    obtain ⟨⟨hf, hn, hr, ha⟩, hb⟩ := h
    obtain ⟨hk, hk3, hk4⟩ := form_kinds _ hf
    simp only [Stm.kind, Stm.name, Stm.refs, Stm.attrs] at hn hr ha hk hk3 hk4
    rw [printS, toksS, linesS]
    have haA : k ≠ 4 -> ∀ q ∈ a, okA q := fun h4 q hq => ⟨(ha q hq).1 h4, (ha q hq).2⟩
    by_cases h1 : k = 1
    · rw [if_pos h1, if_pos h1, if_neg (by omega)]
      simp only [List.append_assoc]
      rw [Z_ind, Z_nm ln L n _ (hn (.inl h1)) (sep_tail _ _), Z_tail ln _ a _ (haA (by omega))]
      show Z ln _ (10 :: t) = _
      rw [Z_nl]; simp
    rw [if_neg h1, if_neg h1]
    by_cases h2 : k = 2
    · rw [if_pos h2, if_pos h2, if_neg (by omega)]
      simp only [List.append_assoc]
      rw [Z_ind, Z_sepT ln (arrow d) (mk (arrowM d) ln) refT (refToks ln) (fun q => refB q = true) (sep_arrow d) (fun L t => Z_arrow d ln L t) (fun L q t hq ht => Z_ref ln L q t hq ht) r (fun q hq => List.all_eq_true.1 hr q hq) L _ (sep_tail _ _), Z_tail ln _ a _ (haA (by omega))]
      show Z ln _ (10 :: t) = _
      rw [Z_nl]; simp
    rw [if_neg h2, if_neg h2]
    by_cases h3 : k = 3
    · rw [if_pos h3, if_pos h3, if_neg (by omega)]
      simp only [List.append_assoc]
      rw [Z_ind]
      show Z ln L (n.data.toList ++ 32 :: (listedT a ++ 59 :: 10 :: t)) = _
      rw [Z_kw ln L _ _ (hk3 h3) (SepH.at _ (by decide)), Z_sp, Z_list ln _ a _ (haA (by omega)), Z_m1 _ _ _ _ (by decide), Z_nl]
      simp
    rw [if_neg h3, if_neg h3]
    by_cases h4 : k = 4
    · rw [if_pos h4, if_pos h4, if_neg (by omega)]
      obtain ⟨q, rfl, _⟩ := hk4 h4
      obtain ⟨_, q1, q2⟩ := ha q (by simp)
      simp only [List.append_assoc]
      rw [Z_ind]
      show Z ln L ([115, 101, 116] ++ 32 :: (n.data.toList ++ 32 :: 61 :: 32 :: (valueT q.2 ++ 59 :: 10 :: t))) = _
      rw [Z_kw ln L _ _ (by decide) (SepH.at _ (by decide)), Z_sp, Z_nm ln _ n _ (hn (.inr (.inl h4))) (SepH.at _ (by decide)), Z_sp, Z_m1 _ _ _ _ (by decide), Z_sp, Z_val ln _ q.2 _ q1 q2 (SepH.at _ (by decide)), Z_m1 _ _ _ _ (by decide), Z_nl]
      simp
    rw [if_neg h4, if_neg h4]
    have h5 : k = 5 := by clear hk3 hk4; omega
    rw [if_pos h5]
    simp only [List.append_assoc]
    rw [Z_ind]
    show Z ln L ([99, 108, 117, 115, 116, 101, 114] ++ 32 :: (n.data.toList ++ 32 :: 123 :: 10 :: (printL d (lev + 1) b ++ (indT lev ++ 125 :: 10 :: t)))) = _
    rw [Z_kw ln L _ _ (by decide) (SepH.at _ (by decide)), Z_sp, Z_nm ln _ n _ (hn (.inr (.inr h5))) (SepH.at _ (by decide)), Z_sp, Z_m1 _ _ _ _ (by decide), Z_nl, Z_stms d b (lev + 1) (ln + 1) _ _ hb, Z_ind, Z_m1 _ _ _ _ (by decide), Z_nl]
    rw [show ln + 1 + (linesL b : Int) + 1 = ln + ((2 + linesL b : Nat) : Int) by omega]
    simp
theorem Z_stms (d : Bool) : ∀ (X : List Stm) (lev : Nat) (ln : Int) (L : List Tok) (t : List UInt8), AllL okS X -> Z ln L (printL d lev X ++ t) = Z (ln + linesL X) (L ++ toksL d ln X) t
  | [], lev, ln, L, t, _ => by rw [printL, toksL, linesL]; simp
  | x :: r, lev, ln, L, t, h => by
    rw [AllL] at h
    rw [printL, toksL, linesL, List.append_assoc, Z_stm d x lev ln L _ h.1, Z_stms d r lev (ln + linesS x) _ t h.2]
    rw [show ln + (linesS x : Int) + linesL r = ln + ((linesS x + linesL r : Nat) : Int) by omega]
    simp
end
theorem Z_tree (d : Bool) (name : ByteArray) (body : List Stm) (h1 : nameB name.data.toList = true) (h2 : AllL okS body) : Z 1 [] (printT d name body) = (toksT d name body, 0, 0) := by
  have hk : Z 1 [] (printT d name body) = Z 1 [⟨2, if d then [100, 105, 103, 114, 97, 112, 104] else [103, 114, 97, 112, 104], 0, 1⟩] (name.data.toList ++ 32 :: 123 :: 10 :: (printL d 1 body ++ [125, 10])) := by
    unfold printT
    simp only [List.append_assoc]
    cases d
    · show Z 1 [] ([103, 114, 97, 112, 104] ++ 32 :: (name.data.toList ++ 32 :: 123 :: 10 :: (printL false 1 body ++ [125, 10]))) = _
      rw [Z_kw 1 [] _ _ (by decide) (SepH.at _ (by decide)), Z_sp]; rfl
    show Z 1 [] ([100, 105, 103, 114, 97, 112, 104] ++ 32 :: (name.data.toList ++ 32 :: 123 :: 10 :: (printL true 1 body ++ [125, 10]))) = _
    rw [Z_kw 1 [] _ _ (by decide) (SepH.at _ (by decide)), Z_sp]; rfl
  rw [hk, Z_nm _ _ name _ h1 (SepH.at _ (by decide)), Z_sp, Z_m1 _ _ _ _ (by decide), Z_nl, Z_stms d body 1 _ _ _ h2, Z_m1 _ _ _ _ (by decide), Z_nl, Z_nil]
  unfold toksT
  simp
theorem tokenize_tree (d : Bool) (name : ByteArray) (body : List Stm) (h : validE name body = 0) (hl : (printT d name body).length <= 16384) : tokenize (printT d name body) = (toksT d name body, 0, 0) := by
  obtain ⟨h1, _, _, h2⟩ := valid_ok name body h
  unfold tokenize
  rw [if_neg (by omega)]
  exact Z_tree d name body h1 h2
end Go.Proofs.YtjaeedbjknejdaaGreatDoor.Tr

namespace Go.Proofs.YtjaeedbjknejdaaGreatDoor.Tr
open Go.Lib Fx Lx
inductive PR (α : Type) where
  | ok (v : α) (r : List Tok) : PR α
  | err (ln e : Int) : PR α
def PR.bind {α β : Type} (x : PR α) (g : α -> List Tok -> PR β) : PR β :=
  match x with
  | .ok v r => g v r
  | .err ln e => .err ln e
theorem PR.bind_ok {α β : Type} (v : α) (r : List Tok) (g : α -> List Tok -> PR β) : (PR.ok v r).bind g = g v r := rfl
theorem PR.bind_err {α β : Type} (ln e : Int) (g : α -> List Tok -> PR β) : (PR.err ln e).bind g = .err ln e := rfl
def lineOf (last : Int) : List Tok -> Int
  | t :: _ => t.line
  | [] => last
def isT (k : Int) (x : List UInt8) : List Tok -> Bool
  | t :: _ => decide (t.kind = k) && decide (t.text = x)
  | [] => false
def pMark (last : Int) (m : List UInt8) (r : List Tok) : PR Unit := if isT 5 m r = true then .ok () r.tail else .err (lineOf last r) 4
def pName (last : Int) : List Tok -> PR ByteArray
  | t :: r => if t.kind = 1 then .ok ⟨t.text.toArray⟩ r else .err t.line 4
  | [] => .err last 4
def pVal (last : Int) : List Tok -> PR ByteArray
  | t :: r => if t.kind = 1 \/ t.kind = 4 then .ok ⟨t.text.toArray⟩ r else if t.kind = 3 then .ok ⟨(fmt t.n).toArray⟩ r else .err t.line 4
  | [] => .err last 4
def pAttr (last : Int) (r : List Tok) : PR Two :=
  (pName last r).bind fun k r => (pMark last [61] r).bind fun _ r => (pVal last r).bind fun v r => .ok (k, v) r
def pAttrs (last : Int) : Nat -> List Two -> List Tok -> PR (List Two)
  | 0, _, _ => .err 0 0
  | f + 1, out, r =>
    if isT 5 [93] r = true then .ok out r.tail
    else (if out.isEmpty = true then PR.ok () r else pMark last [44] r).bind fun _ r => (pAttr last r).bind fun q r => pAttrs last f (out ++ [q]) r
def pAttrsB (last : Int) (r : List Tok) : PR (List Two) := (pMark last [91] r).bind fun _ r => pAttrs last (r.length + 1) [] r
def pOpt (last : Int) (r : List Tok) : PR (List Two) :=
  (if isT 5 [91] r = true then pAttrsB last r else .ok [] r).bind fun a r => (pMark last [59] r).bind fun _ r => .ok a r
def pPort (last : Int) (node : ByteArray) (r : List Tok) : PR Two :=
  if isT 5 [58] r = true then (pName last r.tail).bind fun p r => .ok (node, p) r else .ok (node, ⟨#[]⟩) r
def pRef (last : Int) (r : List Tok) : PR Two := (pName last r).bind fun n r => pPort last n r
def pRefs (last : Int) (ar : List UInt8) : Nat -> List Two -> List Tok -> PR (List Two)
  | 0, _, _ => .err 0 0
  | f + 1, out, r =>
    if (decide (out.length < 2) || isT 5 ar r) = true then (pMark last ar r).bind fun _ r => (pRef last r).bind fun q r => pRefs last ar f (out ++ [q]) r
    else .ok out r
def kNode : List UInt8 := [110, 111, 100, 101]
def kEdge : List UInt8 := [101, 100, 103, 101]
def kSet : List UInt8 := [115, 101, 116]
def kClus : List UInt8 := [99, 108, 117, 115, 116, 101, 114]
def pChain (last : Int) (ar : List UInt8) (r : List Tok) : PR Stm :=
  (pName last r).bind fun n r =>
    if (isT 5 [58] r || isT 5 ar r) = false then (pOpt last r).bind fun a r => .ok (.mk 1 n [] a []) r
    else (pPort last n r).bind fun q r => (pRefs last ar (r.length + 2) [q] r).bind fun rs r => (pOpt last r).bind fun a r => .ok (.mk 2 ⟨#[]⟩ rs a []) r
def pSet (last : Int) (r : List Tok) : PR Stm :=
  (pName last r).bind fun n r => (pMark last [61] r).bind fun _ r => (pVal last r).bind fun v r => (pMark last [59] r).bind fun _ r => .ok (.mk 4 n [] [(⟨#[]⟩, v)] []) r
def pDef (last : Int) (x : List UInt8) (r : List Tok) : PR Stm :=
  (pAttrsB last r).bind fun a r => (pMark last [59] r).bind fun _ r => .ok (.mk 3 ⟨x.toArray⟩ [] a []) r
def textOf : List Tok -> List UInt8
  | t :: _ => t.text
  | [] => []
mutual
def pStm (last : Int) (ar : List UInt8) : Nat -> Nat -> List Tok -> PR Stm
  | 0, _, _ => .err 0 0
  | f + 1, dep, r =>
    if (isT 2 kNode r || isT 2 kEdge r) = true then pDef last (textOf r) r.tail
    else if isT 2 kSet r = true then pSet last r.tail
    else if isT 2 kClus r = true then (pName last r.tail).bind fun n r => (pBlock last ar f (dep + 1) r).bind fun b r => .ok (.mk 5 n [] [] b) r
    else pChain last ar r
def pBlock (last : Int) (ar : List UInt8) : Nat -> Nat -> List Tok -> PR (List Stm)
  | 0, _, _ => .err 0 0
  | f + 1, dep, r => if isT 5 [123] r = true /\ 6 < dep then .err (lineOf last r) 2 else (pMark last [123] r).bind fun _ r => pStms last ar f dep [] r
def pStms (last : Int) (ar : List UInt8) : Nat -> Nat -> List Stm -> List Tok -> PR (List Stm)
  | 0, _, _, _ => .err 0 0
  | f + 1, dep, out, r =>
    if isT 5 [125] r = true then .ok out r.tail
    else (pStm last ar f dep r).bind fun s r => pStms last ar f dep (out ++ [s]) r
end
def pTree (last : Int) (f : Nat) (r : List Tok) : PR (Bool × ByteArray × List Stm) :=
  if isT 2 [100, 105, 103, 114, 97, 112, 104] r = true then (pName last r.tail).bind fun n r => (pBlock last [45, 62] f 0 r).bind fun b r => .ok (true, n, b) r
  else if isT 2 [103, 114, 97, 112, 104] r = true then (pName last r.tail).bind fun n r => (pBlock last [45, 45] f 0 r).bind fun b r => .ok (false, n, b) r
  else .err (lineOf last r) 4
theorem bs_mk (s : ByteArray) : (⟨s.data.toList.toArray⟩ : ByteArray) = s := by cases s; simp
theorem empty_of (s : ByteArray) (h : s.size = 0) : s = ⟨#[]⟩ := by
  apply ByteArray.ext; exact Array.eq_empty_of_size_eq_zero h
theorem pMark_mk (last : Int) (m : List UInt8) (ln : Int) (r : List Tok) : pMark last m (mk m ln :: r) = .ok () r := by
  unfold pMark isT mk
  rw [if_pos (by simp)]; rfl
theorem isT_mk (m x : List UInt8) (ln : Int) (r : List Tok) : isT 5 x (mk m ln :: r) = decide (m = x) := by unfold isT mk; simp
theorem isT_nm (x : List UInt8) (s : ByteArray) (ln : Int) (r : List Tok) : isT 5 x (nm s ln :: r) = false := by unfold isT nm; simp
theorem isT2_nm (x : List UInt8) (s : ByteArray) (ln : Int) (r : List Tok) : isT 2 x (nm s ln :: r) = false := by unfold isT nm; simp
theorem pName_nm (last : Int) (s : ByteArray) (ln : Int) (r : List Tok) : pName last (nm s ln :: r) = .ok s r := by
  unfold pName nm; dsimp only; rw [if_pos rfl, bs_mk]
theorem pVal_tok (last : Int) (s : ByteArray) (ln : Int) (r : List Tok) : pVal last (valTok s ln :: r) = .ok s r := by
  unfold pVal valTok
  dsimp only
  by_cases h1 : nameB s.data.toList = true
  · rw [if_pos h1, if_pos (.inl rfl), bs_mk]
  rw [if_neg h1]
  by_cases h2 : (parse s.data.toList).2 = 0
  · rw [if_pos h2]
    obtain ⟨e, _, _⟩ := exact_ok s.data.toList (parse s.data.toList).1 (by rw [<- h2])
    rw [if_neg (show ¬ ((3 : Int) = 1 \/ (3 : Int) = 4) by decide), if_pos rfl]
    dsimp only
    rw [e, bs_mk]
  rw [if_neg h2, if_pos (.inr rfl), bs_mk]
theorem pAttr_tok (last ln : Int) (q : Two) (r : List Tok) : pAttr last (attrToks ln q ++ r) = .ok q r := by
  unfold pAttr attrToks
  rw [List.cons_append, pName_nm, PR.bind_ok, List.cons_append, pMark_mk, PR.bind_ok, List.cons_append, List.nil_append, pVal_tok, PR.bind_ok]
theorem sepToks_cons (m : Tok) (x : List Tok) : ∀ l : List (List Tok), sepToks m (x :: l) = x ++ l.flatMap (fun y => m :: y)
  | [] => by simp [sepToks]
  | y :: l => by
    show x ++ m :: sepToks m (y :: l) = _
    rw [sepToks_cons m y l]; simp
theorem pAttrs_rest (last ln : Int) (r : List Tok) : ∀ (a out : List Two) (f : Nat), out ≠ [] -> a.length < f -> pAttrs last f out ((a.map (attrToks ln)).flatMap (fun y => mk [44] ln :: y) ++ mk [93] ln :: r) = .ok (out ++ a) r
  | [], out, f + 1, _, _ => by
    show pAttrs last (f + 1) out (mk [93] ln :: r) = _
    rw [pAttrs, if_pos (by rw [isT_mk]; rfl), List.append_nil]; rfl
  | q :: a, out, f + 1, h, hf => by
    have hl : a.length < f := by simpa using hf
    show pAttrs last (f + 1) out (mk [44] ln :: (attrToks ln q ++ (a.map (attrToks ln)).flatMap (fun y => mk [44] ln :: y)) ++ mk [93] ln :: r) = _
    rw [List.cons_append, pAttrs, if_neg (by rw [isT_mk]; decide), if_neg (by simpa using h), pMark_mk, PR.bind_ok, List.append_assoc, pAttr_tok, PR.bind_ok, pAttrs_rest last ln r a (out ++ [q]) f (by simp) hl]
    simp
theorem pAttrsB_list (last ln : Int) (a : List Two) (r : List Tok) : pAttrsB last (listToks ln a ++ r) = .ok a r := by
  unfold pAttrsB listToks
  rw [List.cons_append, pMark_mk, PR.bind_ok]
  cases a with
  | nil =>
    show pAttrs last ((mk [93] ln :: r).length + 1) [] (mk [93] ln :: r) = _
    rw [pAttrs, if_pos (by rw [isT_mk]; rfl)]; rfl
  | cons q a =>
    rw [List.map_cons, sepToks_cons]
    have e : attrToks ln q ++ (a.map (attrToks ln)).flatMap (fun y => mk [44] ln :: y) ++ [mk [93] ln] ++ r = attrToks ln q ++ ((a.map (attrToks ln)).flatMap (fun y => mk [44] ln :: y) ++ mk [93] ln :: r) := by simp
    rw [e]
    have hlen : a.length < (attrToks ln q ++ ((a.map (attrToks ln)).flatMap (fun y => mk [44] ln :: y) ++ mk [93] ln :: r)).length := by
      have : ∀ l : List Two, l.length <= ((l.map (attrToks ln)).flatMap (fun y => mk [44] ln :: y)).length := by
        intro l
        induction l with
        | nil => simp
        | cons x l ih => simp only [List.map_cons, List.flatMap_cons, List.length_append, List.length_cons] at ih ⊢; omega
      have := this a
      simp only [List.length_append, List.length_cons] at this ⊢
      omega
    rw [pAttrs, if_neg (by unfold attrToks; rw [List.cons_append, isT_nm]; decide), if_pos (by rfl), PR.bind_ok, pAttr_tok, PR.bind_ok, List.nil_append, pAttrs_rest last ln r a [q] _ (by simp) hlen]
    rfl
theorem pOpt_tail (last ln : Int) (a : List Two) (r : List Tok) : pOpt last (tailToks ln a ++ r) = .ok a r := by
  unfold pOpt tailToks
  by_cases h : a.isEmpty = true
  · rw [if_pos h, List.nil_append, List.cons_append, List.nil_append, if_neg (by rw [isT_mk]; decide), PR.bind_ok, pMark_mk, PR.bind_ok, List.isEmpty_iff.1 h]
  rw [if_neg h]
  have e : listToks ln a ++ [mk [59] ln] ++ r = listToks ln a ++ (mk [59] ln :: r) := by simp
  rw [e, if_pos (by unfold listToks; rw [List.cons_append, isT_mk]; rfl), pAttrsB_list, PR.bind_ok, pMark_mk, PR.bind_ok]
theorem pPort_tok (last ln : Int) (q : Two) (r : List Tok) (hr : isT 5 [58] r = false) : pPort last q.1 ((if q.2.size = 0 then [] else [mk [58] ln, nm q.2 ln]) ++ r) = .ok q r := by
  unfold pPort
  by_cases h : q.2.size = 0
  · rw [if_pos h, List.nil_append, if_neg (by rw [hr]; decide)]
    rw [show q = (q.1, q.2) from rfl, empty_of q.2 h]
  rw [if_neg h, List.cons_append, List.cons_append, List.nil_append, if_pos (by rw [isT_mk]; rfl)]
  show (pName last (nm q.2 ln :: r)).bind _ = _
  rw [pName_nm, PR.bind_ok]
theorem pRef_tok (last ln : Int) (q : Two) (r : List Tok) (hr : isT 5 [58] r = false) : pRef last (refToks ln q ++ r) = .ok q r := by
  unfold pRef refToks
  rw [List.cons_append, pName_nm, PR.bind_ok, pPort_tok last ln q r hr]
theorem tail_colon (ln : Int) (a : List Two) (r : List Tok) (x : List UInt8) (h : x = [58] \/ x = [45, 62] \/ x = [45, 45]) : isT 5 x (tailToks ln a ++ r) = false := by
  unfold tailToks listToks
  by_cases h0 : a.isEmpty = true
  · rw [if_pos h0, List.nil_append, List.cons_append, isT_mk]
    rcases h with rfl | rfl | rfl <;> decide
  rw [if_neg h0, List.cons_append, List.cons_append, isT_mk]
  rcases h with rfl | rfl | rfl <;> decide
theorem arrowM_or (d : Bool) : arrowM d = [58] \/ arrowM d = [45, 62] \/ arrowM d = [45, 45] := by cases d <;> simp [arrowM]
theorem pRefs_rest (last ln : Int) (d : Bool) (t : List Tok) (ht : isT 5 (arrowM d) t = false) (ht2 : isT 5 [58] t = false) : ∀ (l out : List Two) (f : Nat), 2 <= out.length + l.length -> l.length < f ->
    pRefs last (arrowM d) f out ((l.map (refToks ln)).flatMap (fun y => mk (arrowM d) ln :: y) ++ t) = .ok (out ++ l) t
  | [], out, f + 1, h, _ => by
    show pRefs last (arrowM d) (f + 1) out t = _
    rw [pRefs, ht, decide_eq_false (by simp at h; omega), if_neg (by decide), List.append_nil]
  | q :: l, out, f + 1, h, hf => by
    have hl : l.length < f := by simpa using hf
    have hcol : isT 5 [58] ((l.map (refToks ln)).flatMap (fun y => mk (arrowM d) ln :: y) ++ t) = false := by
      cases l with
      | nil => exact ht2
      | cons x l =>
        rw [List.map_cons, List.flatMap_cons, List.append_assoc, List.cons_append, isT_mk]
        cases d <;> decide
    rw [List.map_cons, List.flatMap_cons, List.append_assoc, List.cons_append, pRefs, if_pos (by rw [isT_mk]; simp), pMark_mk, PR.bind_ok, pRef_tok last ln q _ hcol, PR.bind_ok]
    rw [pRefs_rest last ln d t ht ht2 l (out ++ [q]) f (by simp at h ⊢; omega) hl]
    simp
theorem pChain_edge (last ln : Int) (d : Bool) (rs a : List Two) (r : List Tok) (h2 : 2 <= rs.length) :
    pChain last (arrowM d) (sepToks (mk (arrowM d) ln) (rs.map (refToks ln)) ++ (tailToks ln a ++ r)) = .ok (.mk 2 ⟨#[]⟩ rs a []) r := by
  match rs, h2 with
  | q :: q2 :: l, _ =>
    rw [List.map_cons, sepToks_cons]
    obtain ⟨t, ht⟩ : ∃ t, t = tailToks ln a ++ r := ⟨_, rfl⟩
    have h1 : isT 5 (arrowM d) t = false := by rw [ht]; exact tail_colon ln a r _ (arrowM_or d)
    have h3 : isT 5 [58] t = false := by rw [ht]; exact tail_colon ln a r _ (.inl rfl)
    rw [<- ht]
    have hcol : isT 5 [58] (((q2 :: l).map (refToks ln)).flatMap (fun y => mk (arrowM d) ln :: y) ++ t) = false := by
      rw [List.map_cons, List.flatMap_cons, List.append_assoc, List.cons_append, isT_mk]
      cases d <;> decide
    have hlen : (q2 :: l).length < (((q2 :: l).map (refToks ln)).flatMap (fun y => mk (arrowM d) ln :: y) ++ t).length + 2 := by
      have : ∀ m : List Two, m.length <= ((m.map (refToks ln)).flatMap (fun y => mk (arrowM d) ln :: y)).length := by
        intro m
        induction m with
        | nil => simp
        | cons x m ih => simp only [List.map_cons, List.flatMap_cons, List.length_append, List.length_cons] at ih ⊢; omega
      have := this (q2 :: l)
      rw [List.length_append]
      omega
    have hrest := pRefs_rest last ln d t h1 h3 (q2 :: l) [q] _ (by simp; omega) hlen
    have hwho : (isT 5 [58] ((if q.2.size = 0 then [] else [mk [58] ln, nm q.2 ln]) ++ (((q2 :: l).map (refToks ln)).flatMap (fun y => mk (arrowM d) ln :: y) ++ t)) || isT 5 (arrowM d) ((if q.2.size = 0 then [] else [mk [58] ln, nm q.2 ln]) ++ (((q2 :: l).map (refToks ln)).flatMap (fun y => mk (arrowM d) ln :: y) ++ t))) = true := by
      by_cases h0 : q.2.size = 0
      · rw [if_pos h0, List.nil_append, List.map_cons, List.flatMap_cons, List.append_assoc, List.cons_append, isT_mk, isT_mk]; simp
      rw [if_neg h0, List.cons_append, isT_mk]; simp
    have hport := pPort_tok last ln q _ hcol
    rw [List.append_assoc]
    generalize ((q2 :: l).map (refToks ln)).flatMap (fun y => mk (arrowM d) ln :: y) ++ t = T at *
    unfold pChain refToks
    rw [List.cons_append, pName_nm, PR.bind_ok, hwho, if_neg (by decide), hport, PR.bind_ok, hrest, PR.bind_ok, ht, pOpt_tail, PR.bind_ok]
    rfl
theorem pChain_node (last ln : Int) (d : Bool) (n : ByteArray) (a : List Two) (r : List Tok) : pChain last (arrowM d) (nm n ln :: (tailToks ln a ++ r)) = .ok (.mk 1 n [] a []) r := by
  unfold pChain
  rw [pName_nm, PR.bind_ok, tail_colon ln a r _ (.inl rfl), tail_colon ln a r _ (arrowM_or d), if_pos (by rfl), pOpt_tail, PR.bind_ok]
end Go.Proofs.YtjaeedbjknejdaaGreatDoor.Tr

namespace Go.Proofs.YtjaeedbjknejdaaGreatDoor.Tr
open Go.Lib Fx Lx
mutual
def fuelS : Stm -> Nat
  | .mk _ _ _ _ b => 2 + fuelL b
def fuelL : List Stm -> Nat
  | [] => 1
  | x :: r => 1 + max (fuelS x) (fuelL r)
end
theorem form_parts (k : Int) (n : ByteArray) (r a : List Two) (b : List Stm) (h : formB (.mk k n r a b) = true) :
    (k = 1 /\ r = [] /\ b = []) \/ (k = 2 /\ n = ⟨#[]⟩ /\ b = [] /\ 2 <= r.length) \/ (k = 3 /\ r = [] /\ b = [] /\ (n.data.toList = kNode \/ n.data.toList = kEdge)) \/ (k = 4 /\ r = [] /\ b = [] /\ ∃ v, a = [(⟨#[]⟩, v)]) \/ (k = 5 /\ r = [] /\ a = []) := by
  rw [formB_mk] at h
  by_cases h1 : k = 1
  · rw [if_pos h1] at h
    simp only [Bool.and_eq_true, decide_eq_true_eq] at h
    exact .inl ⟨h1, List.eq_nil_of_length_eq_zero h.1, List.eq_nil_of_length_eq_zero h.2⟩
  rw [if_neg h1] at h
  by_cases h2 : k = 2
  · rw [if_pos h2] at h
    simp only [Bool.and_eq_true, decide_eq_true_eq] at h
    exact .inr (.inl ⟨h2, empty_of n h.1.1, List.eq_nil_of_length_eq_zero h.1.2, h.2⟩)
  rw [if_neg h2] at h
  by_cases h3 : k = 3
  · rw [if_pos h3] at h
    simp only [Bool.and_eq_true, Bool.or_eq_true, decide_eq_true_eq] at h
    exact .inr (.inr (.inl ⟨h3, List.eq_nil_of_length_eq_zero h.1.1, List.eq_nil_of_length_eq_zero h.1.2, h.2⟩))
  rw [if_neg h3] at h
  by_cases h4 : k = 4
  · rw [if_pos h4] at h
    simp only [Bool.and_eq_true, decide_eq_true_eq] at h
    refine .inr (.inr (.inr (.inl ⟨h4, List.eq_nil_of_length_eq_zero h.1.1, List.eq_nil_of_length_eq_zero h.1.2, ?_⟩)))
    have h5 := h.2
    unfold setB at h5
    split at h5
    · rename_i q
      obtain ⟨x, v⟩ := q
      have : x.size = 0 := by simpa using h5
      exact ⟨v, by rw [empty_of x this]⟩
    exact absurd h5 (by decide)
  rw [if_neg h4] at h
  by_cases h5 : k = 5
  · rw [if_pos h5] at h
    simp only [Bool.and_eq_true, decide_eq_true_eq] at h
    exact .inr (.inr (.inr (.inr ⟨h5, List.eq_nil_of_length_eq_zero h.1, List.eq_nil_of_length_eq_zero h.2⟩)))
  rw [if_neg h5] at h; exact absurd h (by decide)
theorem stmE_depth (k : Int) (n : ByteArray) (r a : List Two) (b : List Stm) (dep : Nat) (h : stmE (.mk k n r a b, dep) = 0) (h5 : k = 5) : dep < 6 := by
  unfold stmE at h
  dsimp only at h
  split at h
  · exact absurd h (by decide)
  split at h
  · exact absurd h (by decide)
  rename_i h2
  have : ¬ (k = 5 /\ 6 <= dep) := h2
  omega
theorem isT2_tok (x y : List UInt8) (ln : Int) (r : List Tok) : isT 2 y (⟨2, x, 0, ln⟩ :: r) = decide (x = y) := by unfold isT; simp
theorem toksS_1 (d : Bool) (ln : Int) (n : ByteArray) (r a : List Two) (b : List Stm) : toksS d ln (.mk 1 n r a b) = nm n ln :: tailToks ln a := by rw [toksS, if_pos rfl]
theorem toksS_2 (d : Bool) (ln : Int) (n : ByteArray) (r a : List Two) (b : List Stm) : toksS d ln (.mk 2 n r a b) = sepToks (mk (arrowM d) ln) (r.map (refToks ln)) ++ tailToks ln a := by
  rw [toksS, if_neg (show ¬ (2 : Int) = 1 by decide), if_pos rfl]
theorem toksS_3 (d : Bool) (ln : Int) (n : ByteArray) (r a : List Two) (b : List Stm) : toksS d ln (.mk 3 n r a b) = ⟨2, n.data.toList, 0, ln⟩ :: (listToks ln a ++ [mk [59] ln]) := by
  rw [toksS, if_neg (show ¬ (3 : Int) = 1 by decide), if_neg (show ¬ (3 : Int) = 2 by decide), if_pos rfl]
theorem toksS_4 (d : Bool) (ln : Int) (n : ByteArray) (r a : List Two) (b : List Stm) : toksS d ln (.mk 4 n r a b) = [⟨2, [115, 101, 116], 0, ln⟩, nm n ln, mk [61] ln, valTok (a.headD (⟨#[]⟩, ⟨#[]⟩)).2 ln, mk [59] ln] := by
  rw [toksS, if_neg (show ¬ (4 : Int) = 1 by decide), if_neg (show ¬ (4 : Int) = 2 by decide), if_neg (show ¬ (4 : Int) = 3 by decide), if_pos rfl]
theorem toksS_5 (d : Bool) (ln : Int) (n : ByteArray) (r a : List Two) (b : List Stm) : toksS d ln (.mk 5 n r a b) = ⟨2, [99, 108, 117, 115, 116, 101, 114], 0, ln⟩ :: nm n ln :: mk [123] ln :: (toksL d (ln + 1) b ++ [mk [125] (ln + 1 + linesL b)]) := by
  rw [toksS, if_neg (show ¬ (5 : Int) = 1 by decide), if_neg (show ¬ (5 : Int) = 2 by decide), if_neg (show ¬ (5 : Int) = 3 by decide), if_neg (show ¬ (5 : Int) = 4 by decide)]
mutual
theorem pStm_tok (last : Int) (d : Bool) : ∀ (x : Stm) (dep : Nat) (ln : Int) (f : Nat) (t : List Tok), AllS okS x -> (∀ p ∈ flatS dep x, stmE p = 0) -> fuelS x <= f -> pStm last (arrowM d) f dep (toksS d ln x ++ t) = .ok x t
  | .mk k n r a b, dep, ln, f, t, h, hv, hf => by
    rw [AllS] at h
    obtain ⟨⟨hfm, hn, _, _⟩, hb⟩ := h
    rw [fuelS] at hf
    obtain ⟨f, rfl⟩ : ∃ f', f = f' + 1 := ⟨f - 1, by omega⟩
    rw [pStm]
    rcases form_parts k n r a b hfm with ⟨rfl, rfl, rfl⟩ | ⟨rfl, rfl, rfl, h2⟩ | ⟨rfl, rfl, rfl, h3⟩ | ⟨rfl, rfl, rfl, v, rfl⟩ | ⟨rfl, rfl, rfl⟩
    · rw [toksS_1, List.cons_append, isT2_nm, isT2_nm, isT2_nm, isT2_nm, if_neg (by decide), if_neg (by decide), if_neg (by decide), pChain_node]
    · rw [toksS_2]
      have he : ∀ y : List UInt8, isT 2 y (sepToks (mk (arrowM d) ln) (r.map (refToks ln)) ++ tailToks ln a ++ t) = false := fun y => by
        match r, h2 with
        | q :: q2 :: l, _ =>
          rw [List.map_cons, sepToks_cons]
          unfold refToks
          rw [List.cons_append, List.cons_append, List.cons_append, isT2_nm]
      rw [he, he, he, he, if_neg (by decide), if_neg (by decide), if_neg (by decide), List.append_assoc, pChain_edge last ln d r a t h2]
    · rw [toksS_3, List.cons_append, isT2_tok, isT2_tok]
      have hk : (decide (n.data.toList = kNode) || decide (n.data.toList = kEdge)) = true := by
        rcases h3 with h | h <;> simp [h]
      rw [hk, if_pos rfl]
      have e : listToks ln a ++ [mk [59] ln] ++ t = listToks ln a ++ (mk [59] ln :: t) := by simp
      show pDef last n.data.toList (listToks ln a ++ [mk [59] ln] ++ t) = _
      unfold pDef
      rw [e, pAttrsB_list, PR.bind_ok, pMark_mk, PR.bind_ok, bs_mk]
    · rw [toksS_4, List.cons_append, isT2_tok, isT2_tok, isT2_tok, if_neg (by decide), if_pos (by decide)]
      show pSet last (nm n ln :: mk [61] ln :: valTok v ln :: mk [59] ln :: t) = _
      unfold pSet
      rw [pName_nm, PR.bind_ok, pMark_mk, PR.bind_ok, pVal_tok, PR.bind_ok, pMark_mk, PR.bind_ok]
    · rw [toksS_5, List.cons_append, isT2_tok, isT2_tok, isT2_tok, isT2_tok, if_neg (by decide), if_neg (by decide), if_pos (by decide)]
      show (pName last (nm n ln :: (mk [123] ln :: (toksL d (ln + 1) b ++ [mk [125] (ln + 1 + linesL b)])) ++ t)).bind _ = _
      rw [List.cons_append, pName_nm, PR.bind_ok]
      have hd := stmE_depth 5 n [] [] b dep (hv _ (by rw [flatS]; exact List.mem_cons_self)) rfl
      have hv2 : ∀ p ∈ flatL (dep + 1) b, stmE p = 0 := fun p hp => hv p (by rw [flatS, if_pos rfl]; exact List.mem_cons_of_mem _ hp)
      obtain ⟨f, rfl⟩ : ∃ f', f = f' + 1 := ⟨f - 1, by omega⟩
      rw [pBlock, if_neg (by omega), List.cons_append, pMark_mk, PR.bind_ok, List.append_assoc, List.cons_append, List.nil_append, pStms_tok last d b (dep + 1) (ln + 1) f [] (mk [125] (ln + 1 + linesL b) :: t) hb hv2 (by omega)]
      rotate_left
      · rw [isT_mk]; rfl
      rw [PR.bind_ok]
      rfl
theorem pStms_tok (last : Int) (d : Bool) : ∀ (X : List Stm) (dep : Nat) (ln : Int) (f : Nat) (out : List Stm) (t : List Tok), AllL okS X -> (∀ p ∈ flatL dep X, stmE p = 0) -> fuelL X <= f -> isT 5 [125] t = true -> pStms last (arrowM d) f dep out (toksL d ln X ++ t) = .ok (out ++ X) t.tail
  | [], dep, ln, f, out, t, _, _, hf, ht => by
    rw [fuelL] at hf
    obtain ⟨f, rfl⟩ : ∃ f', f = f' + 1 := ⟨f - 1, by omega⟩
    rw [toksL, List.nil_append, pStms, if_pos ht, List.append_nil]
  | x :: r, dep, ln, f, out, t, h, hv, hf, ht => by
    rw [fuelL] at hf
    rw [AllL] at h
    obtain ⟨f, rfl⟩ : ∃ f', f = f' + 1 := ⟨f - 1, by omega⟩
    have hv1 : ∀ p ∈ flatS dep x, stmE p = 0 := fun p hp => hv p (by rw [flatL]; exact List.mem_append_left _ hp)
    have hv2 : ∀ p ∈ flatL dep r, stmE p = 0 := fun p hp => hv p (by rw [flatL]; exact List.mem_append_right _ hp)
    have hne : isT 5 [125] (toksS d ln x ++ (toksL d (ln + linesS x) r ++ t)) = false := by
      obtain ⟨k, n, rs, a, b⟩ := x
      have hfm := h.1
      rw [AllS] at hfm
      rcases form_parts k n rs a b hfm.1.1 with ⟨rfl, rfl, rfl⟩ | ⟨rfl, rfl, rfl, h2⟩ | ⟨rfl, rfl, rfl, h3⟩ | ⟨rfl, rfl, rfl, v, rfl⟩ | ⟨rfl, rfl, rfl⟩
      · rw [toksS_1, List.cons_append, isT_nm]
      · rw [toksS_2]
        match rs, h2 with
        | q :: q2 :: l, _ =>
          rw [List.map_cons, sepToks_cons]
          unfold refToks
          rw [List.cons_append, List.cons_append, List.cons_append, isT_nm]
      · rw [toksS_3, List.cons_append]; rfl
      · rw [toksS_4, List.cons_append]; rfl
      rw [toksS_5, List.cons_append]; rfl
    rw [toksL, List.append_assoc, pStms, hne, if_neg (by decide), pStm_tok last d x dep ln f _ h.1 hv1 (by omega), PR.bind_ok, pStms_tok last d r dep (ln + linesS x) f (out ++ [x]) t h.2 hv2 (by omega) ht]
    simp
end
theorem pTree_tok (last : Int) (d : Bool) (name : ByteArray) (body : List Stm) (f : Nat) (hv : validE name body = 0) (hf : 2 + fuelL body <= f) : pTree last f (toksT d name body) = .ok (d, name, body) [] := by
  obtain ⟨_, _, h3, h4⟩ := valid_ok name body hv
  obtain ⟨f, rfl⟩ : ∃ f', f = f' + 1 := ⟨f - 1, by omega⟩
  unfold toksT pTree
  rw [isT2_tok, isT2_tok]
  have hb : ∀ d : Bool, pBlock last (arrowM d) (f + 1) 0 (mk [123] 1 :: (toksL d 2 body ++ [mk [125] (2 + linesL body)])) = .ok body [] := fun d => by
    rw [pBlock, if_neg (by omega), pMark_mk, PR.bind_ok, pStms_tok last d body 0 2 f [] [mk [125] (2 + linesL body)] h4 h3 (by omega) (by rw [isT_mk]; rfl)]
    rfl
  cases d
  · rw [if_neg (by decide), if_pos (by decide), List.tail_cons, pName_nm, PR.bind_ok]
    have := hb false
    rw [show arrowM false = [45, 45] from rfl] at this
    rw [this, PR.bind_ok]
  rw [if_pos (by decide), List.tail_cons, pName_nm, PR.bind_ok]
  have := hb true
  rw [show arrowM true = [45, 62] from rfl] at this
  rw [this, PR.bind_ok]
end Go.Proofs.YtjaeedbjknejdaaGreatDoor.Tr
