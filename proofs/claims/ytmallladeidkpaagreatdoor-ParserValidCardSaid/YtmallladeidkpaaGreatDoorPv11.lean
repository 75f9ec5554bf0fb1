/- Packed texts: TrePar, TreMem, TreHas -/
import Derived.Test.YtmallladeidkpaaGreatDoorPv10
import Derived.Test.YtmallladeidkpaaGreatDoorPv01
import Derived.Lib.Hide
import Derived.Test.YtmallladeidkpaaGreatDoorPv05
set_option linter.unusedVariables false
set_option linter.unusedSimpArgs false
/- The parser as a plain function on tokens, and that it reads back the tokens of a printed tree; no program in sight. -/
namespace Go.Proofs.YtmallladeidkpaaGreatDoor.Tr
open Go.Lib Fx Lx

/-- What a part of the parser gives: a value and what is left, or a line and an error. -/
inductive PR (α : Type) where
  | ok (v : α) (r : List Tok) : PR α
  | err (ln e : Int) : PR α
def PR.bind {α β : Type} (x : PR α) (g : α → List Tok → PR β) : PR β :=
  match x with
  | .ok v r => g v r
  | .err ln e => .err ln e
theorem PR.bind_ok {α β : Type} (v : α) (r : List Tok) (g : α → List Tok → PR β) : (PR.ok v r).bind g = g v r := rfl
theorem PR.bind_err {α β : Type} (ln e : Int) (g : α → List Tok → PR β) : (PR.err ln e).bind g = .err ln e := rfl
def lineOf (last : Int) : List Tok → Int
  | t :: _ => t.line
  | [] => last
/-- The next token has this kind and this text. -/
def isT (k : Int) (x : List UInt8) : List Tok → Bool
  | t :: _ => decide (t.kind = k) && decide (t.text = x)
  | [] => false
def pMark (last : Int) (m : List UInt8) (r : List Tok) : PR Unit := if isT 5 m r = true then .ok () r.tail else .err (lineOf last r) 4
def pName (last : Int) : List Tok → PR ByteArray
  | t :: r => if t.kind = 1 then .ok ⟨t.text.toArray⟩ r else .err t.line 4
  | [] => .err last 4
def pVal (last : Int) : List Tok → PR ByteArray
  | t :: r => if t.kind = 1 ∨ t.kind = 4 then .ok ⟨t.text.toArray⟩ r else if t.kind = 3 then .ok ⟨(fmt t.n).toArray⟩ r else .err t.line 4
  | [] => .err last 4
/-- One attribute. -/
def pAttr (last : Int) (r : List Tok) : PR Two :=
  (pName last r).bind fun k r => (pMark last [61] r).bind fun _ r => (pVal last r).bind fun v r => .ok (k, v) r
/-- The attributes behind the bracket. -/
def pAttrs (last : Int) : Nat → List Two → List Tok → PR (List Two)
  | 0, _, _ => .err 0 0
  | f + 1, out, r =>
    if isT 5 [93] r = true then .ok out r.tail
    else (if out.isEmpty = true then PR.ok () r else pMark last [44] r).bind fun _ r => (pAttr last r).bind fun q r => pAttrs last f (out ++ [q]) r
def pAttrsB (last : Int) (r : List Tok) : PR (List Two) := (pMark last [91] r).bind fun _ r => pAttrs last (r.length + 1) [] r
def pOpt (last : Int) (r : List Tok) : PR (List Two) :=
  (if isT 5 [91] r = true then pAttrsB last r else .ok [] r).bind fun a r => (pMark last [59] r).bind fun _ r => .ok a r
def pPort (last : Int) (node : ByteArray) (r : List Tok) : PR Two :=
  if isT 5 [58] r = true then (pName last r.tail).bind fun p r => .ok (node, p) r else .ok (node, ⟨#[]⟩) r
def pRef (last : Int) (r : List Tok) : PR Two := (pName last r).bind fun n r => pPort last n r
def pRefs (last : Int) (ar : List UInt8) : Nat → List Two → List Tok → PR (List Two)
  | 0, _, _ => .err 0 0
  | f + 1, out, r =>
    if (decide (out.length < 2) || isT 5 ar r) = true then (pMark last ar r).bind fun _ r => (pRef last r).bind fun q r => pRefs last ar f (out ++ [q]) r
    else .ok out r
def kNode : List UInt8 := [110, 111, 100, 101]
def kEdge : List UInt8 := [101, 100, 103, 101]
def kSet : List UInt8 := [115, 101, 116]
def kClus : List UInt8 := [99, 108, 117, 115, 116, 101, 114]
/-- The chain of a statement that begins with a name. -/
def pChain (last : Int) (ar : List UInt8) (r : List Tok) : PR Stm :=
  (pName last r).bind fun n r =>
    if (isT 5 [58] r || isT 5 ar r) = false then (pOpt last r).bind fun a r => .ok (.mk 1 n [] a []) r
    else (pPort last n r).bind fun q r => (pRefs last ar (r.length + 2) [q] r).bind fun rs r => (pOpt last r).bind fun a r => .ok (.mk 2 ⟨#[]⟩ rs a []) r
def pSet (last : Int) (r : List Tok) : PR Stm :=
  (pName last r).bind fun n r => (pMark last [61] r).bind fun _ r => (pVal last r).bind fun v r => (pMark last [59] r).bind fun _ r => .ok (.mk 4 n [] [(⟨#[]⟩, v)] []) r
def pDef (last : Int) (x : List UInt8) (r : List Tok) : PR Stm :=
  (pAttrsB last r).bind fun a r => (pMark last [59] r).bind fun _ r => .ok (.mk 3 ⟨x.toArray⟩ [] a []) r
def textOf : List Tok → List UInt8
  | t :: _ => t.text
  | [] => []
mutual
def pStm (last : Int) (ar : List UInt8) : Nat → Nat → List Tok → PR Stm
  | 0, _, _ => .err 0 0
  | f + 1, dep, r =>
    if (isT 2 kNode r || isT 2 kEdge r) = true then pDef last (textOf r) r.tail
    else if isT 2 kSet r = true then pSet last r.tail
    else if isT 2 kClus r = true then (pName last r.tail).bind fun n r => (pBlock last ar f (dep + 1) r).bind fun b r => .ok (.mk 5 n [] [] b) r
    else pChain last ar r
def pBlock (last : Int) (ar : List UInt8) : Nat → Nat → List Tok → PR (List Stm)
  | 0, _, _ => .err 0 0
  | f + 1, dep, r => if isT 5 [123] r = true ∧ 6 < dep then .err (lineOf last r) 2 else (pMark last [123] r).bind fun _ r => pStms last ar f dep [] r
def pStms (last : Int) (ar : List UInt8) : Nat → Nat → List Stm → List Tok → PR (List Stm)
  | 0, _, _, _ => .err 0 0
  | f + 1, dep, out, r =>
    if isT 5 [125] r = true then .ok out r.tail
    else (pStm last ar f dep r).bind fun s r => pStms last ar f dep (out ++ [s]) r
end
/-- A whole source. -/
def pTree (last : Int) (f : Nat) (r : List Tok) : PR (Bool × ByteArray × List Stm) :=
  if isT 2 [100, 105, 103, 114, 97, 112, 104] r = true then (pName last r.tail).bind fun n r => (pBlock last [45, 62] f 0 r).bind fun b r => .ok (true, n, b) r
  else if isT 2 [103, 114, 97, 112, 104] r = true then (pName last r.tail).bind fun n r => (pBlock last [45, 45] f 0 r).bind fun b r => .ok (false, n, b) r
  else .err (lineOf last r) 4

theorem bs_mk (s : ByteArray) : (⟨s.data.toList.toArray⟩ : ByteArray) = s := by cases s; simp
theorem empty_of (s : ByteArray) (h : s.size = 0) : s = ⟨#[]⟩ := by
  apply ByteArray.ext; exact Array.eq_empty_of_size_eq_zero h
theorem pMark_mk (last : Int) (m : List UInt8) (ln : Int) (r : List Tok) : pMark last m (mk m ln :: r) = .ok () r := by
  unfold pMark isT mk
  rw [if_pos (by simp)]; rfl
theorem isT_mk (m x : List UInt8) (ln : Int) (r : List Tok) : isT 5 x (mk m ln :: r) = decide (m = x) := by unfold isT mk; simp
theorem isT_nm (x : List UInt8) (s : ByteArray) (ln : Int) (r : List Tok) : isT 5 x (nm s ln :: r) = false := by unfold isT nm; simp
theorem isT2_nm (x : List UInt8) (s : ByteArray) (ln : Int) (r : List Tok) : isT 2 x (nm s ln :: r) = false := by unfold isT nm; simp
theorem pName_nm (last : Int) (s : ByteArray) (ln : Int) (r : List Tok) : pName last (nm s ln :: r) = .ok s r := by
  unfold pName nm; dsimp only; rw [if_pos rfl, bs_mk]
theorem pVal_tok (last : Int) (s : ByteArray) (ln : Int) (r : List Tok) : pVal last (valTok s ln :: r) = .ok s r := by
  unfold pVal valTok
  dsimp only
  by_cases h1 : nameB s.data.toList = true
  · rw [if_pos h1, if_pos (.inl rfl), bs_mk]
  rw [if_neg h1]
  by_cases h2 : (parse s.data.toList).2 = 0
  · rw [if_pos h2]
    obtain ⟨e, _, _⟩ := exact_ok s.data.toList (parse s.data.toList).1 (by rw [← h2])
    rw [if_neg (show ¬ ((3 : Int) = 1 ∨ (3 : Int) = 4) by decide), if_pos rfl]
    dsimp only
    rw [e, bs_mk]
  · rw [if_neg h2, if_pos (.inr rfl), bs_mk]
theorem pAttr_tok (last ln : Int) (q : Two) (r : List Tok) : pAttr last (attrToks ln q ++ r) = .ok q r := by
  unfold pAttr attrToks
  rw [List.cons_append, pName_nm, PR.bind_ok, List.cons_append, pMark_mk, PR.bind_ok, List.cons_append, List.nil_append, pVal_tok, PR.bind_ok]
theorem sepToks_cons (m : Tok) (x : List Tok) : ∀ l : List (List Tok), sepToks m (x :: l) = x ++ l.flatMap (fun y => m :: y)
  | [] => by simp [sepToks]
  | y :: l => by
    show x ++ m :: sepToks m (y :: l) = _
    rw [sepToks_cons m y l]; simp
theorem pAttrs_rest (last ln : Int) (r : List Tok) : ∀ (a out : List Two) (f : Nat), out ≠ [] → a.length < f → pAttrs last f out ((a.map (attrToks ln)).flatMap (fun y => mk [44] ln :: y) ++ mk [93] ln :: r) = .ok (out ++ a) r
  | [], out, f + 1, _, _ => by
    show pAttrs last (f + 1) out (mk [93] ln :: r) = _
    rw [pAttrs, if_pos (by rw [isT_mk]; rfl), List.append_nil]; rfl
  | q :: a, out, f + 1, h, hf => by
    have hl : a.length < f := by simpa using hf
    show pAttrs last (f + 1) out (mk [44] ln :: (attrToks ln q ++ (a.map (attrToks ln)).flatMap (fun y => mk [44] ln :: y)) ++ mk [93] ln :: r) = _
    rw [List.cons_append, pAttrs, if_neg (by rw [isT_mk]; decide), if_neg (by simpa using h), pMark_mk, PR.bind_ok, List.append_assoc, pAttr_tok, PR.bind_ok, pAttrs_rest last ln r a (out ++ [q]) f (by simp) hl]
    simp
theorem pAttrsB_list (last ln : Int) (a : List Two) (r : List Tok) : pAttrsB last (listToks ln a ++ r) = .ok a r := by
  unfold pAttrsB listToks
  rw [List.cons_append, pMark_mk, PR.bind_ok]
  cases a with
  | nil =>
    show pAttrs last ((mk [93] ln :: r).length + 1) [] (mk [93] ln :: r) = _
    rw [pAttrs, if_pos (by rw [isT_mk]; rfl)]; rfl
  | cons q a =>
    rw [List.map_cons, sepToks_cons]
    have e : attrToks ln q ++ (a.map (attrToks ln)).flatMap (fun y => mk [44] ln :: y) ++ [mk [93] ln] ++ r = attrToks ln q ++ ((a.map (attrToks ln)).flatMap (fun y => mk [44] ln :: y) ++ mk [93] ln :: r) := by simp
    rw [e]
    have hlen : a.length < (attrToks ln q ++ ((a.map (attrToks ln)).flatMap (fun y => mk [44] ln :: y) ++ mk [93] ln :: r)).length := by
      have : ∀ l : List Two, l.length ≤ ((l.map (attrToks ln)).flatMap (fun y => mk [44] ln :: y)).length := by
        intro l
        induction l with
        | nil => simp
        | cons x l ih => simp only [List.map_cons, List.flatMap_cons, List.length_append, List.length_cons] at ih ⊢; omega
      have := this a
      simp only [List.length_append, List.length_cons] at this ⊢
      omega
    rw [pAttrs, if_neg (by unfold attrToks; rw [List.cons_append, isT_nm]; decide), if_pos (by rfl), PR.bind_ok, pAttr_tok, PR.bind_ok, List.nil_append, pAttrs_rest last ln r a [q] _ (by simp) hlen]
    rfl
theorem pOpt_tail (last ln : Int) (a : List Two) (r : List Tok) : pOpt last (tailToks ln a ++ r) = .ok a r := by
  unfold pOpt tailToks
  by_cases h : a.isEmpty = true
  · rw [if_pos h, List.nil_append, List.cons_append, List.nil_append, if_neg (by rw [isT_mk]; decide), PR.bind_ok, pMark_mk, PR.bind_ok, List.isEmpty_iff.1 h]
  · rw [if_neg h]
    have e : listToks ln a ++ [mk [59] ln] ++ r = listToks ln a ++ (mk [59] ln :: r) := by simp
    rw [e, if_pos (by unfold listToks; rw [List.cons_append, isT_mk]; rfl), pAttrsB_list, PR.bind_ok, pMark_mk, PR.bind_ok]
theorem pPort_tok (last ln : Int) (q : Two) (r : List Tok) (hr : isT 5 [58] r = false) : pPort last q.1 ((if q.2.size = 0 then [] else [mk [58] ln, nm q.2 ln]) ++ r) = .ok q r := by
  unfold pPort
  by_cases h : q.2.size = 0
  · rw [if_pos h, List.nil_append, if_neg (by rw [hr]; decide)]
    rw [show q = (q.1, q.2) from rfl, empty_of q.2 h]
  · rw [if_neg h, List.cons_append, List.cons_append, List.nil_append, if_pos (by rw [isT_mk]; rfl)]
    show (pName last (nm q.2 ln :: r)).bind _ = _
    rw [pName_nm, PR.bind_ok]
theorem pRef_tok (last ln : Int) (q : Two) (r : List Tok) (hr : isT 5 [58] r = false) : pRef last (refToks ln q ++ r) = .ok q r := by
  unfold pRef refToks
  rw [List.cons_append, pName_nm, PR.bind_ok, pPort_tok last ln q r hr]
theorem tail_colon (ln : Int) (a : List Two) (r : List Tok) (x : List UInt8) (h : x = [58] ∨ x = [45, 62] ∨ x = [45, 45]) : isT 5 x (tailToks ln a ++ r) = false := by
  unfold tailToks listToks
  by_cases h0 : a.isEmpty = true
  · rw [if_pos h0, List.nil_append, List.cons_append, isT_mk]
    rcases h with rfl | rfl | rfl <;> decide
  · rw [if_neg h0, List.cons_append, List.cons_append, isT_mk]
    rcases h with rfl | rfl | rfl <;> decide
theorem arrowM_or (d : Bool) : arrowM d = [58] ∨ arrowM d = [45, 62] ∨ arrowM d = [45, 45] := by cases d <;> simp [arrowM]
theorem pRefs_rest (last ln : Int) (d : Bool) (t : List Tok) (ht : isT 5 (arrowM d) t = false) (ht2 : isT 5 [58] t = false) : ∀ (l out : List Two) (f : Nat), 2 ≤ out.length + l.length → l.length < f →
    pRefs last (arrowM d) f out ((l.map (refToks ln)).flatMap (fun y => mk (arrowM d) ln :: y) ++ t) = .ok (out ++ l) t
  | [], out, f + 1, h, _ => by
    show pRefs last (arrowM d) (f + 1) out t = _
    rw [pRefs, ht, decide_eq_false (by simp at h; omega), if_neg (by decide), List.append_nil]
  | q :: l, out, f + 1, h, hf => by
    have hl : l.length < f := by simpa using hf
    have hcol : isT 5 [58] ((l.map (refToks ln)).flatMap (fun y => mk (arrowM d) ln :: y) ++ t) = false := by
      cases l with
      | nil => exact ht2
      | cons x l =>
        rw [List.map_cons, List.flatMap_cons, List.append_assoc, List.cons_append, isT_mk]
        cases d <;> decide
    rw [List.map_cons, List.flatMap_cons, List.append_assoc, List.cons_append, pRefs, if_pos (by rw [isT_mk]; simp), pMark_mk, PR.bind_ok, pRef_tok last ln q _ hcol, PR.bind_ok]
    rw [pRefs_rest last ln d t ht ht2 l (out ++ [q]) f (by simp at h ⊢; omega) hl]
    simp
theorem pChain_edge (last ln : Int) (d : Bool) (rs a : List Two) (r : List Tok) (h2 : 2 ≤ rs.length) :
    pChain last (arrowM d) (sepToks (mk (arrowM d) ln) (rs.map (refToks ln)) ++ (tailToks ln a ++ r)) = .ok (.mk 2 ⟨#[]⟩ rs a []) r := by
  match rs, h2 with
  | q :: q2 :: l, _ =>
    rw [List.map_cons, sepToks_cons]
    obtain ⟨t, ht⟩ : ∃ t, t = tailToks ln a ++ r := ⟨_, rfl⟩
    have h1 : isT 5 (arrowM d) t = false := by rw [ht]; exact tail_colon ln a r _ (arrowM_or d)
    have h3 : isT 5 [58] t = false := by rw [ht]; exact tail_colon ln a r _ (.inl rfl)
    rw [← ht]
    have hcol : isT 5 [58] (((q2 :: l).map (refToks ln)).flatMap (fun y => mk (arrowM d) ln :: y) ++ t) = false := by
      rw [List.map_cons, List.flatMap_cons, List.append_assoc, List.cons_append, isT_mk]
      cases d <;> decide
    have hlen : (q2 :: l).length < (((q2 :: l).map (refToks ln)).flatMap (fun y => mk (arrowM d) ln :: y) ++ t).length + 2 := by
      have : ∀ m : List Two, m.length ≤ ((m.map (refToks ln)).flatMap (fun y => mk (arrowM d) ln :: y)).length := by
        intro m
        induction m with
        | nil => simp
        | cons x m ih => simp only [List.map_cons, List.flatMap_cons, List.length_append, List.length_cons] at ih ⊢; omega
      have := this (q2 :: l)
      rw [List.length_append]
      omega
    have hrest := pRefs_rest last ln d t h1 h3 (q2 :: l) [q] _ (by simp; omega) hlen
    have hwho : (isT 5 [58] ((if q.2.size = 0 then [] else [mk [58] ln, nm q.2 ln]) ++ (((q2 :: l).map (refToks ln)).flatMap (fun y => mk (arrowM d) ln :: y) ++ t)) || isT 5 (arrowM d) ((if q.2.size = 0 then [] else [mk [58] ln, nm q.2 ln]) ++ (((q2 :: l).map (refToks ln)).flatMap (fun y => mk (arrowM d) ln :: y) ++ t))) = true := by
      by_cases h0 : q.2.size = 0
      · rw [if_pos h0, List.nil_append, List.map_cons, List.flatMap_cons, List.append_assoc, List.cons_append, isT_mk, isT_mk]; simp
      · rw [if_neg h0, List.cons_append, isT_mk]; simp
    have hport := pPort_tok last ln q _ hcol
    rw [List.append_assoc]
    generalize ((q2 :: l).map (refToks ln)).flatMap (fun y => mk (arrowM d) ln :: y) ++ t = T at *
    unfold pChain refToks
    rw [List.cons_append, pName_nm, PR.bind_ok, hwho, if_neg (by decide), hport, PR.bind_ok, hrest, PR.bind_ok, ht, pOpt_tail, PR.bind_ok]
    rfl
theorem pChain_node (last ln : Int) (d : Bool) (n : ByteArray) (a : List Two) (r : List Tok) : pChain last (arrowM d) (nm n ln :: (tailToks ln a ++ r)) = .ok (.mk 1 n [] a []) r := by
  unfold pChain
  rw [pName_nm, PR.bind_ok, tail_colon ln a r _ (.inl rfl), tail_colon ln a r _ (arrowM_or d), if_pos (by rfl), pOpt_tail, PR.bind_ok]
end Go.Proofs.YtmallladeidkpaaGreatDoor.Tr

/- Trees of statements in memory. -/
namespace Go.Proofs.YtmallladeidkpaaGreatDoor.Tr
open Go.RowKit Go.Lib Fx Lx

/-- A list of pairs of texts (references, attributes) behind a slice, below block n. -/
def TwoAt (n : Nat) (w : World) (a : Option Addr) (L : List Two) : Prop :=
  ∀ k (h : k < L.length), ∃ g o, a = some ⟨g, o, none⟩ ∧ g < n ∧ w.cell? ⟨g, o + k * 2, none⟩ = some (.string L[k].1) ∧ w.cell? ⟨g, o + k * 2 + 1, none⟩ = some (.string L[k].2)
theorem TwoAt.below {n : Nat} {w w' : World} {a : Option Addr} {L : List Two} (h : TwoAt n w a L) (x : Below n w w') : TwoAt n w' a L := fun k hk => by
  obtain ⟨g, o, ha, hg, h0, h1⟩ := h k hk
  exact ⟨g, o, ha, hg, (x.cell (p := ⟨g, o + k * 2, none⟩) hg).trans h0, (x.cell (p := ⟨g, o + k * 2 + 1, none⟩) hg).trans h1⟩
theorem TwoAt.mono {n m : Nat} {w : World} {a : Option Addr} {L : List Two} (h : TwoAt n w a L) (hm : n ≤ m) : TwoAt m w a L := fun k hk => by
  obtain ⟨g, o, ha, hg, r⟩ := h k hk
  exact ⟨g, o, ha, by omega, r⟩
theorem TwoAt.take {n : Nat} {w : World} {a : Option Addr} {L : List Two} (h : TwoAt n w a L) (i : Nat) : TwoAt n w a (L.take i) := fun k hk => by
  have hk' : k < L.length := by simp at hk; omega
  obtain ⟨g, o, ha, hg, r⟩ := h k hk'
  rw [List.getElem_take]
  exact ⟨g, o, ha, hg, r⟩
mutual
/-- The five cells of a statement, and what they lead to, below block n. -/
def StmAt (n : Nat) (w : World) (g o : Nat) : Stm → Prop
  | .mk k nm rs al body => ∃ r rc a ac b bc, w.cell? ⟨g, o, none⟩ = some (.int .i64 k) ∧ w.cell? ⟨g, o + 1, none⟩ = some (.string nm) ∧
      w.cell? ⟨g, o + 2, none⟩ = some (.slice r rs.length rc) ∧ w.cell? ⟨g, o + 3, none⟩ = some (.slice a al.length ac) ∧ w.cell? ⟨g, o + 4, none⟩ = some (.slice b body.length bc) ∧
      TwoAt n w r rs ∧ TwoAt n w a al ∧ StmsAt n w b body ∧ rs.length ≤ rc ∧ al.length ≤ ac ∧ rc ≤ maxLen ∧ ac ≤ maxLen ∧ body.length ≤ maxLen
/-- A list of statements behind a slice. -/
def StmsAt (n : Nat) (w : World) (b : Option Addr) : List Stm → Prop
  | [] => True
  | x :: r => ∃ g o, b = some ⟨g, o, none⟩ ∧ g < n ∧ StmAt n w g o x ∧ StmsAt n w (some ⟨g, o + 5, none⟩) r
end
theorem stmAt_eq (n : Nat) (w : World) (g o : Nat) (x : Stm) : StmAt n w g o x ↔ ∃ r rc a ac b bc, w.cell? ⟨g, o, none⟩ = some (.int .i64 x.kind) ∧ w.cell? ⟨g, o + 1, none⟩ = some (.string x.name) ∧
      w.cell? ⟨g, o + 2, none⟩ = some (.slice r x.refs.length rc) ∧ w.cell? ⟨g, o + 3, none⟩ = some (.slice a x.attrs.length ac) ∧ w.cell? ⟨g, o + 4, none⟩ = some (.slice b x.body.length bc) ∧
      TwoAt n w r x.refs ∧ TwoAt n w a x.attrs ∧ StmsAt n w b x.body ∧ x.refs.length ≤ rc ∧ x.attrs.length ≤ ac ∧ rc ≤ maxLen ∧ ac ≤ maxLen ∧ x.body.length ≤ maxLen := by
  cases x; rw [StmAt]; rfl
theorem stmsAt_cons (n : Nat) (w : World) (b : Option Addr) (x : Stm) (r : List Stm) : StmsAt n w b (x :: r) ↔ ∃ g o, b = some ⟨g, o, none⟩ ∧ g < n ∧ StmAt n w g o x ∧ StmsAt n w (some ⟨g, o + 5, none⟩) r := by rw [StmsAt]
mutual
theorem StmAt.below {n : Nat} {w w' : World} (x : Below n w w') : ∀ {g o : Nat} (s : Stm), g < n → StmAt n w g o s → StmAt n w' g o s
  | g, o, .mk k nm rs al body, hg, h => by
    rw [StmAt] at h ⊢
    obtain ⟨r, rc, a, ac, b, bc, h0, h1, h2, h3, h4, hr, ha, hb, hl⟩ := h
    exact ⟨r, rc, a, ac, b, bc, (x.cell (p := ⟨g, o, none⟩) hg).trans h0, (x.cell (p := ⟨g, o + 1, none⟩) hg).trans h1, (x.cell (p := ⟨g, o + 2, none⟩) hg).trans h2, (x.cell (p := ⟨g, o + 3, none⟩) hg).trans h3, (x.cell (p := ⟨g, o + 4, none⟩) hg).trans h4, hr.below x, ha.below x, StmsAt.below x body hb, hl⟩
theorem StmsAt.below {n : Nat} {w w' : World} (x : Below n w w') : ∀ {b : Option Addr} (L : List Stm), StmsAt n w b L → StmsAt n w' b L
  | _, [], _ => by rw [StmsAt]; trivial
  | b, s :: r, h => by
    rw [StmsAt] at h ⊢
    obtain ⟨g, o, hb, hg, hs, hr⟩ := h
    exact ⟨g, o, hb, hg, StmAt.below x s hg hs, StmsAt.below x r hr⟩
end
mutual
theorem StmAt.mono {n m : Nat} {w : World} (hm : n ≤ m) : ∀ {g o : Nat} (s : Stm), StmAt n w g o s → StmAt m w g o s
  | g, o, .mk k nm rs al body, h => by
    rw [StmAt] at h ⊢
    obtain ⟨r, rc, a, ac, b, bc, h0, h1, h2, h3, h4, hr, ha, hb, hl⟩ := h
    exact ⟨r, rc, a, ac, b, bc, h0, h1, h2, h3, h4, hr.mono hm, ha.mono hm, StmsAt.mono hm body hb, hl⟩
theorem StmsAt.mono {n m : Nat} {w : World} (hm : n ≤ m) : ∀ {b : Option Addr} (L : List Stm), StmsAt n w b L → StmsAt m w b L
  | _, [], _ => by rw [StmsAt]; trivial
  | b, s :: r, h => by
    rw [StmsAt] at h ⊢
    obtain ⟨g, o, hb, hg, hs, hr⟩ := h
    exact ⟨g, o, hb, by omega, StmAt.mono hm s hs, StmsAt.mono hm r hr⟩
end
/-- The statement at a place of the list. -/
theorem StmsAt.at {n : Nat} {w : World} : ∀ {b : Option Addr} (L : List Stm), StmsAt n w b L → ∀ k (hk : k < L.length), ∃ g o, b = some ⟨g, o, none⟩ ∧ g < n ∧ StmAt n w g (o + k * 5) L[k]
  | _, [], _, k, hk => absurd hk (by simp)
  | b, s :: r, h, 0, _ => by
    rw [StmsAt] at h
    obtain ⟨g, o, hb, hg, hs, _⟩ := h
    exact ⟨g, o, hb, hg, by rw [Nat.zero_mul, Nat.add_zero]; exact hs⟩
  | b, s :: r, h, k + 1, hk => by
    rw [StmsAt] at h
    obtain ⟨g, o, hb, hg, _, hr⟩ := h
    obtain ⟨g', o', hb', hg', hs'⟩ := StmsAt.at r hr k (by simpa using hk)
    injection hb' with hb'; injection hb' with e1 e2 _
    subst e1; subst e2
    refine ⟨g, o, hb, hg, ?_⟩
    rw [show o + (k + 1) * 5 = o + 5 + k * 5 by omega]
    exact hs'
/-- A list of statements is where each of its statements is. -/
theorem StmsAt.of {n : Nat} {w : World} : ∀ (g o : Nat) (L : List Stm), g < n → (∀ k (hk : k < L.length), StmAt n w g (o + k * 5) L[k]) → StmsAt n w (some ⟨g, o, none⟩) L
  | g, o, [], _, _ => by rw [StmsAt]; trivial
  | g, o, s :: r, hg, h => by
    rw [StmsAt]
    refine ⟨g, o, rfl, hg, (by have h0 := h 0 (Nat.zero_lt_succ _); rw [Nat.zero_mul, Nat.add_zero] at h0; exact h0), StmsAt.of g (o + 5) r hg fun k hk => ?_⟩
    have := h (k + 1) (by simpa using hk)
    rw [show o + 5 + k * 5 = o + (k + 1) * 5 by omega]
    exact this
end Go.Proofs.YtmallladeidkpaaGreatDoor.Tr

/- Lists of pairs of texts in memory; slices.ContainsFunc at attributes with the tree's closure. -/
namespace Go.Proofs.YtmallladeidkpaaGreatDoor.Tr
open Go.RowKit Go.Sort Go.Lib Go.Shelf Fx Lx

/-- A list of pairs of texts behind a slice, wherever it lies. -/
def TwoIn (w : World) (a : Option Addr) (L : List Two) : Prop :=
  ∀ k (h : k < L.length), ∃ g o, a = some ⟨g, o, none⟩ ∧ w.cell? ⟨g, o + k * 2, none⟩ = some (.string L[k].1) ∧ w.cell? ⟨g, o + k * 2 + 1, none⟩ = some (.string L[k].2)
theorem TwoIn.ext {w w' : World} {a : Option Addr} {L : List Two} (h : TwoIn w a L) (x : Ext w w') : TwoIn w' a L := fun k hk => by
  obtain ⟨g, o, ha, h0, h1⟩ := h k hk
  exact ⟨g, o, ha, x.cell h0, x.cell h1⟩
theorem TwoAt.in {n : Nat} {w : World} {a : Option Addr} {L : List Two} (h : TwoAt n w a L) : TwoIn w a L := fun k hk => by
  obtain ⟨g, o, ha, _, h0, h1⟩ := h k hk
  exact ⟨g, o, ha, h0, h1⟩
def hasA (l : List Two) (n : ByteArray) : Bool := l.any (fun q => decide (q.1 = n))
theorem beqs (n x : ByteArray) : (n.toList == x.toList) = decide (n = x) := by
  rw [ByteArray.toList_eq, ByteArray.toList_eq, Bool.eq_iff_iff, beq_iff_eq, decide_eq_true_eq]
  exact ⟨fun h => ByteArray.ext (Array.toList_inj.1 h), fun h => by rw [h]⟩
set_option maxHeartbeats 4000000 in
theorem closA_any (n x : ByteArray) (d : ByteArray) (c : Addr) (w : World) (hc : w.cell? c = some (.string x)) :
    Calls Tryz.prog 72 #[.agg #[.string n, .string d], .pointer (some c)] w fun e w' => e = .returned (.bool (decide (n = x))) ∧ Ext w w' := by
  have hc' : ∀ o, (w.alloc o).cell? c = some (.string x) := fun o => ((Ext.refl w).alloc o).cell hc
  go_enter Tryz.func72, Tryz.ntmps72
  go_wp2
  go_ret
  exact ⟨ret_bool (beqs n x), (Ext.refl _).alloc _⟩
set_option maxHeartbeats 4000000 in
theorem idxA_any (a : Option Addr) (L : List Two) (cap : Nat) (x : ByteArray) (c : Addr) (w : World) (h : TwoIn w a L) (hc : w.cell? c = some (.string x)) (hL : L.length ≤ 9223372036854775807) :
    Calls Tryz.prog 88 #[.slice a L.length cap, .func (.func 72) #[] #[.pointer (some c)]] w fun e w' => (∃ r : Int, e = .returned (.int .i64 r) ∧ decide (0 ≤ r) = hasA L x) ∧ Ext w w' := by
  obtain ⟨N, hN⟩ : ∃ N, N = L.length := ⟨_, rfl⟩
  have HI := Lib.hid h
  rw [← hN] at hL ⊢
  have HN := Lib.hid hN
  have HC := Lib.hid hc
  clear h hN hc
  go_enter Tryz.func88, Tryz.ntmps88
  go_wp2_with fail
  go_loopw [8] (fun i' wr => ∃ k : Nat, k ≤ N ∧ i' = .int .i64 k ∧ Hid (∀ j (hj : j < L.length), j < k → L[j].1 ≠ x) ∧ Ext w wr) (fun i' _ => N - (RowKit.intOf i').toNat)
  case atStart => exact ⟨0, by omega, rfl, Lib.hid (fun j _ h => absurd h (by omega)), Ext.refl _⟩
  case round =>
    obtain ⟨k, hk, rfl, hall, hx⟩ := hrel
    by_cases hlt : k < N
    · have hkl : k < L.length := by rw [← HN.out]; exact hlt
      obtain ⟨g, o, rfl, c0, c1⟩ := (HI.out.ext hx) k hkl
      obtain ⟨n, hn⟩ : ∃ n, n = L[k].1 := ⟨_, rfl⟩
      obtain ⟨d, hd⟩ : ∃ d, d = L[k].2 := ⟨_, rfl⟩
      rw [← hn] at c0; rw [← hd] at c1
      have HNM := Lib.hid hn
      clear hn hd
      by_cases heq : n = x
      · have hf : Hid (hasA L x = true) := Lib.hid (by
          unfold hasA; rw [List.any_eq_true]; exact ⟨L[k], List.getElem_mem hkl, by rw [← HNM.out]; exact decide_eq_true heq⟩)
        have HCL := Lib.hid (closA_any n x d c wr (hx.cell HC.out))
        rw [decide_eq_true heq] at HCL
        clear heq hall HNM
        go_wp2_with (go_at_call 72; refine HCL.out.mono ?_; rintro e w1 ⟨rfl, x1⟩)
        go_returns
        exact ⟨⟨k, rfl, by rw [hf.out]; simp⟩, hx.trans x1⟩
      · have hf : Hid (∀ j (hj : j < L.length), j < k + 1 → L[j].1 ≠ x) := Lib.hid (fun j hj h => by
          by_cases e : j = k
          · subst e; rw [← HNM.out]; exact heq
          · exact hall.out j hj (by omega))
        have HCL := Lib.hid (closA_any n x d c wr (hx.cell HC.out))
        rw [decide_eq_false heq] at HCL
        clear heq hall HNM
        go_wp2_with (go_at_call 72; refine HCL.out.mono ?_; rintro e w1 ⟨rfl, x1⟩)
        go_roundw
        case rel => exact ⟨k + 1, by omega, by go_num, hf, hx.trans x1⟩
        case measure => simp [RowKit.intOf]; omega
    · have hf : Hid (hasA L x = false) := Lib.hid (by
        unfold hasA; rw [List.any_eq_false]; intro q hq
        obtain ⟨j, hj, rfl⟩ := List.getElem_of_mem hq
        simpa using hall.out j hj (by rw [← HN.out] at hj; omega))
      clear hall
      go_wp2
      go_returns
      exact ⟨⟨-1, rfl, by rw [hf.out]; decide⟩, hx⟩
set_option maxHeartbeats 4000000 in
theorem hasA_any (a : Option Addr) (L : List Two) (cap : Nat) (x : ByteArray) (c : Addr) (w : World) (h : TwoIn w a L) (hc : w.cell? c = some (.string x)) (hL : L.length ≤ 9223372036854775807) :
    Calls Tryz.prog 71 #[.slice a L.length cap, .func (.func 72) #[] #[.pointer (some c)]] w fun e w' => e = .returned (.bool (hasA L x)) ∧ Ext w w' := by
  have H := Lib.hid (idxA_any a L cap x c w h hc hL)
  clear h hc hL
  go_enter Tryz.func71, Tryz.ntmps71
  go_wp2_with (go_at_call 88; refine H.out.mono ?_; rintro e w1 ⟨⟨r, rfl, hr⟩, x1⟩)
  go_ret
  exact ⟨rfl, x1⟩
end Go.Proofs.YtmallladeidkpaaGreatDoor.Tr
