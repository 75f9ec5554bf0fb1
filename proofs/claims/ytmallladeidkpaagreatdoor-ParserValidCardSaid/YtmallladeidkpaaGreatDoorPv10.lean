/- Packed texts: TreText, TrePrint, TreToks -/
import Derived.Test.YtmallladeidkpaaGreatDoorPv04
import Derived.Test.YtmallladeidkpaaGreatDoorPv08
import Derived.Test.YtmallladeidkpaaGreatDoorPv09
set_option linter.unusedVariables false
set_option linter.unusedSimpArgs false
/- Trees of statements as plain data: their statements in preorder, the first error; no program in sight. -/
namespace Go.Proofs.YtmallladeidkpaaGreatDoor.Tr
open Go.Lib Fx Lx

abbrev Two := ByteArray × ByteArray
/-- A statement: its kind, its name, its references, its attributes, its body. -/
inductive Stm where
  | mk (kind : Int) (name : ByteArray) (refs attrs : List Two) (body : List Stm) : Stm
def Stm.kind : Stm → Int | .mk k _ _ _ _ => k
def Stm.name : Stm → ByteArray | .mk _ n _ _ _ => n
def Stm.refs : Stm → List Two | .mk _ _ r _ _ => r
def Stm.attrs : Stm → List Two | .mk _ _ _ a _ => a
def Stm.body : Stm → List Stm | .mk _ _ _ _ b => b
mutual
/-- The statements in preorder, with the number of clusters around each. -/
def flatS (lev : Nat) : Stm → List (Stm × Nat)
  | .mk k n r a b => (.mk k n r a b, lev) :: flatL (if k = 5 then lev + 1 else lev) b
def flatL (lev : Nat) : List Stm → List (Stm × Nat)
  | [] => []
  | x :: r => flatS lev x ++ flatL lev r
end
theorem flatL_cons (lev : Nat) (x : Stm) (r : List Stm) : flatL lev (x :: r) = flatS lev x ++ flatL lev r := by rw [flatL]
theorem flatL_nil (lev : Nat) : flatL lev [] = [] := by rw [flatL]
theorem flatS_mk (lev : Nat) (k : Int) (n : ByteArray) (r a : List Two) (b : List Stm) : flatS lev (.mk k n r a b) = (.mk k n r a b, lev) :: flatL (if k = 5 then lev + 1 else lev) b := by rw [flatS]
theorem flatS_eq (lev : Nat) (x : Stm) : flatS lev x = (x, lev) :: flatL (if x.kind = 5 then lev + 1 else lev) x.body := by
  cases x; rw [flatS]; rfl
theorem flatL_app (lev : Nat) : ∀ L M : List Stm, flatL lev (L ++ M) = flatL lev L ++ flatL lev M
  | [], M => by rw [flatL_nil]; rfl
  | x :: r, M => by rw [List.cons_append, flatL_cons, flatL_cons, flatL_app lev r M, List.append_assoc]
theorem flatL_snoc (lev : Nat) (L : List Stm) (x : Stm) : flatL lev (L ++ [x]) = flatL lev L ++ flatS lev x := by rw [flatL_app, flatL_cons, flatL_nil, List.append_nil]
/-- How much a list of pairs holds. -/
def sizeTwo : List Two → Nat
  | [] => 0
  | q :: r => q.1.size + q.2.size + 1 + sizeTwo r
mutual
/-- How much a tree holds. -/
def sizeS : Stm → Nat
  | .mk _ n r a b => n.size + sizeTwo r + sizeTwo a + sizeL b + 1
def sizeL : List Stm → Nat
  | [] => 0
  | x :: r => sizeS x + sizeL r
end
theorem sizeL_cons (x : Stm) (r : List Stm) : sizeL (x :: r) = sizeS x + sizeL r := by rw [sizeL]
theorem sizeL_nil : sizeL [] = 0 := by rw [sizeL]
theorem sizeS_body (x : Stm) : sizeL x.body + x.name.size + sizeTwo x.refs + sizeTwo x.attrs + 1 = sizeS x := by
  cases x; rw [sizeS]; simp only [Stm.body, Stm.name, Stm.refs, Stm.attrs]; omega
theorem sizeL_at : ∀ (L : List Stm) (k : Nat) (h : k < L.length), sizeS L[k] ≤ sizeL L
  | [], k, h => absurd h (by simp)
  | x :: r, 0, _ => by rw [sizeL_cons]; simp
  | x :: r, k + 1, h => by
    have := sizeL_at r k (by simpa using h)
    rw [sizeL_cons]; simp only [List.getElem_cons_succ]; omega
theorem sizeTwo_len : ∀ L : List Two, L.length ≤ sizeTwo L
  | [] => by simp [sizeTwo]
  | q :: r => by have := sizeTwo_len r; rw [sizeTwo, List.length_cons]; omega
theorem sizeTwo_at : ∀ (L : List Two) (q : Two), q ∈ L → q.1.size + q.2.size + 1 ≤ sizeTwo L
  | x :: r, q, h => by
    rw [sizeTwo]
    rcases List.mem_cons.1 h with rfl | h
    · omega
    · have := sizeTwo_at r q h; omega
mutual
theorem flatS_len (lev : Nat) : ∀ x : Stm, (flatS lev x).length ≤ sizeS x
  | .mk k n r a b => by
    rw [flatS, sizeS, List.length_cons]
    have := flatL_len (if k = 5 then lev + 1 else lev) b
    omega
theorem flatL_len (lev : Nat) : ∀ L : List Stm, (flatL lev L).length ≤ sizeL L
  | [] => by rw [flatL, sizeL]; simp
  | x :: r => by
    rw [flatL, sizeL, List.length_append]
    have h1 := flatS_len lev x
    have h2 := flatL_len lev r
    omega
end
theorem sizeL_len : ∀ L : List Stm, L.length ≤ sizeL L
  | [] => by rw [sizeL]; simp
  | x :: r => by
    have h1 := sizeS_body x
    have h2 := sizeL_len r
    rw [sizeL, List.length_cons]; omega
def okT (b : UInt8) : Bool := decide (32 ≤ b.toNat) && decide (b.toNat ≤ 126)
/-- One attribute without a key. -/
def setB : List Two → Bool
  | [q] => decide (q.1.size = 0)
  | _ => false
/-- The statement has the form of its kind. -/
def formB (x : Stm) : Bool :=
  if x.kind = 1 then x.refs.isEmpty && x.body.isEmpty
  else if x.kind = 2 then decide (x.name.size = 0) && x.body.isEmpty && decide (2 ≤ x.refs.length)
  else if x.kind = 3 then x.refs.isEmpty && x.body.isEmpty && (decide (x.name.data.toList = [110, 111, 100, 101]) || decide (x.name.data.toList = [101, 100, 103, 101]))
  else if x.kind = 4 then x.refs.isEmpty && x.body.isEmpty && setB x.attrs
  else if x.kind = 5 then x.refs.isEmpty && x.attrs.isEmpty
  else false
/-- The first error of the attributes. -/
def attrsGo (kind : Int) : List Two → List Two → Int
  | [], _ => 0
  | q :: r, done =>
    if kind ≠ 4 ∧ nameB q.1.data.toList = false then 5
    else if done.any (fun p => decide (p.1 = q.1)) = true then 6
    else if 32 < q.2.size then 2
    else if q.2.data.toList.all okT = false then 7
    else attrsGo kind r (done ++ [q])
def attrsE (x : Stm) : Int := if 16 < x.attrs.length then 2 else attrsGo x.kind x.attrs []
def refB (r : Two) : Bool := nameB r.1.data.toList && (decide (r.2.size = 0) || nameB r.2.data.toList)
/-- The first error of a statement. -/
def stmE (p : Stm × Nat) : Int :=
  if formB p.1 = false then 1
  else if p.1.kind = 5 ∧ 6 ≤ p.2 then 2
  else if (p.1.kind = 1 ∨ p.1.kind = 4 ∨ p.1.kind = 5) ∧ nameB p.1.name.data.toList = false then 5
  else if p.1.refs.all refB = false then 5
  else attrsE p.1
def firstE : List (Stm × Nat) → Int
  | [] => 0
  | p :: r => if stmE p ≠ 0 then stmE p else firstE r
/-- The first error of a tree. -/
def validE (name : ByteArray) (body : List Stm) : Int :=
  if nameB name.data.toList = false then 5 else if 512 < (flatL 0 body).length then 2 else firstE (flatL 0 body)
end Go.Proofs.YtmallladeidkpaaGreatDoor.Tr

/- The text of a tree: plain. -/
namespace Go.Proofs.YtmallladeidkpaaGreatDoor.Tr
open Go.Lib Fx Lx

/-- The text of a value. -/
def valueT (s : ByteArray) : List UInt8 := if nameB s.data.toList = true then s.data.toList else if (parse s.data.toList).2 = 0 then s.data.toList else (quote s.data.toList).1
def attrT (q : Two) : List UInt8 := q.1.data.toList ++ 61 :: valueT q.2
/-- Texts with a mark between. -/
def sepT (sep : List UInt8) : List (List UInt8) → List UInt8
  | [] => []
  | [x] => x
  | x :: y :: r => x ++ sep ++ sepT sep (y :: r)
def listedT (a : List Two) : List UInt8 := 91 :: (sepT [44, 32] (a.map attrT) ++ [93])
def tailT (a : List Two) : List UInt8 := if a.isEmpty = true then [59] else 32 :: (listedT a ++ [59])
def refT (r : Two) : List UInt8 := r.1.data.toList ++ (if r.2.size = 0 then [] else 58 :: r.2.data.toList)
def arrow (d : Bool) : List UInt8 := if d then [32, 45, 62, 32] else [32, 45, 45, 32]
def indT (n : Nat) : List UInt8 := List.replicate (4 * n) 32
mutual
def printS (d : Bool) (lev : Nat) : Stm → List UInt8
  | .mk k n r a b =>
    if k = 1 then indT lev ++ n.data.toList ++ tailT a ++ [10]
    else if k = 2 then indT lev ++ sepT (arrow d) (r.map refT) ++ tailT a ++ [10]
    else if k = 3 then indT lev ++ n.data.toList ++ [32] ++ listedT a ++ [59, 10]
    else if k = 4 then indT lev ++ [115, 101, 116, 32] ++ n.data.toList ++ [32, 61, 32] ++ valueT (a.headD (⟨#[]⟩, ⟨#[]⟩)).2 ++ [59, 10]
    else indT lev ++ [99, 108, 117, 115, 116, 101, 114, 32] ++ n.data.toList ++ [32, 123, 10] ++ printL d (lev + 1) b ++ indT lev ++ [125, 10]
def printL (d : Bool) (lev : Nat) : List Stm → List UInt8
  | [] => []
  | x :: r => printS d lev x ++ printL d lev r
end
def printT (d : Bool) (name : ByteArray) (body : List Stm) : List UInt8 :=
  (if d then [100, 105, 103, 114, 97, 112, 104, 32] else [103, 114, 97, 112, 104, 32]) ++ name.data.toList ++ [32, 123, 10] ++ printL d 1 body ++ [125, 10]
theorem printL_nil (d : Bool) (lev : Nat) : printL d lev [] = [] := by rw [printL]
theorem printL_cons (d : Bool) (lev : Nat) (x : Stm) (r : List Stm) : printL d lev (x :: r) = printS d lev x ++ printL d lev r := by rw [printL]
theorem printL_snoc (d : Bool) (lev : Nat) (x : Stm) : ∀ L : List Stm, printL d lev (L ++ [x]) = printL d lev L ++ printS d lev x
  | [] => by rw [List.nil_append, printL_cons, printL_nil, List.append_nil, List.nil_append]
  | y :: r => by rw [List.cons_append, printL_cons, printL_cons, printL_snoc d lev x r, List.append_assoc]
theorem sepT_snoc (sep x : List UInt8) : ∀ L : List (List UInt8), sepT sep (L ++ [x]) = if L.isEmpty = true then x else sepT sep L ++ sep ++ x
  | [] => rfl
  | [y] => by simp [sepT]
  | y :: z :: r => by
    have ih := sepT_snoc sep x (z :: r)
    rw [if_neg (by simp)] at ih ⊢
    show y ++ sep ++ sepT sep (z :: r ++ [x]) = _
    rw [ih]
    show _ = y ++ sep ++ sepT sep (z :: r) ++ sep ++ x
    simp [List.append_assoc]
end Go.Proofs.YtmallladeidkpaaGreatDoor.Tr

/- The tokens of a printed tree; no program in sight. -/
namespace Go.Proofs.YtmallladeidkpaaGreatDoor.Tr
open Go.Lib Fx Lx

def mk (m : List UInt8) (ln : Int) : Tok := ⟨5, m, 0, ln⟩
def nm (x : ByteArray) (ln : Int) : Tok := ⟨1, x.data.toList, 0, ln⟩
def valTok (s : ByteArray) (ln : Int) : Tok := if nameB s.data.toList = true then ⟨1, s.data.toList, 0, ln⟩ else if (parse s.data.toList).2 = 0 then ⟨3, [], (parse s.data.toList).1, ln⟩ else ⟨4, s.data.toList, 0, ln⟩
def attrToks (ln : Int) (q : Two) : List Tok := [nm q.1 ln, mk [61] ln, valTok q.2 ln]
def sepToks (m : Tok) : List (List Tok) → List Tok
  | [] => []
  | [x] => x
  | x :: y :: r => x ++ m :: sepToks m (y :: r)
def listToks (ln : Int) (a : List Two) : List Tok := mk [91] ln :: (sepToks (mk [44] ln) (a.map (attrToks ln)) ++ [mk [93] ln])
def tailToks (ln : Int) (a : List Two) : List Tok := (if a.isEmpty = true then [] else listToks ln a) ++ [mk [59] ln]
def refToks (ln : Int) (r : Two) : List Tok := nm r.1 ln :: (if r.2.size = 0 then [] else [mk [58] ln, nm r.2 ln])
def arrowM (d : Bool) : List UInt8 := if d then [45, 62] else [45, 45]
mutual
def linesS : Stm → Nat
  | .mk k _ _ _ b => if k = 5 then 2 + linesL b else 1
def linesL : List Stm → Nat
  | [] => 0
  | x :: r => linesS x + linesL r
end
mutual
def toksS (d : Bool) (ln : Int) : Stm → List Tok
  | .mk k n r a b =>
    if k = 1 then nm n ln :: tailToks ln a
    else if k = 2 then sepToks (mk (arrowM d) ln) (r.map (refToks ln)) ++ tailToks ln a
    else if k = 3 then ⟨2, n.data.toList, 0, ln⟩ :: (listToks ln a ++ [mk [59] ln])
    else if k = 4 then [⟨2, [115, 101, 116], 0, ln⟩, nm n ln, mk [61] ln, valTok (a.headD (⟨#[]⟩, ⟨#[]⟩)).2 ln, mk [59] ln]
    else ⟨2, [99, 108, 117, 115, 116, 101, 114], 0, ln⟩ :: nm n ln :: mk [123] ln :: (toksL d (ln + 1) b ++ [mk [125] (ln + 1 + linesL b)])
def toksL (d : Bool) (ln : Int) : List Stm → List Tok
  | [] => []
  | x :: r => toksS d ln x ++ toksL d (ln + linesS x) r
end
def toksT (d : Bool) (name : ByteArray) (body : List Stm) : List Tok :=
  ⟨2, if d then [100, 105, 103, 114, 97, 112, 104] else [103, 114, 97, 112, 104], 0, 1⟩ :: nm name 1 :: mk [123] 1 :: (toksL d 2 body ++ [mk [125] (2 + linesL body)])

/-- What a valid statement holds, whatever its level. -/
def okS (x : Stm) : Prop := formB x = true ∧ ((x.kind = 1 ∨ x.kind = 4 ∨ x.kind = 5) → nameB x.name.data.toList = true) ∧ x.refs.all refB = true ∧ (∀ q ∈ x.attrs, (x.kind ≠ 4 → nameB q.1.data.toList = true) ∧ q.2.size ≤ 32 ∧ q.2.data.toList.all okT = true)
theorem attrsGo_ok (kind : Int) : ∀ (L D : List Two), attrsGo kind L D = 0 → ∀ q ∈ L, (kind ≠ 4 → nameB q.1.data.toList = true) ∧ q.2.size ≤ 32 ∧ q.2.data.toList.all okT = true
  | x :: r, D, h, q, hq => by
    rw [attrsGo] at h
    split at h
    · exact absurd h (by decide)
    · rename_i h1
      split at h
      · exact absurd h (by decide)
      · split at h
        · exact absurd h (by decide)
        · rename_i h3
          split at h
          · exact absurd h (by decide)
          · rename_i h4
            rcases List.mem_cons.1 hq with rfl | hq
            · refine ⟨fun hk => ?_, by omega, by simpa using h4⟩
              cases hn : nameB q.1.data.toList
              · exact absurd ⟨hk, hn⟩ h1
              · rfl
            · exact attrsGo_ok kind r _ h q hq
theorem okS_of (x : Stm) (lev : Nat) (h : stmE (x, lev) = 0) : okS x := by
  unfold stmE at h
  dsimp only at h
  split at h
  · exact absurd h (by decide)
  · rename_i h1
    split at h
    · exact absurd h (by decide)
    · split at h
      · exact absurd h (by decide)
      · rename_i h3
        split at h
        · exact absurd h (by decide)
        · rename_i h4
          refine ⟨by simpa using h1, fun hk => ?_, by simpa using h4, ?_⟩
          · cases hn : nameB x.name.data.toList
            · exact absurd ⟨hk, hn⟩ h3
            · rfl
          · unfold attrsE at h
            split at h
            · exact absurd h (by decide)
            · exact attrsGo_ok x.kind x.attrs [] h
mutual
/-- All statements of a list, and of their bodies. -/
def AllS (p : Stm → Prop) : Stm → Prop
  | .mk k n r a b => p (.mk k n r a b) ∧ AllL p b
def AllL (p : Stm → Prop) : List Stm → Prop
  | [] => True
  | x :: r => AllS p x ∧ AllL p r
end
mutual
theorem allS_flat (p : Stm → Prop) (lev : Nat) : ∀ x : Stm, (∀ q ∈ flatS lev x, p q.1) → AllS p x
  | .mk k n r a b, h => by
    rw [flatS] at h
    rw [AllS]
    exact ⟨h _ List.mem_cons_self, allL_flat p _ b fun q hq => h q (List.mem_cons_of_mem _ hq)⟩
theorem allL_flat (p : Stm → Prop) (lev : Nat) : ∀ L : List Stm, (∀ q ∈ flatL lev L, p q.1) → AllL p L
  | [], _ => by rw [AllL]; trivial
  | x :: r, h => by
    rw [flatL] at h
    rw [AllL]
    exact ⟨allS_flat p lev x fun q hq => h q (List.mem_append_left _ hq), allL_flat p lev r fun q hq => h q (List.mem_append_right _ hq)⟩
end
theorem firstE_zero : ∀ (l : List (Stm × Nat)), firstE l = 0 → ∀ p ∈ l, stmE p = 0
  | q :: r, h, p, hp => by
    rw [firstE] at h
    by_cases hq : stmE q = 0
    · rw [if_neg (fun h' => h' hq)] at h
      rcases List.mem_cons.1 hp with rfl | hp
      · exact hq
      · exact firstE_zero r h p hp
    · rw [if_pos hq] at h; exact absurd h hq
theorem valid_ok (name : ByteArray) (L : List Stm) (h : validE name L = 0) : nameB name.data.toList = true ∧ (flatL 0 L).length ≤ 512 ∧ (∀ p ∈ flatL 0 L, stmE p = 0) ∧ AllL okS L := by
  unfold validE at h
  split at h
  · exact absurd h (by decide)
  · rename_i h1
    split at h
    · exact absurd h (by decide)
    · rename_i h2
      have h3 := firstE_zero _ h
      exact ⟨by simpa using h1, by omega, h3, allL_flat okS 0 L fun q hq => okS_of q.1 q.2 (h3 q hq)⟩

theorem sep_of {c : UInt8} (h : c = 10 ∨ c = 32 ∨ c = 58 ∨ c = 59 ∨ c = 61 ∨ c = 44 ∨ c = 93) : sepB c := by
  rcases h with rfl | rfl | rfl | rfl | rfl | rfl | rfl <;> (unfold sepB; decide)
/-- The text begins with a separating byte. -/
def SepH (t : List UInt8) : Prop := ∃ c r, t = c :: r ∧ sepB c
theorem SepH.at {c : UInt8} (r : List UInt8) (h : c = 10 ∨ c = 32 ∨ c = 58 ∨ c = 59 ∨ c = 61 ∨ c = 44 ∨ c = 93) : SepH (c :: r) := ⟨c, r, rfl, sep_of h⟩
theorem Z_nm (ln : Int) (L : List Tok) (x : ByteArray) (t : List UInt8) (hx : nameB x.data.toList = true) (ht : SepH t) : Z ln L (x.data.toList ++ t) = Z ln (L ++ [nm x ln]) t := by
  obtain ⟨c, r, rfl, hc⟩ := ht
  have hw : Lx.written ⟨1, x.data.toList, 0, 0⟩ = (x.data.toList, true) := by unfold Lx.written; rw [if_pos rfl]; simp [hx]
  have h := Z_sep ln L r hc ⟨1, x.data.toList, 0, 0⟩ (by rw [hw])
  rw [hw] at h
  exact h
theorem Z_kw (ln : Int) (L : List Tok) (x t : List UInt8) (hx : kw x = true) (ht : SepH t) : Z ln L (x ++ t) = Z ln (L ++ [⟨2, x, 0, ln⟩]) t := by
  obtain ⟨c, r, rfl, hc⟩ := ht
  have hw : Lx.written ⟨2, x, 0, 0⟩ = (x, true) := by unfold Lx.written; rw [if_neg (show ¬ (2 : Int) = 1 by decide), if_pos rfl]; simp [hx]
  have h := Z_sep ln L r hc ⟨2, x, 0, 0⟩ (by rw [hw])
  rw [hw] at h
  exact h
theorem okT_plain (l : List UInt8) (h : l.all okT = true) : plainB l = true := by
  unfold plainB
  rw [List.all_eq_true] at h ⊢
  intro b hb
  have := h b hb
  unfold okT at this
  simp only [Bool.and_eq_true, decide_eq_true_eq] at this ⊢
  exact this
theorem quote_ok (s : ByteArray) (h1 : s.size ≤ 32) (h2 : s.data.toList.all okT = true) : (quote s.data.toList).2 = 0 := by
  unfold quote
  rw [if_neg (by rw [← size_len']; omega), okT_plain _ h2]; rfl
where size_len' : s.size = s.data.toList.length := by simp
theorem Z_val (ln : Int) (L : List Tok) (s : ByteArray) (t : List UInt8) (h1 : s.size ≤ 32) (h2 : s.data.toList.all okT = true) (ht : SepH t) : Z ln L (valueT s ++ t) = Z ln (L ++ [valTok s ln]) t := by
  obtain ⟨c, r, rfl, hc⟩ := ht
  unfold valueT valTok
  by_cases n1 : nameB s.data.toList = true
  · rw [if_pos n1, if_pos n1]
    exact Z_nm ln L s _ n1 ⟨c, r, rfl, hc⟩
  rw [if_neg n1, if_neg n1]
  by_cases n2 : (parse s.data.toList).2 = 0
  · rw [if_pos n2, if_pos n2]
    obtain ⟨e, b1, b2⟩ := exact_ok s.data.toList (parse s.data.toList).1 (by rw [← n2])
    have hw : Lx.written ⟨3, [], (parse s.data.toList).1, 0⟩ = (s.data.toList, true) := by
      unfold Lx.written
      rw [if_neg (show ¬ (3 : Int) = 1 by decide), if_neg (show ¬ (3 : Int) = 2 by decide), if_pos rfl]
      dsimp only
      rw [e]
      simp [b1, b2]
    have h := Z_sep ln L r hc ⟨3, [], (parse s.data.toList).1, 0⟩ (by rw [hw])
    rw [hw] at h
    exact h
  · rw [if_neg n2, if_neg n2]
    have hq := quote_ok s h1 h2
    have hw : Lx.written ⟨4, s.data.toList, 0, 0⟩ = ((quote s.data.toList).1, true) := by
      unfold Lx.written
      rw [if_neg (show ¬ (4 : Int) = 1 by decide), if_neg (show ¬ (4 : Int) = 2 by decide), if_neg (show ¬ (4 : Int) = 3 by decide), if_pos rfl]
      dsimp only
      rw [hq]; rfl
    have h := Z_sep ln L r hc ⟨4, s.data.toList, 0, 0⟩ (by rw [hw])
    rw [hw] at h
    exact h
theorem Z_m1 (ln : Int) (L : List Tok) (c : UInt8) (t : List UInt8) (h : [c] ∈ marks) : Z ln L (c :: t) = Z ln (L ++ [mk [c] ln]) t := Z_mark ln L t [c] h
theorem Z_attr (ln : Int) (L : List Tok) (q : Two) (t : List UInt8) (h0 : nameB q.1.data.toList = true) (h1 : q.2.size ≤ 32) (h2 : q.2.data.toList.all okT = true) (ht : SepH t) : Z ln L (attrT q ++ t) = Z ln (L ++ attrToks ln q) t := by
  unfold attrT attrToks
  rw [List.append_assoc, List.cons_append, Z_nm ln L q.1 _ h0 (SepH.at _ (by decide)), Z_m1 _ _ _ _ (by decide), Z_val _ _ _ _ h1 h2 ht]
  simp
theorem Z_sepT (ln : Int) (sep : List UInt8) (m : Tok) (F : Two → List UInt8) (G : Two → List Tok) (p : Two → Prop) (hsep : ∀ t, SepH (sep ++ t)) (hm : ∀ (L : List Tok) t, Z ln L (sep ++ t) = Z ln (L ++ [m]) t)
    (hF : ∀ (L : List Tok) q t, p q → SepH t → Z ln L (F q ++ t) = Z ln (L ++ G q) t) : ∀ (l : List Two), (∀ q ∈ l, p q) → ∀ (L : List Tok) (t : List UInt8), SepH t → Z ln L (sepT sep (l.map F) ++ t) = Z ln (L ++ sepToks m (l.map G)) t
  | [], _, L, t, _ => by simp [sepT, sepToks]
  | [x], h, L, t, ht => by
    show Z ln L (F x ++ t) = Z ln (L ++ G x) t
    exact hF L x t (h x (by simp)) ht
  | x :: y :: r, h, L, t, ht => by
    show Z ln L (F x ++ sep ++ sepT sep ((y :: r).map F) ++ t) = Z ln (L ++ (G x ++ m :: sepToks m ((y :: r).map G))) t
    rw [List.append_assoc, List.append_assoc, hF L x _ (h x (by simp)) (hsep _), hm, Z_sepT ln sep m F G p hsep hm hF (y :: r) (fun q hq => h q (by simp [hq])) _ t ht]
    simp
def okA (q : Two) : Prop := nameB q.1.data.toList = true ∧ q.2.size ≤ 32 ∧ q.2.data.toList.all okT = true
theorem Z_list (ln : Int) (L : List Tok) (a : List Two) (t : List UInt8) (h : ∀ q ∈ a, okA q) : Z ln L (listedT a ++ t) = Z ln (L ++ listToks ln a) t := by
  unfold listedT listToks
  rw [List.cons_append, Z_m1 _ _ _ _ (by decide), List.append_assoc, List.singleton_append]
  rw [Z_sepT ln [44, 32] (mk [44] ln) attrT (attrToks ln) okA (fun t => SepH.at _ (by decide)) (fun L t => by
    show Z ln L (44 :: 32 :: t) = _
    rw [Z_m1 _ _ _ _ (by decide), Z_sp]) (fun L q t hq ht => Z_attr ln L q t hq.1 hq.2.1 hq.2.2 ht) a h _ _ (SepH.at _ (by decide))]
  rw [Z_m1 _ _ _ _ (by decide)]
  simp
theorem Z_tail (ln : Int) (L : List Tok) (a : List Two) (t : List UInt8) (h : ∀ q ∈ a, okA q) : Z ln L (tailT a ++ t) = Z ln (L ++ tailToks ln a) t := by
  unfold tailT tailToks
  by_cases h0 : a.isEmpty = true
  · rw [if_pos h0, if_pos h0]
    show Z ln L (59 :: t) = _
    rw [Z_m1 _ _ _ _ (by decide)]; rfl
  · rw [if_neg h0, if_neg h0]
    show Z ln L (32 :: (listedT a ++ [59] ++ t)) = _
    rw [Z_sp, List.append_assoc, Z_list ln L a _ h]
    show Z ln _ (59 :: t) = _
    rw [Z_m1 _ _ _ _ (by decide)]; simp
theorem Z_ref (ln : Int) (L : List Tok) (r : Two) (t : List UInt8) (h : refB r = true) (ht : SepH t) : Z ln L (refT r ++ t) = Z ln (L ++ refToks ln r) t := by
  unfold refB at h
  simp only [Bool.and_eq_true, Bool.or_eq_true, decide_eq_true_eq] at h
  unfold refT refToks
  by_cases h0 : r.2.size = 0
  · rw [if_pos h0, if_pos h0, List.append_nil, Z_nm ln L r.1 t h.1 ht]
  · rw [if_neg h0, if_neg h0, List.append_assoc]
    show Z ln L (r.1.data.toList ++ (58 :: (r.2.data.toList ++ t))) = _
    rw [Z_nm ln L r.1 _ h.1 (SepH.at _ (by decide)), Z_m1 _ _ _ _ (by decide), Z_nm _ _ _ _ (h.2.resolve_left h0) ht]
    simp
theorem Z_arrow (d : Bool) (ln : Int) (L : List Tok) (t : List UInt8) : Z ln L (arrow d ++ t) = Z ln (L ++ [mk (arrowM d) ln]) t := by
  cases d
  · show Z ln L (32 :: ([45, 45] ++ 32 :: t)) = _
    rw [Z_sp, Z_mark ln L _ [45, 45] (by decide), Z_sp]; rfl
  · show Z ln L (32 :: ([45, 62] ++ 32 :: t)) = _
    rw [Z_sp, Z_mark ln L _ [45, 62] (by decide), Z_sp]; rfl
theorem sep_arrow (d : Bool) (t : List UInt8) : SepH (arrow d ++ t) := by
  cases d <;> exact SepH.at _ (by decide)
theorem sep_tail (a : List Two) (t : List UInt8) : SepH (tailT a ++ t) := by
  unfold tailT
  by_cases h0 : a.isEmpty = true
  · rw [if_pos h0]; exact SepH.at _ (by decide)
  · rw [if_neg h0]; exact SepH.at _ (by decide)
theorem form_kinds (x : Stm) (h : formB x = true) : (x.kind = 1 ∨ x.kind = 2 ∨ x.kind = 3 ∨ x.kind = 4 ∨ x.kind = 5) ∧ (x.kind = 3 → kw x.name.data.toList = true) ∧ (x.kind = 4 → ∃ q, x.attrs = [q] ∧ q.1.size = 0) := by
  unfold formB at h
  by_cases h1 : x.kind = 1
  · exact ⟨.inl h1, fun h => by omega, fun h => by omega⟩
  rw [if_neg h1] at h
  by_cases h2 : x.kind = 2
  · exact ⟨.inr (.inl h2), fun h => by omega, fun h => by omega⟩
  rw [if_neg h2] at h
  by_cases h3 : x.kind = 3
  · rw [if_pos h3] at h
    refine ⟨.inr (.inr (.inl h3)), fun _ => ?_, fun h => by omega⟩
    simp only [Bool.and_eq_true, Bool.or_eq_true, decide_eq_true_eq] at h
    rcases h.2 with e | e <;> (rw [e]; decide)
  rw [if_neg h3] at h
  by_cases h4 : x.kind = 4
  · rw [if_pos h4] at h
    refine ⟨.inr (.inr (.inr (.inl h4))), fun h => by omega, fun _ => ?_⟩
    simp only [Bool.and_eq_true] at h
    have h5 := h.2
    unfold setB at h5
    split at h5
    · rename_i q e; exact ⟨q, e, by simpa using h5⟩
    · exact absurd h5 (by decide)
  rw [if_neg h4] at h
  by_cases h5 : x.kind = 5
  · exact ⟨.inr (.inr (.inr (.inr h5))), fun h => by omega, fun h => by omega⟩
  rw [if_neg h5] at h
  exact absurd h (by decide)
theorem Z_ind (ln : Int) (L : List Tok) (n : Nat) (t : List UInt8) : Z ln L (indT n ++ t) = Z ln L t := Z_sps ln L t _
mutual
/-- The tokens of a statement's lines. -/
theorem Z_stm (d : Bool) : ∀ (x : Stm) (lev : Nat) (ln : Int) (L : List Tok) (t : List UInt8), AllS okS x → Z ln L (printS d lev x ++ t) = Z (ln + linesS x) (L ++ toksS d ln x) t
  | .mk k n r a b, lev, ln, L, t, h => by
    rw [AllS] at h
    obtain ⟨⟨hf, hn, hr, ha⟩, hb⟩ := h
    obtain ⟨hk, hk3, hk4⟩ := form_kinds _ hf
    simp only [Stm.kind, Stm.name, Stm.refs, Stm.attrs] at hn hr ha hk hk3 hk4
    rw [printS, toksS, linesS]
    have haA : k ≠ 4 → ∀ q ∈ a, okA q := fun h4 q hq => ⟨(ha q hq).1 h4, (ha q hq).2⟩
    by_cases h1 : k = 1
    · rw [if_pos h1, if_pos h1, if_neg (by omega)]
      simp only [List.append_assoc]
      rw [Z_ind, Z_nm ln L n _ (hn (.inl h1)) (sep_tail _ _), Z_tail ln _ a _ (haA (by omega))]
      show Z ln _ (10 :: t) = _
      rw [Z_nl]; simp
    rw [if_neg h1, if_neg h1]
    by_cases h2 : k = 2
    · rw [if_pos h2, if_pos h2, if_neg (by omega)]
      simp only [List.append_assoc]
      rw [Z_ind, Z_sepT ln (arrow d) (mk (arrowM d) ln) refT (refToks ln) (fun q => refB q = true) (sep_arrow d) (fun L t => Z_arrow d ln L t) (fun L q t hq ht => Z_ref ln L q t hq ht) r (fun q hq => List.all_eq_true.1 hr q hq) L _ (sep_tail _ _), Z_tail ln _ a _ (haA (by omega))]
      show Z ln _ (10 :: t) = _
      rw [Z_nl]; simp
    rw [if_neg h2, if_neg h2]
    by_cases h3 : k = 3
    · rw [if_pos h3, if_pos h3, if_neg (by omega)]
      simp only [List.append_assoc]
      rw [Z_ind]
      show Z ln L (n.data.toList ++ 32 :: (listedT a ++ 59 :: 10 :: t)) = _
      rw [Z_kw ln L _ _ (hk3 h3) (SepH.at _ (by decide)), Z_sp, Z_list ln _ a _ (haA (by omega)), Z_m1 _ _ _ _ (by decide), Z_nl]
      simp
    rw [if_neg h3, if_neg h3]
    by_cases h4 : k = 4
    · rw [if_pos h4, if_pos h4, if_neg (by omega)]
      obtain ⟨q, rfl, _⟩ := hk4 h4
      obtain ⟨_, q1, q2⟩ := ha q (by simp)
      simp only [List.append_assoc]
      rw [Z_ind]
      show Z ln L ([115, 101, 116] ++ 32 :: (n.data.toList ++ 32 :: 61 :: 32 :: (valueT q.2 ++ 59 :: 10 :: t))) = _
      rw [Z_kw ln L _ _ (by decide) (SepH.at _ (by decide)), Z_sp, Z_nm ln _ n _ (hn (.inr (.inl h4))) (SepH.at _ (by decide)), Z_sp, Z_m1 _ _ _ _ (by decide), Z_sp, Z_val ln _ q.2 _ q1 q2 (SepH.at _ (by decide)), Z_m1 _ _ _ _ (by decide), Z_nl]
      simp
    rw [if_neg h4, if_neg h4]
    have h5 : k = 5 := by clear hk3 hk4; omega
    rw [if_pos h5]
    simp only [List.append_assoc]
    rw [Z_ind]
    show Z ln L ([99, 108, 117, 115, 116, 101, 114] ++ 32 :: (n.data.toList ++ 32 :: 123 :: 10 :: (printL d (lev + 1) b ++ (indT lev ++ 125 :: 10 :: t)))) = _
    rw [Z_kw ln L _ _ (by decide) (SepH.at _ (by decide)), Z_sp, Z_nm ln _ n _ (hn (.inr (.inr h5))) (SepH.at _ (by decide)), Z_sp, Z_m1 _ _ _ _ (by decide), Z_nl, Z_stms d b (lev + 1) (ln + 1) _ _ hb, Z_ind, Z_m1 _ _ _ _ (by decide), Z_nl]
    rw [show ln + 1 + (linesL b : Int) + 1 = ln + ((2 + linesL b : Nat) : Int) by omega]
    simp
theorem Z_stms (d : Bool) : ∀ (X : List Stm) (lev : Nat) (ln : Int) (L : List Tok) (t : List UInt8), AllL okS X → Z ln L (printL d lev X ++ t) = Z (ln + linesL X) (L ++ toksL d ln X) t
  | [], lev, ln, L, t, _ => by rw [printL, toksL, linesL]; simp
  | x :: r, lev, ln, L, t, h => by
    rw [AllL] at h
    rw [printL, toksL, linesL, List.append_assoc, Z_stm d x lev ln L _ h.1, Z_stms d r lev (ln + linesS x) _ t h.2]
    rw [show ln + (linesS x : Int) + linesL r = ln + ((linesS x + linesL r : Nat) : Int) by omega]
    simp
end
/-- The tokens of a printed tree. -/
theorem Z_tree (d : Bool) (name : ByteArray) (body : List Stm) (h1 : nameB name.data.toList = true) (h2 : AllL okS body) : Z 1 [] (printT d name body) = (toksT d name body, 0, 0) := by
  have hk : Z 1 [] (printT d name body) = Z 1 [⟨2, if d then [100, 105, 103, 114, 97, 112, 104] else [103, 114, 97, 112, 104], 0, 1⟩] (name.data.toList ++ 32 :: 123 :: 10 :: (printL d 1 body ++ [125, 10])) := by
    unfold printT
    simp only [List.append_assoc]
    cases d
    · show Z 1 [] ([103, 114, 97, 112, 104] ++ 32 :: (name.data.toList ++ 32 :: 123 :: 10 :: (printL false 1 body ++ [125, 10]))) = _
      rw [Z_kw 1 [] _ _ (by decide) (SepH.at _ (by decide)), Z_sp]; rfl
    · show Z 1 [] ([100, 105, 103, 114, 97, 112, 104] ++ 32 :: (name.data.toList ++ 32 :: 123 :: 10 :: (printL true 1 body ++ [125, 10]))) = _
      rw [Z_kw 1 [] _ _ (by decide) (SepH.at _ (by decide)), Z_sp]; rfl
  rw [hk, Z_nm _ _ name _ h1 (SepH.at _ (by decide)), Z_sp, Z_m1 _ _ _ _ (by decide), Z_nl, Z_stms d body 1 _ _ _ h2, Z_m1 _ _ _ _ (by decide), Z_nl, Z_nil]
  unfold toksT
  simp
theorem tokenize_tree (d : Bool) (name : ByteArray) (body : List Stm) (h : validE name body = 0) (hl : (printT d name body).length ≤ 16384) : tokenize (printT d name body) = (toksT d name body, 0, 0) := by
  obtain ⟨h1, _, _, h2⟩ := valid_ok name body h
  unfold tokenize
  rw [if_neg (by omega)]
  exact Z_tree d name body h1 h2
end Go.Proofs.YtmallladeidkpaaGreatDoor.Tr
