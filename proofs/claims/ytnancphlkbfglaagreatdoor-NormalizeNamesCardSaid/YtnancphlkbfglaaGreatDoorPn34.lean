/- Packed texts: NorNam, TreAll, NorBar, NorOpt -/
import Derived.Test.YtnancphlkbfglaaGreatDoorPn14
import Derived.Test.YtnancphlkbfglaaGreatDoorPn19
import Derived.Test.YtnancphlkbfglaaGreatDoorPn01
set_option linter.unusedVariables false
set_option linter.unusedSimpArgs false
/- Which names a graph's nodes and clusters have: plain laws. -/
namespace Go.Proofs.YtnancphlkbfglaaGreatDoor.Nm
open Go.Lib Fx Lx Tr At

/-- A name is added, if it is new. -/
def addN (out : List ByteArray) (n : ByteArray) : List ByteArray := if out.any (fun q => decide (q = n)) = true then out else out ++ [n]
/-- The names of a statement are added. -/
def nmS (out : List ByteArray) (p : Stm × Nat) : List ByteArray := p.1.refs.foldl (fun o r => addN o r.1) (if p.1.kind = 1 then addN out p.1.name else out)
def namesT (body : List Stm) : List ByteArray := (flatL 0 body).foldl nmS []
def clusG (l : List (Stm × Nat)) : List ByteArray := (l.filter fun p => decide (p.1.kind = 5)).map fun p => p.1.name
theorem idx_names (n : ByteArray) : ∀ (L : List (ByteArray × Int)) (k : Nat), (idxGo n k L).isSome = (L.map Prod.fst).any (fun q => decide (q = n))
  | [], k => rfl
  | q :: r, k => by
    unfold idxGo
    by_cases h : q.1 = n
    · rw [if_pos h, List.map_cons, List.any_cons, decide_eq_true h]; rfl
    · rw [if_neg h, List.map_cons, List.any_cons, decide_eq_false h, Bool.false_or, idx_names n r (k + 1)]
theorem ment_names {n : ByteArray} {p : Pl} {S S' : St} {v : Nat} (h : ment n p S = .ok (v, S')) : S'.N.map Prod.fst = addN (S.N.map Prod.fst) n ∧ S'.C = S.C := by
  unfold ment at h
  split at h
  · cases h
  · have hi := idx_names n S.N 0
    unfold addN
    split at h
    · rename_i u hu
      injection h with h; injection h with h1 h2; subst h2
      rw [← hi, show idxGo n 0 S.N = some u from hu]
      exact ⟨rfl, rfl⟩
    · rename_i hu
      injection h with h; injection h with h1 h2; subst h2
      rw [← hi, show idxGo n 0 S.N = none from hu]
      exact ⟨by simp, rfl⟩
theorem chain_names {own : List Two} {p : Pl} : ∀ (rs : List Two) (last : Option (Nat × ByteArray)) (S S' : St), chainT own p rs last S = .ok S' → S'.N.map Prod.fst = rs.foldl (fun o r => addN o r.1) (S.N.map Prod.fst) ∧ S'.C = S.C
  | [], last, S, S', h => by unfold chainT at h; injection h with h; subst h; exact ⟨rfl, rfl⟩
  | r :: rs, last, S, S', h => by
    unfold chainT at h
    split at h
    · cases h
    · rename_i v S2 hm
      obtain ⟨h1, h2⟩ := ment_names hm
      have ih := chain_names rs _ _ S' h
      rw [List.foldl_cons, ← h1, ← h2]
      cases last with
      | none => exact ih
      | some l => exact ih
/-- What a statement's form says of its parts. -/
theorem form_parts (x : Stm) (h : formB x = true) : (x.kind ≠ 2 → x.refs = []) ∧ (x.kind ≠ 5 → x.body = []) := by
  unfold formB at h
  refine ⟨fun h2 => ?_, fun h5 => ?_⟩
  · by_cases h1 : x.kind = 1
    · rw [if_pos h1] at h; simp only [Bool.and_eq_true, List.isEmpty_iff] at h; exact h.1
    rw [if_neg h1, if_neg h2] at h
    by_cases h3 : x.kind = 3
    · rw [if_pos h3] at h; simp only [Bool.and_eq_true, List.isEmpty_iff] at h; exact h.1.1
    rw [if_neg h3] at h
    by_cases h4 : x.kind = 4
    · rw [if_pos h4] at h; simp only [Bool.and_eq_true, List.isEmpty_iff] at h; exact h.1.1
    rw [if_neg h4] at h
    by_cases h6 : x.kind = 5
    · rw [if_pos h6] at h; simp only [Bool.and_eq_true, List.isEmpty_iff] at h; exact h.1
    · rw [if_neg h6] at h; cases h
  · by_cases h1 : x.kind = 1
    · rw [if_pos h1] at h; simp only [Bool.and_eq_true, List.isEmpty_iff] at h; exact h.2
    rw [if_neg h1] at h
    by_cases h2 : x.kind = 2
    · rw [if_pos h2] at h; simp only [Bool.and_eq_true, List.isEmpty_iff] at h; exact h.1.2
    rw [if_neg h2] at h
    by_cases h3 : x.kind = 3
    · rw [if_pos h3] at h; simp only [Bool.and_eq_true, List.isEmpty_iff] at h; exact h.1.2
    rw [if_neg h3] at h
    by_cases h4 : x.kind = 4
    · rw [if_pos h4] at h; simp only [Bool.and_eq_true, List.isEmpty_iff] at h; exact h.1.2
    rw [if_neg h4, if_neg h5] at h; cases h
mutual
theorem stm_names : ∀ (x : Stm) (lev : Nat) (p p' : Pl) (S S' : St), okWS x → blkS p S x = .ok (p', S') → S'.N.map Prod.fst = (flatS lev x).foldl nmS (S.N.map Prod.fst) ∧ S'.C.map Prod.fst = S.C.map Prod.fst ++ clusG (flatS lev x)
  | .mk kd n rs al b, lev, p, p', S, S', ho, he => by
    rw [okWS] at ho
    obtain ⟨⟨-, -, -, -, -, hf⟩, hb⟩ := ho
    obtain ⟨hr, hbe⟩ := form_parts _ hf
    simp only [Stm.kind, Stm.refs, Stm.body] at hr hbe
    rw [flatS, List.foldl_cons]
    unfold clusG
    rw [List.filter_cons]
    unfold blkS at he
    split at he
    · cases he
    split at he
    · rename_i h1
      subst h1
      rw [hbe (by decide), hr (by decide), flatL_nil]
      split at he
      · cases he
      · rename_i v S2 hm
        injection he with he; injection he with h1 h2; subst h2
        obtain ⟨g1, g2⟩ := ment_names hm
        refine ⟨by rw [show nmS (S.N.map Prod.fst) ((Stm.mk 1 n [] al []), lev) = addN (S.N.map Prod.fst) n from rfl]; exact g1, ?_⟩
        show S2.C.map Prod.fst = _
        rw [g2]; simp [Stm.kind]
    split at he
    · rename_i h2
      subst h2
      rw [hbe (by decide), flatL_nil]
      split at he
      · cases he
      · rename_i S2 hm
        injection he with he; injection he with h1 h2; subst h2
        obtain ⟨g1, g2⟩ := chain_names rs none S S2 hm
        refine ⟨by rw [show nmS (S.N.map Prod.fst) ((Stm.mk 2 n rs al []), lev) = rs.foldl (fun o r => addN o r.1) (S.N.map Prod.fst) from rfl]; exact g1, ?_⟩
        rw [g2]; simp [Stm.kind]
    split at he
    · rename_i h3
      subst h3
      rw [hbe (by decide), hr (by decide), flatL_nil]
      have hs : S' = S := by split at he <;> (injection he with he; injection he with h1 h2; exact h2.symm)
      subst hs
      exact ⟨rfl, by simp [Stm.kind]⟩
    split at he
    · rename_i h5
      subst h5
      rw [hr (by decide)]
      split at he
      · cases he
      · split at he
        · cases he
        · rename_i S2 hm
          injection he with he; injection he with h1 h2; subst h2
          obtain ⟨g1, g2⟩ := stms_names b (lev + 1) _ _ _ hb hm
          rw [show (if (5 : Int) = 5 then lev + 1 else lev) = lev + 1 from rfl]
          refine ⟨g1, ?_⟩
          rw [g2]
          simp [Stm.kind, Stm.name, clusG]
    · rename_i e1 e2 e3 e5
      have h4 : kd = 4 := by
        have := (form_kinds _ hf).1
        simp only [Stm.kind] at this
        omega
      subst h4
      rw [hbe (by decide), hr (by decide), flatL_nil]
      injection he with he; injection he with h1 h2; subst h2
      exact ⟨rfl, by simp [Stm.kind]⟩
theorem stms_names : ∀ (L : List Stm) (lev : Nat) (p : Pl) (S S' : St), okWL L → blkL p S L = .ok S' → S'.N.map Prod.fst = (flatL lev L).foldl nmS (S.N.map Prod.fst) ∧ S'.C.map Prod.fst = S.C.map Prod.fst ++ clusG (flatL lev L)
  | [], lev, p, S, S', _, he => by
    unfold blkL at he
    injection he with he; subst he
    rw [flatL_nil]; exact ⟨rfl, by simp [clusG]⟩
  | x :: r, lev, p, S, S', ho, he => by
    rw [okWL] at ho
    unfold blkL at he
    split at he
    · cases he
    · rename_i p2 S2 hm
      obtain ⟨g1, g2⟩ := stm_names x lev p p2 S S2 ho.1 hm
      obtain ⟨k1, k2⟩ := stms_names r lev p2 S2 S' ho.2 he
      rw [flatL_cons, List.foldl_append, ← g1]
      refine ⟨k1, ?_⟩
      rw [k2, g2]
      simp [clusG]
end
theorem finNs_names : ∀ (N : List (ByteArray × Int)) (A : List (List Two)), A.length = N.length → (finNs N A).map Nd.name = N.map Prod.fst
  | [], [], _ => rfl
  | [], _ :: _, h => by simp at h
  | _ :: _, [], h => by simp at h
  | q :: r, l :: s, h => by
    unfold finNs
    rw [List.map_cons, List.map_cons, finNs_names r s (by simpa using h)]
    rfl
/-- The names of a graph that is built. -/
theorem build_names {nm : ByteArray} {dir : Bool} {body : List Stm} {g : Gr} (hw : okWL body) (h : buildT nm dir body = .ok g) : g.N.map Nd.name = namesT body ∧ g.C.map Prod.fst = clusG (flatL 0 body) ∧ g.name = nm ∧ g.dir = dir ∧ grE g = 0 ∧ validE nm body = 0 := by
  unfold buildT at h
  split at h
  · cases h
  · rename_i hv
    have hv : validE nm body = 0 := Classical.not_not.1 hv
    split at h
    · cases h
    · rename_i S hS
      split at h
      · cases h
      · rename_i E hE
        split at h
        · cases h
        · rename_i hg
          injection h with h
          subst h
          obtain ⟨g1, g2⟩ := stms_names body 0 _ _ _ hw hS
          have hsm := Sml.stms body 0 _ _ _ hw Sml.nil ⟨by decide, by decide, SmA.nil _, SmA.nil _⟩ hS
          refine ⟨?_, ?_, rfl, rfl, Classical.not_not.1 hg, hv⟩
          · rw [finNs_names _ _ hsm.a]; exact g1
          · simpa using g2
end Go.Proofs.YtnancphlkbfglaaGreatDoor.Nm

/- What holds for all statements of a tree. -/
namespace Go.Proofs.YtnancphlkbfglaaGreatDoor.Tr
open Go.Lib Fx Lx

mutual
/-- All statements of a list, and of their bodies. -/
def AllS (p : Stm → Prop) : Stm → Prop
  | .mk k n r a b => p (.mk k n r a b) ∧ AllL p b
def AllL (p : Stm → Prop) : List Stm → Prop
  | [] => True
  | x :: r => AllS p x ∧ AllL p r
end
mutual
theorem allS_flat (p : Stm → Prop) (lev : Nat) : ∀ x : Stm, (∀ q ∈ flatS lev x, p q.1) → AllS p x
  | .mk k n r a b, h => by
    rw [flatS] at h
    rw [AllS]
    exact ⟨h _ List.mem_cons_self, allL_flat p _ b fun q hq => h q (List.mem_cons_of_mem _ hq)⟩
theorem allL_flat (p : Stm → Prop) (lev : Nat) : ∀ L : List Stm, (∀ q ∈ flatL lev L, p q.1) → AllL p L
  | [], _ => by rw [AllL]; trivial
  | x :: r, h => by
    rw [flatL] at h
    rw [AllL]
    exact ⟨allS_flat p lev x fun q hq => h q (List.mem_append_left _ hq), allL_flat p lev r fun q hq => h q (List.mem_append_right _ hq)⟩
end
end Go.Proofs.YtnancphlkbfglaaGreatDoor.Tr

/- Statements that set options and the others do not touch one another: plain laws. -/
namespace Go.Proofs.YtnancphlkbfglaaGreatDoor.Nm
open Go.Lib Fx Lx Tr At

mutual
/-- A statement without those of its body that set options. -/
def bareS : Stm → Stm
  | .mk k n r a b => .mk k n r a (bareL b)
def bareL : List Stm → List Stm
  | [] => []
  | x :: r => if x.kind = 4 then bareL r else bareS x :: bareL r
end
theorem bareS_eq (x : Stm) : bareS x = .mk x.kind x.name x.refs x.attrs (bareL x.body) := by cases x; rw [bareS]; rfl
theorem bareL_nil : bareL [] = [] := by rw [bareL]
theorem bareL_cons (x : Stm) (r : List Stm) : bareL (x :: r) = if x.kind = 4 then bareL r else bareS x :: bareL r := by rw [bareL]
theorem bareL_len : ∀ L : List Stm, (bareL L).length ≤ L.length
  | [] => by rw [bareL_nil]; simp
  | x :: r => by
    have := bareL_len r
    rw [bareL_cons]
    split
    · simp; omega
    · simp; omega
theorem chk_bare (x : Stm) : chkS (bareS x) = chkS x := by cases x; rw [bareS]; rfl
mutual
theorem blkS_bare : ∀ (x : Stm) (p p' : Pl) (S S' : St), okWS x → x.kind ≠ 4 → blkS p S x = .ok (p', S') → blkS p S (bareS x) = .ok (p', S')
  | .mk k n r a b, p, p', S, S', ho, hk, h => by
    rw [okWS] at ho
    have hc := chk_bare (.mk k n r a b)
    rw [bareS] at hc ⊢
    unfold blkS at h ⊢
    rw [hc]
    split at h
    · cases h
    · rename_i hc0
      rw [if_neg hc0]
      split at h
      · rename_i h1; rw [if_pos h1]; exact h
      · rename_i h1
        rw [if_neg h1]
        split at h
        · rename_i h2; rw [if_pos h2]; exact h
        · rename_i h2
          rw [if_neg h2]
          split at h
          · rename_i h3; rw [if_pos h3]; exact h
          · rename_i h3
            rw [if_neg h3]
            split at h
            · rename_i h5
              rw [if_pos h5]
              split at h
              · cases h
              · rename_i ht
                rw [if_neg ht]
                split at h
                · cases h
                · rename_i S2 hm
                  rw [blkL_bare b _ _ S2 ho.2 hm]
                  exact h
            · rename_i h5; rw [if_neg h5]; exact h
theorem blkL_bare : ∀ (L : List Stm) (p : Pl) (S S' : St), okWL L → blkL p S L = .ok S' → blkL p S (bareL L) = .ok S'
  | [], p, S, S', _, h => by rw [bareL_nil]; exact h
  | x :: r, p, S, S', ho, h => by
    rw [okWL] at ho
    unfold blkL at h
    rw [bareL_cons]
    split at h
    · cases h
    · rename_i p2 S2 hm
      by_cases hk : x.kind = 4
      · rw [if_pos hk]
        have e : p2 = p ∧ S2 = S := by
          obtain ⟨k, n, rs, a, b⟩ := x
          simp only [Stm.kind] at hk
          subst hk
          unfold blkS at hm
          split at hm
          · cases hm
          · rw [if_neg (by decide), if_neg (by decide), if_neg (by decide), if_neg (by decide)] at hm
            injection hm with hm; injection hm with h1 h2
            exact ⟨h1.symm, h2.symm⟩
        obtain ⟨rfl, rfl⟩ := e
        exact blkL_bare r _ _ S' ho.2 h
      · rw [if_neg hk]
        unfold blkL
        rw [blkS_bare x p p2 S S2 ho.1 hk hm]
        exact blkL_bare r p2 S2 S' ho.2 h
end
theorem form_bare (x : Stm) : formB x = true → formB (bareS x) = true := by
  intro h
  have hp := (form_parts x h).2
  by_cases h5 : x.kind = 5
  · obtain ⟨k, n, r, a, b⟩ := x
    rw [bareS]
    simp only [Stm.kind] at h5
    subst h5
    exact h
  · have hb := hp h5
    obtain ⟨k, n, r, a, b⟩ := x
    simp only [Stm.body] at hb
    subst hb
    rw [bareS, bareL_nil]
    exact h
theorem stmE_bare (x : Stm) (lev : Nat) (h : stmE (x, lev) = 0) : stmE (bareS x, lev) = 0 := by
  have hf : formB x = true := by
    cases hb : formB x
    · unfold stmE at h; rw [hb] at h; simp at h
    · rfl
  have hf2 := form_bare x hf
  obtain ⟨k, n, r, a, b⟩ := x
  rw [bareS] at hf2 ⊢
  unfold stmE at h ⊢
  rw [hf] at h
  rw [hf2]
  exact h
mutual
theorem flatS_bare : ∀ (x : Stm) (lev : Nat), (flatS lev (bareS x)).length ≤ (flatS lev x).length ∧ ((∀ q ∈ flatS lev x, stmE q = 0) → ∀ q ∈ flatS lev (bareS x), stmE q = 0)
  | .mk k n r a b, lev => by
    obtain ⟨h1, h2⟩ := flatL_bare b (if k = 5 then lev + 1 else lev)
    have hs := stmE_bare (.mk k n r a b) lev
    rw [bareS] at hs ⊢
    rw [flatS, flatS]
    refine ⟨by simp; omega, fun h q hq => ?_⟩
    rcases List.mem_cons.1 hq with rfl | hq
    · exact hs (h _ List.mem_cons_self)
    · exact h2 (fun q hq => h q (List.mem_cons_of_mem _ hq)) q hq
theorem flatL_bare : ∀ (L : List Stm) (lev : Nat), (flatL lev (bareL L)).length ≤ (flatL lev L).length ∧ ((∀ q ∈ flatL lev L, stmE q = 0) → ∀ q ∈ flatL lev (bareL L), stmE q = 0)
  | [], lev => by rw [bareL_nil]; exact ⟨Nat.le_refl _, fun h => h⟩
  | x :: r, lev => by
    obtain ⟨h1, h2⟩ := flatL_bare r lev
    obtain ⟨k1, k2⟩ := flatS_bare x lev
    rw [bareL_cons]
    split
    · rw [flatL_cons]
      refine ⟨by rw [List.length_append]; omega, fun h => h2 fun q hq => h q (List.mem_append_right _ hq)⟩
    · rw [flatL_cons, flatL_cons]
      refine ⟨by rw [List.length_append, List.length_append]; omega, fun h q hq => ?_⟩
      rcases List.mem_append.1 hq with hq | hq
      · exact k2 (fun q hq => h q (List.mem_append_left _ hq)) q hq
      · exact h2 (fun q hq => h q (List.mem_append_right _ hq)) q hq
end
theorem firstE_iffB : ∀ (l : List (Stm × Nat)), firstE l = 0 ↔ ∀ p ∈ l, stmE p = 0
  | [] => by simp [firstE]
  | q :: r => by
    rw [firstE]
    by_cases h : stmE q = 0
    · rw [if_neg (fun e => e h), firstE_iffB r]; simp [h]
    · rw [if_pos h]; simp [h]
theorem valid_parts {nm : ByteArray} {L : List Stm} (h : validE nm L = 0) : nameB nm.data.toList = true ∧ (flatL 0 L).length ≤ 512 ∧ ∀ p ∈ flatL 0 L, stmE p = 0 := by
  unfold validE at h
  cases hn : nameB nm.data.toList
  · rw [hn] at h; simp at h
  · rw [hn, if_neg (by decide)] at h
    by_cases h5 : 512 < (flatL 0 L).length
    · rw [if_pos h5] at h; simp at h
    · rw [if_neg h5] at h
      exact ⟨rfl, by omega, (firstE_iffB _).1 h⟩
theorem valid_of {nm : ByteArray} {L : List Stm} (h1 : nameB nm.data.toList = true) (h2 : (flatL 0 L).length ≤ 512) (h3 : ∀ p ∈ flatL 0 L, stmE p = 0) : validE nm L = 0 := by
  unfold validE
  rw [h1, if_neg (by decide), if_neg (by omega)]
  exact (firstE_iffB _).2 h3
theorem valid_bare {nm : ByteArray} {L : List Stm} (h : validE nm L = 0) : validE nm (bareL L) = 0 := by
  obtain ⟨h1, h2, h3⟩ := valid_parts h
  obtain ⟨k1, k2⟩ := flatL_bare L 0
  exact valid_of h1 (by omega) (k2 h3)
/-- The graph does not see the settings. -/
theorem build_bare {nm : ByteArray} {dir : Bool} {L : List Stm} {g : Gr} (hw : okWL L) (h : buildT nm dir L = .ok g) : buildT nm dir (bareL L) = .ok g := by
  unfold buildT at h ⊢
  split at h
  · cases h
  · rename_i hv
    have hv : validE nm L = 0 := Classical.not_not.1 hv
    rw [if_neg (fun e => e (valid_bare hv))]
    split at h
    · cases h
    · rename_i S hS
      rw [blkL_bare L _ _ S hw hS]
      exact h
/-! ### the settings -/
theorem setsL_nil : setsL [] = [] := by rw [setsL]
theorem setsL_cons (x : Stm) (r : List Stm) : setsL (x :: r) = setsS x ++ setsL r := by rw [setsL]
theorem setsS_eq (x : Stm) : setsS x = (if x.kind = 4 then [x] else []) ++ setsL x.body := by cases x; rw [setsS]; rfl
theorem setsL_app : ∀ L M : List Stm, setsL (L ++ M) = setsL L ++ setsL M
  | [], M => by rw [setsL_nil]; rfl
  | x :: r, M => by rw [List.cons_append, setsL_cons, setsL_cons, setsL_app r M, List.append_assoc]
theorem optE_app : ∀ L M : List Stm, optE (L ++ M) = if optE L ≠ 0 then optE L else optE M
  | [], M => by rw [List.nil_append, optE]; simp
  | x :: r, M => by
    rw [List.cons_append, optE, optE, optE_app r M]
    by_cases h : chkS x = 0
    · simp [h]
    · simp [h]
mutual
theorem sets_blkS : ∀ (x : Stm) (p p' : Pl) (S S' : St), okWS x → blkS p S x = .ok (p', S') → optE (setsS x) = 0
  | .mk k n r a b, p, p', S, S', ho, h => by
    rw [okWS] at ho
    obtain ⟨⟨-, -, -, -, -, hf⟩, hb⟩ := ho
    obtain ⟨-, hbe⟩ := form_parts _ hf
    simp only [Stm.kind, Stm.body] at hbe
    rw [setsS]
    have hc0 : chkS (.mk k n r a b) = 0 := by
      refine Classical.not_not.1 fun hc => ?_
      unfold blkS at h
      rw [if_pos hc] at h
      cases h
    by_cases h5 : k = 5
    · subst h5
      unfold blkS at h
      rw [if_neg (fun e => e hc0), if_neg (by decide), if_neg (by decide), if_neg (by decide), if_pos rfl] at h
      rw [if_neg (by decide), List.nil_append]
      split at h
      · cases h
      · split at h
        · cases h
        · rename_i S2 hm
          exact sets_blkL b _ _ S2 hb hm
    · have hb0 := hbe h5
      subst hb0
      rw [setsL_nil, List.append_nil]
      split
      · rw [optE, hc0]; rfl
      · rfl
theorem sets_blkL : ∀ (L : List Stm) (p : Pl) (S S' : St), okWL L → blkL p S L = .ok S' → optE (setsL L) = 0
  | [], p, S, S', _, _ => by rw [setsL_nil]; rfl
  | x :: r, p, S, S', ho, h => by
    rw [okWL] at ho
    unfold blkL at h
    split at h
    · cases h
    · rename_i p2 S2 hm
      rw [setsL_cons, optE_app, sets_blkS x p p2 S S2 ho.1 hm, if_neg (by decide)]
      exact sets_blkL r p2 S2 S' ho.2 h
end
mutual
theorem sets_formS : ∀ (x : Stm) (lev : Nat), (∀ q ∈ flatS lev x, stmE q = 0) → (setsS x).length ≤ (flatS lev x).length ∧ ∀ y ∈ setsS x, y.kind = 4 ∧ y.body = [] ∧ stmE (y, 0) = 0
  | .mk k n r a b, lev, h => by
    rw [flatS] at h ⊢
    obtain ⟨h1, h2⟩ := sets_formL b (if k = 5 then lev + 1 else lev) fun q hq => h q (List.mem_cons_of_mem _ hq)
    have hx := h _ List.mem_cons_self
    rw [setsS]
    by_cases h4 : k = 4
    · subst h4
      rw [if_pos rfl]
      have hf : formB (.mk 4 n r a b) = true := by
        cases hb : formB (.mk 4 n r a b)
        · unfold stmE at hx; rw [hb] at hx; simp at hx
        · rfl
      refine ⟨by rw [List.length_append, List.length_cons, List.length_cons, List.length_nil]; omega, fun y hy => ?_⟩
      rcases List.mem_append.1 hy with hy | hy
      · rw [List.mem_singleton.1 hy]
        refine ⟨rfl, (form_parts _ hf).2 (by simp [Stm.kind]), ?_⟩
        unfold stmE at hx ⊢
        simp only [Stm.kind] at hx ⊢
        simpa using hx
      · exact h2 y hy
    · rw [if_neg h4, List.nil_append]
      exact ⟨by simp; omega, h2⟩
theorem sets_formL : ∀ (L : List Stm) (lev : Nat), (∀ q ∈ flatL lev L, stmE q = 0) → (setsL L).length ≤ (flatL lev L).length ∧ ∀ y ∈ setsL L, y.kind = 4 ∧ y.body = [] ∧ stmE (y, 0) = 0
  | [], lev, _ => by rw [setsL_nil]; exact ⟨by simp, fun y hy => by cases hy⟩
  | x :: r, lev, h => by
    rw [flatL_cons] at h ⊢
    obtain ⟨h1, h2⟩ := sets_formS x lev fun q hq => h q (List.mem_append_left _ hq)
    obtain ⟨k1, k2⟩ := sets_formL r lev fun q hq => h q (List.mem_append_right _ hq)
    rw [setsL_cons]
    refine ⟨by rw [List.length_append, List.length_append]; omega, fun y hy => ?_⟩
    rcases List.mem_append.1 hy with hy | hy
    · exact h2 y hy
    · exact k2 y hy
end
theorem flat_sets (lev : Nat) : ∀ L : List Stm, (∀ y ∈ L, y.kind = 4 ∧ y.body = []) → flatL lev L = L.map fun y => (y, lev)
  | [], _ => by rw [flatL_nil]; rfl
  | x :: r, h => by
    obtain ⟨h1, h2⟩ := h x (by simp)
    rw [flatL_cons, flatS_eq, h2, h1, flatL_nil, flat_sets lev r fun y hy => h y (by simp [hy])]
    rfl
theorem sets_sets : ∀ L : List Stm, (∀ y ∈ L, y.kind = 4 ∧ y.body = []) → setsL L = L
  | [], _ => setsL_nil
  | x :: r, h => by
    obtain ⟨h1, h2⟩ := h x (by simp)
    rw [setsL_cons, setsS_eq, h2, h1, setsL_nil, sets_sets r fun y hy => h y (by simp [hy])]
    rfl
/-- The options do not see the other statements. -/
theorem options_sets {nm hn : ByteArray} {dir : Bool} {L : List Stm} {g : Gr} (hw : okWL L) (hh : nameB hn.data.toList = true) (h : buildT nm dir L = .ok g) : ∃ o, optionsT nm L = .ok o ∧ optionsT hn (setsL L) = .ok o := by
  unfold buildT at h
  split at h
  · cases h
  · rename_i hv
    have hv : validE nm L = 0 := Classical.not_not.1 hv
    split at h
    · cases h
    · rename_i S hS
      obtain ⟨h1, h2, h3⟩ := valid_parts hv
      obtain ⟨k1, k2⟩ := sets_formL L 0 h3
      have k3 : ∀ y ∈ setsL L, y.kind = 4 ∧ y.body = [] := fun y hy => ⟨(k2 y hy).1, (k2 y hy).2.1⟩
      have hf := flat_sets 0 _ k3
      have hv2 : validE hn (setsL L) = 0 := valid_of hh (by rw [hf, List.length_map]; omega) (fun p hp => by
        rw [hf] at hp
        obtain ⟨y, hy, rfl⟩ := List.mem_map.1 hp
        exact (k2 y hy).2.2)
      have ho := sets_blkL L _ _ S hw hS
      refine ⟨optsT ((setsL L).map keyed), ?_, ?_⟩
      · unfold optionsT
        rw [if_neg (fun e => e hv), if_neg (fun e => e ho)]
      · unfold optionsT
        rw [if_neg (fun e => e hv2), sets_sets _ k3, if_neg (fun e => e ho)]
end Go.Proofs.YtnancphlkbfglaaGreatDoor.Nm

/- The options of settings, as the document reads them, and their ranges: plain laws. -/
namespace Go.Proofs.YtnancphlkbfglaaGreatDoor.Nm
open Go.Lib Fx Lx Tr At

/-- The document's number of a mode: 0 for none. -/
def modeR (s : ByteArray) : Int := if modeN s = -1 then 0 else modeN s
/-- The options that the document reads of the merged settings. -/
def optsR (l : List Two) : Op5 := ⟨modeR (getT l kMode).1, numRT (knownT 4 kNs.data.toList) (getT l kNs), numRT (knownT 4 kRs.data.toList) (getT l kRs), numRT (knownT 4 kMg.data.toList) (getT l kMg), numRT (knownT 4 kRd.data.toList) (getT l kRd)⟩
theorem chk_keyed (x : Stm) (h4 : x.kind = 4) (hf : formB x = true) : chkS x = checkV 4 (keyed x).1 (keyed x).2 := by
  obtain ⟨q, hq, -⟩ := (form_kinds x hf).2.2 h4
  unfold chkS kindS keyed
  rw [if_neg (by omega), h4, if_pos rfl, hq]
  unfold chkGo chkGo
  simp only [Option.getD_some, List.headD_cons]
  split
  · rfl
  · rename_i h; exact (Classical.not_not.1 h).symm
/-- The first error of settings. -/
theorem optE_chk : ∀ L : List Stm, (∀ y ∈ L, y.kind = 4 ∧ formB y = true) → optE L = chkGo 4 none (L.map keyed)
  | [], _ => rfl
  | x :: r, h => by
    obtain ⟨h1, h2⟩ := h x (by simp)
    rw [optE, List.map_cons, chkGo, chk_keyed x h1 h2, optE_chk r fun y hy => h y (by simp [hy])]
    rfl
theorem modeN_lo (s : ByteArray) : -1 ≤ modeN s ∧ modeN s ≤ 4 := by
  have key : ∀ (L : List ByteArray) (k : Nat), Lib.idxFromS L s k = -1 ∨ ((k : Int) ≤ Lib.idxFromS L s k ∧ Lib.idxFromS L s k < k + L.length) := by
    intro L
    induction L with
    | nil => intro k; left; rfl
    | cons a r ih =>
      intro k
      unfold Lib.idxFromS
      split
      · right; simp; omega
      · rcases ih (k + 1) with h | h
        · exact .inl h
        · right; simp at h ⊢; omega
  have := key modesL 0
  unfold modeN Lib.idxOfS
  have hl : modesL.length = 5 := rfl
  rw [hl] at this
  omega
theorem optsR_mrg (l : List Two) : optsR (mrgT l) = optsR l := by
  unfold optsR
  simp only [getT_mrg]
/-- What settings without an error say of the mode. -/
theorem mode_ok {l : List Two} (h : chkGo 4 none l = 0) (hm : (getT l kMode).2 = true) : modeN (getT l kMode).1 ≠ -1 := by
  have hmem : (kMode, (getT l kMode).1) ∈ l := mrgT_mem ((mrgT_iff kMode (getT l kMode).1 l).2 (Prod.ext rfl hm))
  have key : ∀ M : List Two, chkGo 4 none M = 0 → ∀ q ∈ M, checkV 4 q.1 q.2 = 0 := by
    intro M
    induction M with
    | nil => intro _ q hq; cases hq
    | cons a r ih =>
      intro h q hq
      unfold chkGo at h
      simp only [Option.getD_none] at h
      by_cases h0 : checkV 4 a.1 a.2 = 0
      · rw [if_neg (fun e => e h0)] at h
        rcases List.mem_cons.1 hq with rfl | hq
        · exact h0
        · exact ih h q hq
      · rw [if_pos h0] at h; exact absurd h h0
  have hc := key l h _ hmem
  generalize (getT l kMode).1 = s at hc ⊢
  unfold checkV at hc
  rw [show knownB 4 = true from rfl, if_neg (by decide), show ruleT 4 (kMode, s).1.data.toList = (5, 0, 0, 0) from rfl, if_neg (by decide), if_neg (fun e => absurd e.1 (by decide))] at hc
  intro hn
  have hcon : Lib.containsS modesL s = true := by
    cases hz : accB (5, 0, 0, 0) s
    · simp only [hz] at hc; exact absurd hc (by decide)
    · unfold accB at hz
      rw [if_neg (by decide), if_neg (by decide), if_pos rfl] at hz
      exact hz
  unfold Lib.containsS at hcon
  unfold modeN at hn
  rw [hn] at hcon
  exact absurd hcon (by decide)
theorem opts_same {l : List Two} (h : chkGo 4 none l = 0) : optsR l = optsT l := by
  unfold optsR optsT numK
  simp only [num_same]
  congr 1
  cases hm : (getT l kMode).2
  · rw [getT_false hm]; rfl
  · rw [if_pos rfl]
    unfold modeR
    rw [if_neg (mode_ok h hm)]
/-- A number that Number returns lies in its rule's range. -/
theorem num_rangeN (k : Rul) (G : ByteArray × Bool) (h : k.1 = 2 ∨ k.1 = 3) (h1 : k.2.1 ≤ k.2.2.2) (h2 : k.2.2.2 ≤ k.2.2.1) : k.2.1 ≤ numRT k G ∧ numRT k G ≤ k.2.2.1 := by
  unfold numRT
  rw [if_neg (by omega)]
  by_cases c1 : G.2 = false
  · rw [if_pos c1]; exact ⟨h1, h2⟩
  rw [if_neg c1]
  cases hv : (valT k (parse G.1.data.toList)).2
  · rw [if_pos rfl]; exact ⟨h1, h2⟩
  · rw [if_neg (by decide)]
    unfold valT valN at hv ⊢
    by_cases hz : (parse G.1.data.toList).2 = 0
    · rw [if_neg (show ¬ (parse G.1.data.toList).2 ≠ 0 from fun e => e hz)] at hv ⊢
      by_cases h3 : k.1 = 3
      · rw [if_pos h3] at hv ⊢
        by_cases hm : (parse G.1.data.toList).1.tmod 1000 = 0
        · rw [if_neg (show ¬ (parse G.1.data.toList).1.tmod 1000 ≠ 0 from fun e => e hm)] at hv ⊢
          simp only [Bool.and_eq_true, decide_eq_true_eq] at hv
          exact hv
        · rw [if_pos hm] at hv; cases hv
      · rw [if_neg h3] at hv ⊢
        simp only [Bool.and_eq_true, decide_eq_true_eq] at hv
        exact hv
    · rw [if_pos hz] at hv; cases hv
/-- Options in their ranges. -/
def okOp (o : Op5) : Prop := 0 ≤ o.mode ∧ o.mode ≤ 4 ∧ 0 ≤ o.ns ∧ o.ns ≤ 1048576 ∧ 0 ≤ o.rs ∧ o.rs ≤ 1048576 ∧ 0 ≤ o.mg ∧ o.mg ≤ 1048576 ∧ 0 ≤ o.rd ∧ o.rd ≤ 100
theorem optsR_ok (l : List Two) : okOp (optsR l) := by
  have hm := modeN_lo (getT l kMode).1
  have h1 := num_rangeN (2, 0, 1048576, 10000) (getT l kNs) (.inl rfl) (by decide) (by decide)
  have h2 := num_rangeN (2, 0, 1048576, 20000) (getT l kRs) (.inl rfl) (by decide) (by decide)
  have h3 := num_rangeN (2, 0, 1048576, 5000) (getT l kMg) (.inl rfl) (by decide) (by decide)
  have h4 := num_rangeN (3, 0, 100, 8) (getT l kRd) (.inr rfl) (by decide) (by decide)
  refine ⟨?_, ?_, h1.1, h1.2, h2.1, h2.2, h3.1, h3.2, h4.1, h4.2⟩
  · show 0 ≤ modeR _
    unfold modeR; split <;> omega
  · show modeR _ ≤ 4
    unfold modeR; split <;> omega
theorem sets_form {nm : ByteArray} {L : List Stm} (h : validE nm L = 0) : ∀ y ∈ setsL L, y.kind = 4 ∧ formB y = true := fun y hy => by
  obtain ⟨h1, h2, h3⟩ := valid_parts h
  obtain ⟨k1, k2⟩ := sets_formL L 0 h3
  obtain ⟨a, -, c⟩ := k2 y hy
  refine ⟨a, ?_⟩
  cases hb : formB y
  · unfold stmE at c; rw [hb] at c; simp at c
  · rfl
theorem options_ok {nm : ByteArray} {L : List Stm} {o : Op5} (h : optionsT nm L = .ok o) : okOp o := by
  unfold optionsT at h
  split at h
  · cases h
  · rename_i hv
    have hv : validE nm L = 0 := Classical.not_not.1 hv
    split at h
    · cases h
    · rename_i he
      have he : optE (setsL L) = 0 := Classical.not_not.1 he
      injection h with h
      rw [optE_chk _ (sets_form hv)] at he
      rw [← h, ← opts_same he]
      exact optsR_ok _
end Go.Proofs.YtnancphlkbfglaaGreatDoor.Nm
