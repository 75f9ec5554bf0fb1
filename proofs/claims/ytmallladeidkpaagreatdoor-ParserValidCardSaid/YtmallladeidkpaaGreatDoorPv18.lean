/- Packed texts: ParTok, LexTokW, TreTln -/
import Derived.Test.YtmallladeidkpaaGreatDoorPv17
import Derived.Test.YtmallladeidkpaaGreatDoorPv12
import Derived.Test.YtmallladeidkpaaGreatDoorPv08
import Derived.Test.YtmallladeidkpaaGreatDoorPv07
set_option linter.unusedVariables false
set_option linter.unusedSimpArgs false
/- What the tokens of a source are, and how much a tree that is read from them holds; no program in sight. -/
namespace Go.Proofs.YtmallladeidkpaaGreatDoor.Pa
open Go.Lib Fx Lx Tr

/-- A token's text is short, its number small. -/
def okT (t : Tok) : Prop := t.text.length ≤ 32 ∧ -268435456 ≤ t.n ∧ t.n ≤ 268435456
theorem contents_len : ∀ (s : List UInt8) (esc : Bool) (acc : List UInt8) (i : Nat), acc.length ≤ 32 → (contents esc acc i s).1.length ≤ 32
  | [], esc, acc, i, _ => by show ([] : List UInt8).length ≤ 32; simp
  | c :: r, esc, acc, i, h => by
    rw [contents]
    by_cases h1 : c.toNat = 10
    · rw [if_pos h1]; simp
    rw [if_neg h1]
    split
    · simp
    split
    · exact h
    split
    · exact contents_len r true acc (i + 1) h
    by_cases h5 : 32 < acc.length + 1
    · rw [if_pos h5]; simp
    rw [if_neg h5]
    exact contents_len r false (acc ++ [c]) (i + 1) (by simp; omega)
theorem markOf_len (s : List UInt8) : ∀ (l : List (List UInt8)) (m : List UInt8), markOf s l = some m → m ∈ l
  | [], m, h => by cases h
  | x :: r, m, h => by
    unfold markOf at h
    split at h
    · injection h with h; rw [h]; simp
    · exact List.mem_cons_of_mem _ (markOf_len s r m h)
theorem kw_len (l : List UInt8) (h : kw l = true) : l.length ≤ 32 := by
  unfold kw at h
  simp only [Bool.or_eq_true, beq_iff_eq] at h
  rcases h with ((((h | h) | h) | h) | h) | h <;> rw [h] <;> decide
theorem next_okT (s : List UInt8) (h : (next s).2.2 = 0) (ln : Int) : okT { (next s).1 with line := ln } := by
  unfold okT
  dsimp only
  unfold next at h ⊢
  by_cases h1 : 0 < wordN s
  · rw [if_pos h1] at h ⊢
    by_cases h2 : kw (s.take (wordN s)) = true
    · rw [if_pos h2]; exact ⟨kw_len _ h2, by dsimp only; decide, by dsimp only; decide⟩
    rw [if_neg h2] at h ⊢
    by_cases h3 : 16 < wordN s
    · rw [if_pos h3]; exact ⟨by simp, by dsimp only; decide, by dsimp only; decide⟩
    rw [if_neg h3]
    refine ⟨?_, by dsimp only; decide, by dsimp only; decide⟩
    have : (s.take (wordN s)).length ≤ wordN s := by rw [List.length_take]; omega
    dsimp only; omega
  rw [if_neg h1] at h ⊢
  by_cases h2 : (isD (bt s 0) || (bt s 0 == 45 && decide (1 < s.length) && isD (bt s 1))) = true
  · rw [if_pos h2] at h ⊢
    by_cases h3 : (parse (s.take (numN s))).2 = 0
    · rw [if_pos h3]
      obtain ⟨_, e1, e2⟩ := exact_ok (s.take (numN s)) (parse (s.take (numN s))).1 (by rw [← h3])
      exact ⟨by simp, e2, e1⟩
    · rw [if_neg h3]; exact ⟨by simp, by dsimp only; decide, by dsimp only; decide⟩
  rw [if_neg h2] at h ⊢
  by_cases h3 : (bt s 0 == 34) = true
  · rw [if_pos h3] at h ⊢
    by_cases h4 : (contents false [] 0 (s.drop 1)).2.2 = 0
    · rw [if_pos h4]; exact ⟨contents_len _ _ _ _ (by simp), by dsimp only; decide, by dsimp only; decide⟩
    · rw [if_neg h4]; exact ⟨by simp, by dsimp only; decide, by dsimp only; decide⟩
  rw [if_neg h3] at h ⊢
  cases hm : markOf s marks with
  | none => exact ⟨by simp, by dsimp only; decide, by dsimp only; decide⟩
  | some m =>
    have := markOf_len s marks m hm
    refine ⟨?_, by dsimp only; decide, by dsimp only; decide⟩
    have hall : ∀ m ∈ marks, m.length ≤ 32 := by decide
    exact hall m this
theorem Z_okT : ∀ (n : Nat) (s : List UInt8), s.length ≤ n → ∀ (ln : Int) (L : List Tok), (∀ t ∈ L, okT t) → ∀ t ∈ (Z ln L s).1, okT t := by
  intro n
  induction n with
  | zero =>
    intro s hs ln L hL
    have : s = [] := List.eq_nil_of_length_eq_zero (by omega)
    subst this
    rw [Z_nil]; exact hL
  | succ n ih =>
    intro s hs ln L hL
    cases s with
    | nil => rw [Z_nil]; exact hL
    | cons c r =>
      have hr : r.length ≤ n := by simpa using hs
      rw [Z_cons]
      by_cases h1 : c = 10
      · rw [if_pos h1]; exact ih r hr _ L hL
      rw [if_neg h1]
      by_cases h2 : (c = 32 || c = 9) = true
      · rw [if_pos h2]; exact ih r hr _ L hL
      rw [if_neg h2]
      by_cases h3 : c = 35
      · rw [if_pos h3, skip_cons r h1]
        have := skip_le r
        exact ih _ (by omega) _ L hL
      rw [if_neg h3]
      by_cases h4 : (next (c :: r)).2.2 = 0
      · rw [if_pos h4]
        have hl := next_len (c :: r) (by simp) h4
        refine ih _ (by rw [List.length_drop, List.length_cons]; omega) _ _ fun t ht => ?_
        rcases List.mem_append.1 ht with ht | ht
        · exact hL t ht
        · rw [List.mem_singleton] at ht; rw [ht]; exact next_okT _ h4 ln
      · rw [if_neg h4]; intro t ht; cases ht
theorem tokenize_okT (s : List UInt8) : ∀ t ∈ (tokenize s).1, okT t := by
  unfold tokenize
  by_cases h : 16384 < s.length
  · rw [if_pos h]; intro t ht; cases ht
  · rw [if_neg h]; exact Z_okT s.length s (Nat.le_refl _) 1 [] (by intro t ht; cases ht)

/-- What a part of the parser answers weighs no more than what it takes. -/
def Wei {α : Type} (c : α → Nat) (x : PR α) (M : Nat) : Prop := ∀ v r, x = .ok v r → c v + 64 * r.length ≤ M ∧ ∀ t ∈ r, okT t
theorem Wei.bind {α β : Type} {c : β → Nat} {x : PR α} {g : α → List Tok → PR β} {M : Nat} (h : ∀ v r, x = .ok v r → Wei c (g v r) M) : Wei c (x.bind g) M := by
  intro v r e
  cases x with
  | ok u s => exact h u s rfl v r e
  | err ln er => cases e
theorem Wei.ok {α : Type} {c : α → Nat} {v : α} {r : List Tok} {M : Nat} (h : c v + 64 * r.length ≤ M) (hr : ∀ t ∈ r, okT t) : Wei c (PR.ok v r) M := by
  intro v' r' e; injection e with e1 e; rw [← e, ← e1]; exact ⟨h, hr⟩
theorem Wei.err {α : Type} {c : α → Nat} {ln er : Int} {M : Nat} : Wei c (PR.err ln er : PR α) M := by
  intro v' r' e; cases e
theorem Wei.mono {α : Type} {c : α → Nat} {x : PR α} {M N : Nat} (h : Wei c x M) (hn : M ≤ N) : Wei c x N := fun v r e => ⟨Nat.le_trans (h v r e).1 hn, (h v r e).2⟩
theorem Wei.ite {α : Type} {c : α → Nat} {p : Prop} [Decidable p] {x y : PR α} {M : Nat} (h1 : p → Wei c x M) (h2 : ¬ p → Wei c y M) : Wei c (if p then x else y) M := by
  by_cases h : p
  · rw [if_pos h]; exact h1 h
  · rw [if_neg h]; exact h2 h
theorem tail_ok {r : List Tok} (h : ∀ t ∈ r, okT t) : ∀ t ∈ r.tail, okT t := fun t ht => h t (List.mem_of_mem_tail ht)
theorem isT_len {k : Int} {x : List UInt8} {r : List Tok} (h : isT k x r = true) : r.tail.length + 1 = r.length := by
  cases r with
  | nil => cases h
  | cons t r => rfl
theorem wei_mark (last : Int) (m : List UInt8) (r : List Tok) (h : ∀ t ∈ r, okT t) : Wei (fun _ => 64) (pMark last m r) (64 * r.length) := by
  unfold pMark
  refine Wei.ite (fun hi => ?_) (fun _ => Wei.err)
  have := isT_len hi
  exact Wei.ok (by omega) (tail_ok h)
theorem wei_name (last : Int) (r : List Tok) (h : ∀ t ∈ r, okT t) : Wei (fun v => v.size + 31) (pName last r) (64 * r.length) := by
  cases r with
  | nil => exact Wei.err
  | cons t r =>
    unfold pName
    refine Wei.ite (fun _ => ?_) (fun _ => Wei.err)
    have := (h t (by simp)).1
    refine Wei.ok ?_ (fun u hu => h u (by simp [hu]))
    rw [size_mk, List.length_cons]; omega
theorem fmt_len (n : Int) (h0 : -268435456 ≤ n) (h1 : n ≤ 268435456) : (fmt n).length ≤ 30 := by
  obtain ⟨u, q, r, A, D, _, _, _, _, _, _, _, _, hD, hA, hDl, hf⟩ := fmt_parts n (by omega) (by omega)
  have ht := (trim_props (D.drop 1)).2.2
  rw [hf]
  simp only [List.length_append, List.length_drop] at ht ⊢
  have e1 : (if n < 0 then [45] else ([] : List UInt8)).length ≤ 1 := by split <;> simp
  have e2 : (if 0 < r then 46 :: trimRightB (D.drop 1) 48 else []).length ≤ 4 := by
    split
    · simp only [List.length_cons]; omega
    · simp
  omega
theorem wei_val (last : Int) (r : List Tok) (h : ∀ t ∈ r, okT t) : Wei (fun v => v.size + 31) (pVal last r) (64 * r.length) := by
  cases r with
  | nil => exact Wei.err
  | cons t r =>
    have ht := h t (by simp)
    have hr : ∀ u ∈ r, okT u := fun u hu => h u (by simp [hu])
    unfold pVal
    refine Wei.ite (fun _ => ?_) (fun _ => Wei.ite (fun _ => ?_) (fun _ => Wei.err))
    · refine Wei.ok ?_ hr
      rw [size_mk, List.length_cons]; have := ht.1; omega
    · refine Wei.ok ?_ hr
      have := fmt_len t.n ht.2.1 ht.2.2
      rw [size_mk, List.length_cons]; omega
theorem wei_attr (last : Int) (r : List Tok) (h : ∀ t ∈ r, okT t) : Wei (fun q => q.1.size + q.2.size + 1) (pAttr last r) (64 * r.length) := by
  unfold pAttr
  refine Wei.bind fun k s e => ?_
  obtain ⟨a1, h1⟩ := wei_name last r h k s e
  refine Wei.bind fun u s' e => ?_
  obtain ⟨a2, h2⟩ := wei_mark last _ s h1 u s' e
  refine Wei.bind fun v s'' e => ?_
  obtain ⟨a3, h3⟩ := wei_val last s' h2 v s'' e
  dsimp only at a1 a2 a3
  exact Wei.ok (by dsimp only; omega) h3
theorem two_app : ∀ (a b : List Two), sizeTwo (a ++ b) = sizeTwo a + sizeTwo b
  | [], b => by simp [sizeTwo]
  | q :: a, b => by rw [List.cons_append, sizeTwo, sizeTwo, two_app a b]; omega
theorem two_one (q : Two) : sizeTwo [q] = q.1.size + q.2.size + 1 := by rw [sizeTwo, sizeTwo]
theorem wei_attrs (last : Int) : ∀ (f : Nat) (out : List Two) (r : List Tok), (∀ t ∈ r, okT t) → Wei sizeTwo (pAttrs last f out r) (sizeTwo out + 64 * r.length)
  | 0, _, _, _ => by rw [pAttrs]; exact Wei.err
  | f + 1, out, r, h => by
    rw [pAttrs]
    refine Wei.ite (fun hi => ?_) (fun _ => ?_)
    · have := isT_len hi
      exact Wei.ok (by omega) (tail_ok h)
    refine Wei.bind fun u s e => ?_
    have hs : s.length ≤ r.length ∧ ∀ t ∈ s, okT t := by
      by_cases h0 : out.isEmpty = true
      · rw [if_pos h0] at e; injection e with _ e; rw [← e]; exact ⟨Nat.le_refl _, h⟩
      · rw [if_neg h0] at e
        obtain ⟨a1, h1⟩ := wei_mark last _ r h u s e
        exact ⟨by omega, h1⟩
    refine Wei.bind fun q s' e' => ?_
    obtain ⟨a2, h2⟩ := wei_attr last s hs.2 q s' e'
    refine (wei_attrs last f (out ++ [q]) s' h2).mono ?_
    dsimp only at a2
    rw [two_app, two_one]; have := hs.1; omega
theorem wei_attrsB (last : Int) (r : List Tok) (h : ∀ t ∈ r, okT t) : Wei sizeTwo (pAttrsB last r) (64 * r.length) := by
  unfold pAttrsB
  refine Wei.bind fun u s e => ?_
  obtain ⟨a1, h1⟩ := wei_mark last _ r h u s e
  refine (wei_attrs last _ [] s h1).mono ?_
  rw [sizeTwo]; omega
theorem wei_opt (last : Int) (r : List Tok) (h : ∀ t ∈ r, okT t) : Wei (fun a => sizeTwo a + 64) (pOpt last r) (64 * r.length) := by
  unfold pOpt
  refine Wei.bind fun a s e => ?_
  have hs : sizeTwo a + 64 * s.length ≤ 64 * r.length ∧ ∀ t ∈ s, okT t := by
    by_cases h0 : isT 5 [91] r = true
    · rw [if_pos h0] at e; exact wei_attrsB last r h a s e
    · rw [if_neg h0] at e; injection e with e1 e; rw [← e, ← e1, sizeTwo]; exact ⟨by omega, h⟩
  refine Wei.bind fun u s' e' => ?_
  obtain ⟨a2, h2⟩ := wei_mark last _ s hs.2 u s' e'
  dsimp only at a2
  exact Wei.ok (by have := hs.1; omega) h2
theorem wei_port (last : Int) (n : ByteArray) (r : List Tok) (h : ∀ t ∈ r, okT t) : Wei (fun q => q.1.size + q.2.size) (pPort last n r) (n.size + 64 * r.length) := by
  unfold pPort
  refine Wei.ite (fun hi => ?_) (fun _ => ?_)
  · have := isT_len hi
    refine Wei.bind fun p s e => ?_
    obtain ⟨a1, h1⟩ := wei_name last r.tail (tail_ok h) p s e
    exact Wei.ok (by dsimp only at a1 ⊢; omega) h1
  · exact Wei.ok (by dsimp only; show n.size + 0 + _ ≤ _; omega) h
theorem wei_ref (last : Int) (r : List Tok) (h : ∀ t ∈ r, okT t) : Wei (fun q => q.1.size + q.2.size + 1) (pRef last r) (64 * r.length) := by
  unfold pRef
  refine Wei.bind fun n s e => ?_
  obtain ⟨a1, h1⟩ := wei_name last r h n s e
  intro q s' e'
  obtain ⟨a2, h2⟩ := wei_port last n s h1 q s' e'
  dsimp only at a1 a2 ⊢
  exact ⟨by omega, h2⟩
theorem wei_refs (last : Int) (ar : List UInt8) : ∀ (f : Nat) (out : List Two) (r : List Tok), (∀ t ∈ r, okT t) → Wei sizeTwo (pRefs last ar f out r) (sizeTwo out + 64 * r.length)
  | 0, _, _, _ => by rw [pRefs]; exact Wei.err
  | f + 1, out, r, h => by
    rw [pRefs]
    refine Wei.ite (fun hi => ?_) (fun _ => Wei.ok (Nat.le_refl _) h)
    refine Wei.bind fun u s e => ?_
    obtain ⟨a1, h1⟩ := wei_mark last _ r h u s e
    refine Wei.bind fun q s' e' => ?_
    obtain ⟨a2, h2⟩ := wei_ref last s h1 q s' e'
    refine (wei_refs last ar f (out ++ [q]) s' h2).mono ?_
    dsimp only at a1 a2
    rw [two_app, two_one]; omega
theorem sizeS_mk (k : Int) (n : ByteArray) (rs al : List Two) (b : List Stm) : sizeS (.mk k n rs al b) = n.size + sizeTwo rs + sizeTwo al + sizeL b + 1 := by rw [sizeS]
theorem wei_chain (last : Int) (ar : List UInt8) (r : List Tok) (h : ∀ t ∈ r, okT t) : Wei sizeS (pChain last ar r) (64 * r.length) := by
  unfold pChain
  refine Wei.bind fun n s e => ?_
  obtain ⟨a1, h1⟩ := wei_name last r h n s e
  refine Wei.ite (fun _ => ?_) (fun _ => ?_)
  · refine Wei.bind fun a s' e' => ?_
    obtain ⟨a2, h2⟩ := wei_opt last s h1 a s' e'
    refine Wei.ok ?_ h2
    rw [sizeS_mk, sizeTwo, sizeL_nil]; dsimp only at a1 a2; omega
  · refine Wei.bind fun q s' e' => ?_
    obtain ⟨a2, h2⟩ := wei_port last n s h1 q s' e'
    refine Wei.bind fun rs s2 e2 => ?_
    obtain ⟨a3, h3⟩ := wei_refs last ar _ [q] s' h2 rs s2 e2
    refine Wei.bind fun a s3 e3 => ?_
    obtain ⟨a4, h4⟩ := wei_opt last s2 h3 a s3 e3
    refine Wei.ok ?_ h4
    rw [two_one] at a3
    rw [sizeS_mk, sizeL_nil]; dsimp only at a1 a2 a3 a4
    have : ByteArray.size ⟨#[]⟩ = 0 := rfl
    omega
theorem wei_set (last : Int) (r : List Tok) (h : ∀ t ∈ r, okT t) : Wei sizeS (pSet last r) (64 * r.length) := by
  unfold pSet
  refine Wei.bind fun n s e => ?_
  obtain ⟨a1, h1⟩ := wei_name last r h n s e
  refine Wei.bind fun u s1 e => ?_
  obtain ⟨a2, h2⟩ := wei_mark last _ s h1 u s1 e
  refine Wei.bind fun v s2 e => ?_
  obtain ⟨a3, h3⟩ := wei_val last s1 h2 v s2 e
  refine Wei.bind fun u' s3 e => ?_
  obtain ⟨a4, h4⟩ := wei_mark last _ s2 h3 u' s3 e
  refine Wei.ok ?_ h4
  rw [sizeS_mk, two_one, sizeL_nil, sizeTwo]
  dsimp only at a1 a2 a3 a4 ⊢
  have : ByteArray.size ⟨#[]⟩ = 0 := rfl
  omega
theorem wei_def (last : Int) (x : List UInt8) (hx : x.length ≤ 32) (r : List Tok) (h : ∀ t ∈ r, okT t) : Wei sizeS (pDef last x r) (64 * r.length + 64) := by
  unfold pDef
  refine Wei.bind fun a s e => ?_
  obtain ⟨a1, h1⟩ := wei_attrsB last r h a s e
  refine Wei.bind fun u s1 e => ?_
  obtain ⟨a2, h2⟩ := wei_mark last _ s h1 u s1 e
  refine Wei.ok ?_ h2
  rw [sizeS_mk, sizeL_nil, sizeTwo, size_mk]
  dsimp only at a1 a2
  omega
theorem text_len (r : List Tok) (h : ∀ t ∈ r, okT t) : (textOf r).length ≤ 32 := by
  cases r with
  | nil => show ([] : List UInt8).length ≤ 32; simp
  | cons t r => exact (h t (by simp)).1
theorem sizeL_app : ∀ (a b : List Stm), sizeL (a ++ b) = sizeL a + sizeL b
  | [], b => by rw [List.nil_append, sizeL_nil]; omega
  | x :: a, b => by rw [List.cons_append, sizeL_cons, sizeL_cons, sizeL_app a b]; omega
theorem wei_all (last : Int) (ar : List UInt8) : ∀ f : Nat, (∀ dep r, (∀ t ∈ r, okT t) → Wei sizeS (pStm last ar f dep r) (64 * r.length)) ∧
    (∀ dep r, (∀ t ∈ r, okT t) → Wei sizeL (pBlock last ar f dep r) (64 * r.length)) ∧ ∀ dep out r, (∀ t ∈ r, okT t) → Wei sizeL (pStms last ar f dep out r) (sizeL out + 64 * r.length)
  | 0 => by
    refine ⟨fun _ _ _ => ?_, fun _ _ _ => ?_, fun _ _ _ _ => ?_⟩
    · rw [pStm]; exact Wei.err
    · rw [pBlock]; exact Wei.err
    · rw [pStms]; exact Wei.err
  | f + 1 => by
    obtain ⟨h1, h2, h3⟩ := wei_all last ar f
    refine ⟨fun dep r h => ?_, fun dep r h => ?_, fun dep out r h => ?_⟩
    · rw [pStm]
      refine Wei.ite (fun hi => ?_) (fun _ => Wei.ite (fun hi => ?_) (fun _ => Wei.ite (fun hi => ?_) (fun _ => wei_chain last ar r h)))
      · have hl : r.tail.length + 1 = r.length := by
          rcases Bool.or_eq_true _ _ |>.mp hi with hi | hi <;> exact isT_len hi
        exact (wei_def last _ (text_len r h) r.tail (tail_ok h)).mono (by omega)
      · have := isT_len hi
        exact (wei_set last r.tail (tail_ok h)).mono (by omega)
      · have hl := isT_len hi
        refine Wei.bind fun n s e => ?_
        obtain ⟨a1, g1⟩ := wei_name last r.tail (tail_ok h) n s e
        refine Wei.bind fun b s' e' => ?_
        obtain ⟨a2, g2⟩ := h2 _ s g1 b s' e'
        refine Wei.ok ?_ g2
        rw [sizeS_mk, sizeTwo]; dsimp only at a1; omega
    · rw [pBlock]
      refine Wei.ite (fun _ => Wei.err) (fun _ => ?_)
      refine Wei.bind fun u s e => ?_
      obtain ⟨a1, g1⟩ := wei_mark last _ r h u s e
      refine (h3 dep [] s g1).mono ?_
      rw [sizeL_nil]; omega
    · rw [pStms]
      refine Wei.ite (fun hi => ?_) (fun _ => ?_)
      · have := isT_len hi
        exact Wei.ok (by omega) (tail_ok h)
      refine Wei.bind fun x s e => ?_
      obtain ⟨a1, g1⟩ := h1 dep r h x s e
      refine (h3 dep (out ++ [x]) s g1).mono ?_
      rw [sizeL_app, sizeL_cons, sizeL_nil]; omega
theorem wei_tree (last : Int) (f : Nat) (r : List Tok) (h : ∀ t ∈ r, okT t) : Wei (fun t => t.2.1.size + sizeL t.2.2) (pTree last f r) (64 * r.length) := by
  unfold pTree
  refine Wei.ite (fun hi => ?_) (fun _ => Wei.ite (fun hi => ?_) (fun _ => Wei.err))
  all_goals
    have hl := isT_len hi
    refine Wei.bind fun n s e => ?_
    obtain ⟨a1, g1⟩ := wei_name last r.tail (tail_ok h) n s e
    refine Wei.bind fun b s' e' => ?_
    obtain ⟨a2, g2⟩ := (wei_all last _ f).2.1 _ s g1 b s' e'
    refine Wei.ok ?_ g2
    dsimp only at a1 ⊢; omega
end Go.Proofs.YtmallladeidkpaaGreatDoor.Pa

/- What the lexer's Tokenize returns: the walk. -/
namespace Go.Proofs.YtmallladeidkpaaGreatDoor.Lx
open Go.RowKit Go.Sort Go.Lib Go.Shelf Fx

def strSize : Value → Nat
  | .string s => s.size
  | _ => 0
theorem skip_lt (s : ByteArray) (h0 : 0 < s.size) (h : s[0].toNat ≠ 10) : (skip s.data.toList).1.length + (if (skip s.data.toList).2 then 1 else 0) ≤ s.size - 1 := by
  have hd := drop_at s 0 h0
  rw [List.drop_zero] at hd
  have hl := size_len s
  rw [hd] at hl ⊢
  unfold skip
  rw [if_neg (fun e => h (by rw [e]; rfl))]
  have := skip_len (s.data.toList.drop (0 + 1))
  simp only [List.length_cons] at hl
  omega
theorem cell_new2 (w : World) (A C : Obj) (l : List Value) (T : TypeId) (hC : C = .cells l.toArray T) (j : Nat) (u : Value) (h : l[j]? = some u) :
    ((w.alloc A).alloc C).cell? ((⟨w.heap.size + 1, 0, none⟩ : Addr).add j) = some u := by
  have hb := heap_alloc_new (w.alloc A) C
  rw [World.size_alloc, hC] at hb
  have e : (⟨w.heap.size + 1, 0, none⟩ : Addr).add j = ⟨w.heap.size + 1, j, none⟩ := by simp [Addr.add]; exact fun h => h.symm
  rw [e, hC, Lib.cell_of_heap hb]
  simpa using h
/-- A list of tokens, its line and its error, as they are handed back in w. -/
def TokRes (B : Nat) (R : List Tok × Int × Int) (e : Ending) (w : World) : Prop :=
  ∃ v, e = .returned (.tuple #[v, .int .i64 R.2.1, .int .i64 R.2.2]) ∧ w.ownsRow B 86 4 v R.1.length (toksC R.1)

set_option maxHeartbeats 8000000 in
set_option maxRecDepth 1000000 in
theorem tokenize_any (s0 : ByteArray) (w : World) (hs0 : s0.size ≤ 9223372036854775807) (he : Env w) :
    Calls Tryz.prog 31 #[.string s0] w fun e w' => TokRes w.heap.size (tokenize s0.data.toList) e w' ∧ Ext w w' := by
  have HE := Lib.hid he
  clear he
  by_cases hbig : 16384 < s0.size
  · have hr : tokenize s0.data.toList = ([], 0, 2) := by unfold tokenize; rw [if_pos (by rw [← size_len]; exact hbig)]
    rw [hr]
    go_enter Tryz.func31, Tryz.ntmps31
    go_wp2
    go_returns
    exact ⟨⟨_, rfl, World.ownsRow_nil _ _ _ _⟩, Ext.refl _⟩
  · have hr : tokenize s0.data.toList = tokz s0.size 1 [] s0.data.toList := by unfold tokenize; rw [if_neg (by rw [← size_len]; exact hbig), ← size_len]
    obtain ⟨R, hR⟩ : ∃ R, R = tokenize s0.data.toList := ⟨_, rfl⟩
    rw [← hR] at hr ⊢
    have HR := Lib.hid hr
    clear hr hR
    obtain ⟨i0, hi, hz0, hz1, hz2⟩ := info_parts info_tok
    go_enter Tryz.func31, Tryz.ntmps31
    go_wp2_with fail
    go_loopw [0, 5, 6] (fun src out line wr => ∃ (s : ByteArray) (f ln : Nat) (L : List Tok), src = .string s ∧ line = .int .i64 ln ∧ wr.ownsRow w.heap.size 86 4 out L.length (toksC L) ∧ Ext w wr ∧ Hid (R = tokz f ln L s.data.toList) ∧ s.size ≤ f ∧ L.length + s.size ≤ 16384 ∧ ln + s.size ≤ 16385)
      (fun src _ _ _ => strSize src)
    case atStart => exact ⟨s0, s0.size, 1, [], rfl, rfl, World.ownsRow_nil _ _ _ _, Ext.refl _, HR, by omega, by simp; omega, by omega⟩
    case round =>
      obtain ⟨s, f, ln, L, rfl, rfl, hown, hx, ha, hf, hl, hln⟩ := hrel
      clear HR
      have hxs := hx.size
      by_cases hp : 0 < s.size
      · obtain ⟨f, rfl⟩ : ∃ f', f = f' + 1 := ⟨f - 1, by omega⟩
        have hst := ha.out
        have hsd := drop_at s 0 hp
        rw [List.drop_zero] at hsd
        rw [hsd] at hst
        have hw := tokz_ways f ln L s[0] _ R hst
        rw [← hsd] at hw
        have e1 : (s.extract 1 s.size).data.toList = s.data.toList.drop 1 := by rw [extract_from]
        have e1s : (s.extract 1 s.size).size = s.size - 1 := by simp
        rw [← e1] at hw
        clear hst ha hsd e1
        rcases hw with ⟨c1, hf'⟩ | ⟨c1, hf'⟩ | ⟨c1, hf'⟩ | ⟨c1, hf'⟩ | ⟨c1, c2, c3, c4, h5, hf'⟩ | ⟨c1, c2, c3, c4, h5, hf'⟩
        · obtain ⟨f1, _⟩ := eq_facts (x := (s[0].toNat : Int)) (k := 10) (by omega)
          go_wp2
          go_roundw
          case rel => exact ⟨s.extract 1 s.size, f, ln + 1, L, rfl, by go_num, hown, hx, hf', by omega, by omega, by omega⟩
          case measure => simp only [strSize]; omega
        · obtain ⟨f1, _⟩ := ne_facts (x := (s[0].toNat : Int)) (k := 10) (by omega)
          obtain ⟨f2, _⟩ := eq_facts (x := (s[0].toNat : Int)) (k := 32) (by omega)
          go_wp2
          go_roundw
          case rel => exact ⟨s.extract 1 s.size, f, ln, L, rfl, rfl, hown, hx, hf', by omega, by omega, by omega⟩
          case measure => simp only [strSize]; omega
        · obtain ⟨f1, _⟩ := ne_facts (x := (s[0].toNat : Int)) (k := 10) (by omega)
          obtain ⟨f2, _⟩ := ne_facts (x := (s[0].toNat : Int)) (k := 32) (by omega)
          obtain ⟨f3, _⟩ := eq_facts (x := (s[0].toNat : Int)) (k := 9) (by omega)
          go_wp2
          go_roundw
          case rel => exact ⟨s.extract 1 s.size, f, ln, L, rfl, rfl, hown, hx, hf', by omega, by omega, by omega⟩
          case measure => simp only [strSize]; omega
        · obtain ⟨f1, _⟩ := ne_facts (x := (s[0].toNat : Int)) (k := 10) (by omega)
          obtain ⟨f2, _⟩ := ne_facts (x := (s[0].toNat : Int)) (k := 32) (by omega)
          obtain ⟨f3, _⟩ := ne_facts (x := (s[0].toNat : Int)) (k := 9) (by omega)
          obtain ⟨f4, _⟩ := eq_facts (x := (s[0].toNat : Int)) (k := 35) (by omega)
          have hsk := skip_lt s hp (by omega)
          obtain ⟨a, hae⟩ : ∃ a : ByteArray, (⟨(skip s.data.toList).1.toArray⟩ : ByteArray) = a := ⟨_, rfl⟩
          obtain ⟨p, hpe⟩ : ∃ p, (skip s.data.toList).2 = p := ⟨_, rfl⟩
          have had : (skip s.data.toList).1 = a.data.toList := by rw [← hae]
          have has : (skip s.data.toList).1.length = a.size := by rw [had, size_len]
          rw [has, hpe] at hsk
          rw [hpe, had] at hf'
          have HAE := Lib.hid hae; have HPE := Lib.hid hpe
          clear hae hpe had has
          go_wp2_with fail
          refine (cutnl_n s a p _ (by omega) (HE.out.ext hx) HAE.out HPE.out).mono ?_
          rintro e w1 ⟨⟨b, rfl⟩, x1⟩
          cases p
          · have hsk' : a.size ≤ s.size - 1 := hsk
            clear hsk
            go_wp2
            go_roundw
            case rel => exact ⟨a, f, ln, L, rfl, rfl, own_ext hown x1, hx.trans x1, hf', by omega, by omega, by omega⟩
            case measure => simp only [strSize]; omega
          · have hsk' : a.size + 1 ≤ s.size - 1 := hsk
            clear hsk
            go_wp2
            go_roundw
            case rel => exact ⟨a, f, ln + 1, L, rfl, by go_num, own_ext hown x1, hx.trans x1, hf', by omega, by omega, by omega⟩
            case measure => simp only [strSize]; omega
        · obtain ⟨f1, _⟩ := ne_facts (x := (s[0].toNat : Int)) (k := 10) (by omega)
          obtain ⟨f2, _⟩ := ne_facts (x := (s[0].toNat : Int)) (k := 32) (by omega)
          obtain ⟨f3, _⟩ := ne_facts (x := (s[0].toNat : Int)) (k := 9) (by omega)
          obtain ⟨f4, _⟩ := ne_facts (x := (s[0].toNat : Int)) (k := 35) (by omega)
          obtain ⟨T, n, c, hN⟩ : ∃ T n c, next s.data.toList = (T, n, c) := ⟨_, _, _, rfl⟩
          have hnl := next_len s.data.toList (by rw [← size_len]; exact hp)
          rw [hN] at hnl h5 hf'
          have h5 : c = 0 := h5
          subst h5
          obtain ⟨n1, n2⟩ : 1 ≤ n ∧ n ≤ s.size := by rw [size_len]; exact hnl rfl
          have hnx := next_any s wr hp (by omega) (HE.out.ext hx)
          rw [hN] at hnx
          have HNX := Lib.hid hnx
          have e2 : (s.extract n s.size).data.toList = s.data.toList.drop n := by rw [extract_from]
          have e2s : (s.extract n s.size).size = s.size - n := by simp
          have hf2 : Hid (R = tokz f ln (L ++ [(⟨T.kind, T.text, T.n, ln⟩ : Tok)]) (s.extract n s.size).data.toList) := Lib.hid (by rw [e2]; exact hf'.out)
          clear hnl hnx hN e2 hf'
          go_wp2_with fail
          refine HNX.out.mono ?_
          rintro e w1 ⟨rfl, x1⟩
          unfold nextV tokV
          have hx1 := hx.trans x1
          have hxs1 := hx1.size
          have hown1 := own_ext hown x1
          go_wp2_with (at_builtin; refine wpList_append_own _ rfl _ _ 64 rfl w.heap.size 86 i0 _ 4 40 Tryz.underlying64 hi hz0 hz1 hz2 rfl (by decide) _ _ _ rfl ((hown1.alloc _).alloc _) ⟨w1.heap.size + 1, 0, none⟩ 1 1 (tokC ⟨T.kind, T.text, T.n, ln⟩) rfl rfl ?c1 ?c2 ?c3 ?c4 ?c5 ?_)
          case c1 => exact fun j u hj => cell_new2 w1 _ _ (tokC ⟨T.kind, T.text, T.n, ln⟩) 86 rfl j u hj
          case c2 => intro u hu; simp [tokC] at hu; rcases hu with rfl | rfl | rfl | rfl <;> rfl
          case c3 => unfold maxLen; omega
          case c4 => omega
          case c5 => simp; omega
          intro v' w2 hown' hgrow _
          have hown2 : w2.ownsRow w.heap.size 86 4 v' (L ++ [(⟨T.kind, T.text, T.n, ln⟩ : Tok)]).length (toksC (L ++ [(⟨T.kind, T.text, T.n, ln⟩ : Tok)])) := by
            rw [toksC_snoc]; simpa using hown'
          have hx2 : Ext w w2 := Below.grown ((hx1.alloc _).alloc _) hgrow (by simp; omega) (fun k hk => (hown1.lt k hk).1)
          clear hown' hgrow hown hown1
          go_wp2
          go_roundw
          case rel => exact ⟨s.extract n s.size, f, ln, L ++ [(⟨T.kind, T.text, T.n, ln⟩ : Tok)], rfl, rfl, hown2, hx2, hf2, by omega, by simp; omega, by omega⟩
          case measure => simp only [strSize]; omega
        · obtain ⟨f1, _⟩ := ne_facts (x := (s[0].toNat : Int)) (k := 10) (by omega)
          obtain ⟨f2, _⟩ := ne_facts (x := (s[0].toNat : Int)) (k := 32) (by omega)
          obtain ⟨f3, _⟩ := ne_facts (x := (s[0].toNat : Int)) (k := 9) (by omega)
          obtain ⟨f4, _⟩ := ne_facts (x := (s[0].toNat : Int)) (k := 35) (by omega)
          obtain ⟨T, n, c, hN⟩ : ∃ T n c, next s.data.toList = (T, n, c) := ⟨_, _, _, rfl⟩
          rw [hN] at h5 hf'
          have h5 : c ≠ 0 := h5
          have hnx := next_any s wr hp (by omega) (HE.out.ext hx)
          rw [hN] at hnx
          have HNX := Lib.hid hnx
          clear hnx hN
          go_wp2_with fail
          refine HNX.out.mono ?_
          rintro e w1 ⟨rfl, x1⟩
          unfold nextV tokV
          have hx1 := hx.trans x1
          go_wp2
          go_returns
          rw [hf'.out]
          exact ⟨⟨_, rfl, World.ownsRow_nil _ _ _ _⟩, hx1.alloc _⟩
      · have hnil : s.data.toList = [] := List.eq_nil_of_length_eq_zero (by rw [← size_len]; omega)
        have hR : R = (L, 0, 0) := by
          rw [ha.out, hnil]; cases f <;> rfl
        have HR := Lib.hid hR
        clear ha hR hnil
        go_wp2
        go_returns
        rw [HR.out]
        exact ⟨⟨_, rfl, hown⟩, hx⟩
end Go.Proofs.YtmallladeidkpaaGreatDoor.Lx

/- How many tokens a text has at most; plain. -/
namespace Go.Proofs.YtmallladeidkpaaGreatDoor.Lx
open Go.Lib Fx


theorem tokz_len (hn : ∀ s : List UInt8, 0 < s.length → (next s).2.2 = 0 → 1 ≤ (next s).2.1) : ∀ (f : Nat) (s : List UInt8) (ln : Int) (L : List Tok), s.length ≤ f → (tokz f ln L s).1.length ≤ L.length + s.length
  | 0, s, ln, L, _ => by show L.length ≤ _; omega
  | f + 1, [], ln, L, _ => by show L.length ≤ _; omega
  | f + 1, c :: r, ln, L, h => by
    simp only [List.length_cons] at h ⊢
    rw [tokz_cons]
    by_cases h1 : c = 10
    · rw [if_pos h1]; have := tokz_len hn f r (ln + 1) L (by omega); omega
    rw [if_neg h1]
    by_cases h2 : (decide (c = 32) || decide (c = 9)) = true
    · rw [if_pos h2]; have := tokz_len hn f r ln L (by omega); omega
    rw [if_neg h2]
    by_cases h3 : c = 35
    · rw [if_pos h3, skip_cons r h1]
      have hs := skip_le r
      have := tokz_len hn f (skip r).1 (if (skip r).2 then ln + 1 else ln) L (by omega)
      omega
    rw [if_neg h3]
    by_cases h4 : (next (c :: r)).2.2 = 0
    · rw [if_pos h4]
      have hl := hn (c :: r) (by simp) h4
      have hd : ((c :: r).drop (next (c :: r)).2.1).length ≤ r.length := by rw [List.length_drop, List.length_cons]; omega
      have := tokz_len hn f ((c :: r).drop (next (c :: r)).2.1) ln (L ++ [⟨(next (c :: r)).1.kind, (next (c :: r)).1.text, (next (c :: r)).1.n, ln⟩]) (by omega)
      rw [List.length_append, List.length_singleton] at this
      rw [List.length_drop, List.length_cons] at this
      omega
    · rw [if_neg h4]; exact Nat.zero_le _
theorem tokenize_len (s : List UInt8) : (tokenize s).1.length ≤ 16384 := by
  unfold tokenize
  by_cases h : 16384 < s.length
  · rw [if_pos h]; exact Nat.zero_le _
  · rw [if_neg h]
    have := tokz_len (fun s h0 h1 => (next_len s h0 h1).1) s.length s 1 [] (Nat.le_refl _)
    simp only [List.length_nil] at this
    omega
end Go.Proofs.YtmallladeidkpaaGreatDoor.Lx
