/- Packed texts: TreNl, LexTokW, LexSame -/
import Derived.Test.YtnjnfkfmkbnkhaaGreatDoorPa22
import Derived.Test.YtnjnfkfmkbnkhaaGreatDoorPa31
import Derived.Test.YtnjnfkfmkbnkhaaGreatDoorPa20
set_option linter.unusedVariables false
set_option linter.unusedSimpArgs false
/- The bytes and the lines of a printed tree; plain. -/
namespace Go.Proofs.YtnjnfkfmkbnkhaaGreatDoor.Tr
open Go.Lib Fx Lx

def okL (b : UInt8) : Bool := okT b || b == 10
/-- Only printable bytes and line feeds, so many of these. -/
def Good (s : List UInt8) (k : Nat) : Prop := s.all okL = true ∧ s.count 10 = k
theorem Good.app {a b : List UInt8} {i j : Nat} (h : Good a i) (k : Good b j) : Good (a ++ b) (i + j) := by
  refine ⟨?_, by rw [List.count_append, h.2, k.2]⟩
  rw [List.all_append, h.1, k.1]; rfl
theorem Good.plain {a : List UInt8} (h : a.all okT = true) : Good a 0 := by
  rw [List.all_eq_true] at h
  refine ⟨List.all_eq_true.2 fun b hb => by unfold okL; rw [h b hb]; rfl, ?_⟩
  rw [List.count_eq_zero]
  intro hb
  exact absurd (h 10 hb) (by decide)
theorem scan_full (p : Nat → Bool) : ∀ (f n : Nat), scan p f n = n + f → ∀ k, n ≤ k → k < n + f → p k = true
  | 0, n, _, k, h1, h2 => by omega
  | f + 1, n, h, k, h1, h2 => by
    have hs : scan p (f + 1) n = if p n then scan p f (n + 1) else n := rfl
    rw [hs] at h
    by_cases hp : p n = true
    · rw [if_pos hp] at h
      by_cases e : k = n
      · rw [e]; exact hp
      · exact scan_full p f (n + 1) (by omega) k (by omega) (by omega)
    · rw [if_neg hp] at h; omega
theorem isL_okT {b : UInt8} (h : isL b = true) : okT b = true := by
  unfold isL at h; unfold okT
  simp only [Bool.or_eq_true, decide_eq_true_eq, Bool.and_eq_true] at h ⊢
  omega
theorem isD_okT {b : UInt8} (h : isD b = true) : okT b = true := by
  unfold isD at h; unfold okT
  simp only [decide_eq_true_eq, Bool.and_eq_true] at h ⊢
  omega
theorem name_okT (l : List UInt8) (h : nameB l = true) : l.all okT = true := by
  unfold nameB at h
  simp only [Bool.and_eq_true, Bool.not_eq_true', decide_eq_true_eq] at h
  have hw := h.1.2
  unfold wordN at hw
  rw [List.all_eq_true]
  intro b hb
  obtain ⟨i, hi, rfl⟩ := List.getElem_of_mem hb
  have := scan_full (okW l) l.length 0 (by rw [hw]; omega) i (by omega) (by omega)
  unfold okW at this
  rw [show bt l i = l[i] from by unfold bt; rw [List.getElem?_eq_getElem hi]; rfl] at this
  simp only [Bool.or_eq_true, Bool.and_eq_true] at this
  rcases this with h | h
  · exact isL_okT h
  · exact isD_okT h.2
theorem esc_okT (l : List UInt8) (h : l.all okT = true) : (escL l).all okT = true := by
  rw [List.all_eq_true] at h ⊢
  intro b hb
  unfold escL at hb
  rw [List.mem_flatMap] at hb
  obtain ⟨x, hx, hb⟩ := hb
  unfold escB at hb
  split at hb
  · simp only [List.mem_cons, List.not_mem_nil, or_false] at hb
    rcases hb with rfl | rfl
    · decide
    · exact h _ hx
  · simp only [List.mem_cons, List.not_mem_nil, or_false] at hb
    subst hb; exact h _ hx
theorem value_okT (s : ByteArray) (h1 : s.size ≤ 32) (h2 : s.data.toList.all okT = true) : (valueT s).all okT = true := by
  unfold valueT
  split
  · exact h2
  · split
    · exact h2
    · have e : (quote s.data.toList).1 = 34 :: (escL s.data.toList ++ [34]) := by
        unfold quote
        rw [if_neg (by have : s.size = s.data.toList.length := by simp
                       omega), okT_plain _ h2]; rfl
      rw [e, List.all_cons, List.all_append, esc_okT _ h2]; rfl
theorem attr_okT (q : Two) (h : okA q) : (attrT q).all okT = true := by
  unfold attrT
  rw [List.all_append, List.all_cons, name_okT _ h.1, value_okT _ h.2.1 h.2.2]; rfl
theorem sep_okT (sep : List UInt8) (F : Two → List UInt8) (p : Two → Prop) (hs : sep.all okT = true) (hF : ∀ q, p q → (F q).all okT = true) : ∀ l : List Two, (∀ q ∈ l, p q) → (sepT sep (l.map F)).all okT = true
  | [], _ => rfl
  | [x], h => hF x (h x (by simp))
  | x :: y :: r, h => by
    show (F x ++ sep ++ sepT sep ((y :: r).map F)).all okT = true
    rw [List.all_append, List.all_append, hF x (h x (by simp)), hs, sep_okT sep F p hs hF (y :: r) (fun q hq => h q (by simp [hq]))]; rfl
theorem list_okT (a : List Two) (h : ∀ q ∈ a, okA q) : (listedT a).all okT = true := by
  unfold listedT
  rw [List.all_cons, List.all_append, sep_okT [44, 32] attrT okA rfl attr_okT a h]; rfl
theorem tail_okT (a : List Two) (h : ∀ q ∈ a, okA q) : (tailT a).all okT = true := by
  unfold tailT
  split
  · rfl
  · rw [List.all_cons, List.all_append, list_okT a h]; rfl
theorem ref_okT (r : Two) (h : refB r = true) : (refT r).all okT = true := by
  unfold refB at h
  simp only [Bool.and_eq_true, Bool.or_eq_true, decide_eq_true_eq] at h
  unfold refT
  rw [List.all_append, name_okT _ h.1]
  split
  · rfl
  · rename_i h0; rw [List.all_cons, name_okT _ (h.2.resolve_left h0)]; rfl
theorem ind_okT (n : Nat) : (indT n).all okT = true := by
  rw [List.all_eq_true]
  intro b hb
  unfold indT at hb
  rw [List.mem_replicate] at hb
  rw [hb.2]; decide
theorem Good.nl : Good [10] 1 := ⟨rfl, rfl⟩
mutual
theorem good_stm (d : Bool) : ∀ (x : Stm) (lev : Nat), AllS okS x → Good (printS d lev x) (linesS x)
  | .mk k n r a b, lev, h => by
    rw [AllS] at h
    obtain ⟨⟨hf, hn, hr, ha⟩, hb⟩ := h
    obtain ⟨hk, hk3, hk4⟩ := form_kinds _ hf
    simp only [Stm.kind, Stm.name, Stm.refs, Stm.attrs] at hn hr ha hk hk3 hk4
    rw [printS, linesS]
    have hi := ind_okT lev
    have haA : k ≠ 4 → ∀ q ∈ a, okA q := fun h4 q hq => ⟨(ha q hq).1 h4, (ha q hq).2⟩
    by_cases h1 : k = 1
    · rw [if_pos h1, if_neg (by omega)]
      exact Good.app (i := 0) (Good.plain (by rw [List.all_append, List.all_append, hi, name_okT _ (hn (.inl h1)), tail_okT a (haA (by omega))]; rfl)) Good.nl
    rw [if_neg h1]
    by_cases h2 : k = 2
    · rw [if_pos h2, if_neg (by omega)]
      refine Good.app (i := 0) (Good.plain ?_) Good.nl
      rw [List.all_append, List.all_append, hi, sep_okT (arrow d) refT (fun q => refB q = true) (by cases d <;> rfl) ref_okT r (fun q hq => List.all_eq_true.1 hr q hq), tail_okT a (haA (by omega))]; rfl
    rw [if_neg h2]
    by_cases h3 : k = 3
    · rw [if_pos h3, if_neg (by omega)]
      have hkw : n.data.toList.all okT = true := by
        have h := hk3 h3
        unfold kw at h
        simp only [Bool.or_eq_true, beq_iff_eq] at h
        rcases h with ((((h | h) | h) | h) | h) | h <;> (rw [h]; decide)
      rw [show ([59, 10] : List UInt8) = [59] ++ [10] from rfl, ← List.append_assoc]
      refine Good.app (i := 0) (Good.plain ?_) Good.nl
      rw [List.all_append, List.all_append, List.all_append, List.all_append, hi, hkw, list_okT a (haA (by omega))]; rfl
    rw [if_neg h3]
    by_cases h4 : k = 4
    · rw [if_pos h4, if_neg (by omega)]
      obtain ⟨q, rfl, _⟩ := hk4 h4
      obtain ⟨_, q1, q2⟩ := ha q (by simp)
      rw [show ([59, 10] : List UInt8) = [59] ++ [10] from rfl, ← List.append_assoc]
      refine Good.app (i := 0) (Good.plain ?_) Good.nl
      show (indT lev ++ [115, 101, 116, 32] ++ n.data.toList ++ [32, 61, 32] ++ valueT q.2 ++ [59]).all okT = true
      rw [List.all_append, List.all_append, List.all_append, List.all_append, List.all_append, hi, name_okT _ (hn (.inr (.inl h4))), value_okT _ q1 q2]; rfl
    rw [if_neg h4]
    have h5 : k = 5 := by clear hk3 hk4; omega
    rw [if_pos h5]
    have e : indT lev ++ [99, 108, 117, 115, 116, 101, 114, 32] ++ n.data.toList ++ [32, 123, 10] ++ printL d (lev + 1) b ++ indT lev ++ [125, 10] = ((indT lev ++ [99, 108, 117, 115, 116, 101, 114, 32] ++ n.data.toList ++ [32, 123]) ++ [10]) ++ (printL d (lev + 1) b ++ ((indT lev ++ [125]) ++ [10])) := by simp
    rw [e, show 2 + linesL b = 0 + 1 + (linesL b + (0 + 1)) by omega]
    refine Good.app (Good.app (Good.plain ?_) Good.nl) (Good.app (good_stms d b (lev + 1) hb) (Good.app (Good.plain ?_) Good.nl))
    · rw [List.all_append, List.all_append, List.all_append, hi, name_okT _ (hn (.inr (.inr h5)))]; rfl
    · rw [List.all_append, hi]; rfl
theorem good_stms (d : Bool) : ∀ (X : List Stm) (lev : Nat), AllL okS X → Good (printL d lev X) (linesL X)
  | [], lev, _ => by rw [printL, linesL]; exact ⟨rfl, rfl⟩
  | x :: r, lev, h => by
    rw [AllL] at h
    rw [printL, linesL]
    exact Good.app (good_stm d x lev h.1) (good_stms d r lev h.2)
end
theorem good_tree (d : Bool) (name : ByteArray) (body : List Stm) (h1 : nameB name.data.toList = true) (h2 : AllL okS body) : Good (printT d name body) (2 + linesL body) := by
  have e : printT d name body = (((if d then [100, 105, 103, 114, 97, 112, 104, 32] else [103, 114, 97, 112, 104, 32]) ++ name.data.toList ++ [32, 123]) ++ [10]) ++ (printL d 1 body ++ ([125] ++ [10])) := by
    unfold printT; simp
  rw [e, show 2 + linesL body = 0 + 1 + (linesL body + (0 + 1)) by omega]
  refine Good.app (Good.app (Good.plain ?_) Good.nl) (Good.app (good_stms d body 1 h2) (Good.app (Good.plain rfl) Good.nl))
  rw [List.all_append, List.all_append, name_okT _ h1]
  cases d <;> rfl
theorem clusN_app (F G : List (Stm × Nat)) : clusN (F ++ G) = clusN F + clusN G := by unfold clusN; rw [List.filter_append, List.length_append]
mutual
theorem lines_stm : ∀ (x : Stm) (lev : Nat), AllS okS x → linesS x = (flatS lev x).length + clusN (flatS lev x)
  | .mk k n r a b, lev, h => by
    rw [AllS] at h
    obtain ⟨⟨hf, _⟩, hb⟩ := h
    rw [linesS, flatS, List.length_cons, clusN_cons]
    by_cases h5 : k = 5
    · rw [if_pos h5, if_pos h5, lines_stms b (lev + 1) hb, show clusOf (.mk k n r a b, lev) = 1 from if_pos h5]; omega
    · rw [if_neg h5, if_neg h5, show clusOf (.mk k n r a b, lev) = 0 from if_neg h5]
      have hbn : b = [] := by
        rw [formB_mk] at hf
        refine List.eq_nil_of_length_eq_zero ?_
        by_cases h1 : k = 1
        · rw [if_pos h1] at hf; simp only [Bool.and_eq_true, decide_eq_true_eq] at hf; exact hf.2
        rw [if_neg h1] at hf
        by_cases h2 : k = 2
        · rw [if_pos h2] at hf; simp only [Bool.and_eq_true, decide_eq_true_eq] at hf; exact hf.1.2
        rw [if_neg h2] at hf
        by_cases h3 : k = 3
        · rw [if_pos h3] at hf; simp only [Bool.and_eq_true, decide_eq_true_eq] at hf; exact hf.1.2
        rw [if_neg h3] at hf
        by_cases h4 : k = 4
        · rw [if_pos h4] at hf; simp only [Bool.and_eq_true, decide_eq_true_eq] at hf; exact hf.1.2
        rw [if_neg h4, if_neg h5] at hf
        exact absurd hf (by decide)
      subst hbn
      rw [flatL_nil]; rfl
theorem lines_stms : ∀ (X : List Stm) (lev : Nat), AllL okS X → linesL X = (flatL lev X).length + clusN (flatL lev X)
  | [], lev, _ => by rw [linesL, flatL]; rfl
  | x :: r, lev, h => by
    rw [AllL] at h
    rw [linesL, flatL, List.length_append, clusN_app, lines_stm x lev h.1, lines_stms r lev h.2]; omega
end
theorem toksT_four (d : Bool) (name : ByteArray) (body : List Stm) : 4 ≤ (toksT d name body).length := by
  unfold toksT
  simp only [List.length_cons, List.length_append, List.length_nil]; omega
end Go.Proofs.YtnjnfkfmkbnkhaaGreatDoor.Tr

/- What the lexer's Tokenize returns: the walk. -/
namespace Go.Proofs.YtnjnfkfmkbnkhaaGreatDoor.Lx
open Go.RowKit Go.Sort Go.Lib Go.Shelf Fx

def strSize : Value → Nat
  | .string s => s.size
  | _ => 0
theorem skip_lt (s : ByteArray) (h0 : 0 < s.size) (h : s[0].toNat ≠ 10) : (skip s.data.toList).1.length + (if (skip s.data.toList).2 then 1 else 0) ≤ s.size - 1 := by
  have hd := drop_at s 0 h0
  rw [List.drop_zero] at hd
  have hl := size_len s
  rw [hd] at hl ⊢
  unfold skip
  rw [if_neg (fun e => h (by rw [e]; rfl))]
  have := skip_len (s.data.toList.drop (0 + 1))
  simp only [List.length_cons] at hl
  omega
theorem cell_new2 (w : World) (A C : Obj) (l : List Value) (T : TypeId) (hC : C = .cells l.toArray T) (j : Nat) (u : Value) (h : l[j]? = some u) :
    ((w.alloc A).alloc C).cell? ((⟨w.heap.size + 1, 0, none⟩ : Addr).add j) = some u := by
  have hb := heap_alloc_new (w.alloc A) C
  rw [World.size_alloc, hC] at hb
  have e : (⟨w.heap.size + 1, 0, none⟩ : Addr).add j = ⟨w.heap.size + 1, j, none⟩ := by simp [Addr.add]; exact fun h => h.symm
  rw [e, hC, Lib.cell_of_heap hb]
  simpa using h
/-- A list of tokens, its line and its error, as they are handed back in w. -/
def TokRes (B : Nat) (R : List Tok × Int × Int) (e : Ending) (w : World) : Prop :=
  ∃ v, e = .returned (.tuple #[v, .int .i64 R.2.1, .int .i64 R.2.2]) ∧ w.ownsRow B 69 4 v R.1.length (toksC R.1)

set_option maxHeartbeats 8000000 in
set_option maxRecDepth 1000000 in
theorem tokenize_any (s0 : ByteArray) (w : World) (hs0 : s0.size ≤ 9223372036854775807) (he : Env w) :
    Calls Tryz.prog 17 #[.string s0] w fun e w' => TokRes w.heap.size (tokenize s0.data.toList) e w' ∧ Ext w w' := by
  have HE := Lib.hid he
  clear he
  by_cases hbig : 16384 < s0.size
  · have hr : tokenize s0.data.toList = ([], 0, 2) := by unfold tokenize; rw [if_pos (by rw [← size_len]; exact hbig)]
    rw [hr]
    go_enter Tryz.func17, Tryz.ntmps17
    go_wp2
    go_returns
    exact ⟨⟨_, rfl, World.ownsRow_nil _ _ _ _⟩, Ext.refl _⟩
  · have hr : tokenize s0.data.toList = tokz s0.size 1 [] s0.data.toList := by unfold tokenize; rw [if_neg (by rw [← size_len]; exact hbig), ← size_len]
    obtain ⟨R, hR⟩ : ∃ R, R = tokenize s0.data.toList := ⟨_, rfl⟩
    rw [← hR] at hr ⊢
    have HR := Lib.hid hr
    clear hr hR
    obtain ⟨i0, hi, hz0, hz1, hz2⟩ := info_parts info_tok
    go_enter Tryz.func17, Tryz.ntmps17
    go_wp2_with fail
    go_loopw [0, 5, 6] (fun src out line wr => ∃ (s : ByteArray) (f ln : Nat) (L : List Tok), src = .string s ∧ line = .int .i64 ln ∧ wr.ownsRow w.heap.size 69 4 out L.length (toksC L) ∧ Ext w wr ∧ Hid (R = tokz f ln L s.data.toList) ∧ s.size ≤ f ∧ L.length + s.size ≤ 16384 ∧ ln + s.size ≤ 16385)
      (fun src _ _ _ => strSize src)
    case atStart => exact ⟨s0, s0.size, 1, [], rfl, rfl, World.ownsRow_nil _ _ _ _, Ext.refl _, HR, by omega, by simp; omega, by omega⟩
    case round =>
      obtain ⟨s, f, ln, L, rfl, rfl, hown, hx, ha, hf, hl, hln⟩ := hrel
      clear HR
      have hxs := hx.size
      by_cases hp : 0 < s.size
      · obtain ⟨f, rfl⟩ : ∃ f', f = f' + 1 := ⟨f - 1, by omega⟩
        have hst := ha.out
        have hsd := drop_at s 0 hp
        rw [List.drop_zero] at hsd
        rw [hsd] at hst
        have hw := tokz_ways f ln L s[0] _ R hst
        rw [← hsd] at hw
        have e1 : (s.extract 1 s.size).data.toList = s.data.toList.drop 1 := by rw [extract_from]
        have e1s : (s.extract 1 s.size).size = s.size - 1 := by simp
        rw [← e1] at hw
        clear hst ha hsd e1
        rcases hw with ⟨c1, hf'⟩ | ⟨c1, hf'⟩ | ⟨c1, hf'⟩ | ⟨c1, hf'⟩ | ⟨c1, c2, c3, c4, h5, hf'⟩ | ⟨c1, c2, c3, c4, h5, hf'⟩
        · obtain ⟨f1, _⟩ := eq_facts (x := (s[0].toNat : Int)) (k := 10) (by omega)
          go_wp2
          go_roundw
          case rel => exact ⟨s.extract 1 s.size, f, ln + 1, L, rfl, by go_num, hown, hx, hf', by omega, by omega, by omega⟩
          case measure => simp only [strSize]; omega
        · obtain ⟨f1, _⟩ := ne_facts (x := (s[0].toNat : Int)) (k := 10) (by omega)
          obtain ⟨f2, _⟩ := eq_facts (x := (s[0].toNat : Int)) (k := 32) (by omega)
          go_wp2
          go_roundw
          case rel => exact ⟨s.extract 1 s.size, f, ln, L, rfl, rfl, hown, hx, hf', by omega, by omega, by omega⟩
          case measure => simp only [strSize]; omega
        · obtain ⟨f1, _⟩ := ne_facts (x := (s[0].toNat : Int)) (k := 10) (by omega)
          obtain ⟨f2, _⟩ := ne_facts (x := (s[0].toNat : Int)) (k := 32) (by omega)
          obtain ⟨f3, _⟩ := eq_facts (x := (s[0].toNat : Int)) (k := 9) (by omega)
          go_wp2
          go_roundw
          case rel => exact ⟨s.extract 1 s.size, f, ln, L, rfl, rfl, hown, hx, hf', by omega, by omega, by omega⟩
          case measure => simp only [strSize]; omega
        · obtain ⟨f1, _⟩ := ne_facts (x := (s[0].toNat : Int)) (k := 10) (by omega)
          obtain ⟨f2, _⟩ := ne_facts (x := (s[0].toNat : Int)) (k := 32) (by omega)
          obtain ⟨f3, _⟩ := ne_facts (x := (s[0].toNat : Int)) (k := 9) (by omega)
          obtain ⟨f4, _⟩ := eq_facts (x := (s[0].toNat : Int)) (k := 35) (by omega)
          have hsk := skip_lt s hp (by omega)
          obtain ⟨a, hae⟩ : ∃ a : ByteArray, (⟨(skip s.data.toList).1.toArray⟩ : ByteArray) = a := ⟨_, rfl⟩
          obtain ⟨p, hpe⟩ : ∃ p, (skip s.data.toList).2 = p := ⟨_, rfl⟩
          have had : (skip s.data.toList).1 = a.data.toList := by rw [← hae]
          have has : (skip s.data.toList).1.length = a.size := by rw [had, size_len]
          rw [has, hpe] at hsk
          rw [hpe, had] at hf'
          have HAE := Lib.hid hae; have HPE := Lib.hid hpe
          clear hae hpe had has
          go_wp2_with fail
          refine (cutnl_n s a p _ (by omega) (HE.out.ext hx) HAE.out HPE.out).mono ?_
          rintro e w1 ⟨⟨b, rfl⟩, x1⟩
          cases p
          · have hsk' : a.size ≤ s.size - 1 := hsk
            clear hsk
            go_wp2
            go_roundw
            case rel => exact ⟨a, f, ln, L, rfl, rfl, own_ext hown x1, hx.trans x1, hf', by omega, by omega, by omega⟩
            case measure => simp only [strSize]; omega
          · have hsk' : a.size + 1 ≤ s.size - 1 := hsk
            clear hsk
            go_wp2
            go_roundw
            case rel => exact ⟨a, f, ln + 1, L, rfl, by go_num, own_ext hown x1, hx.trans x1, hf', by omega, by omega, by omega⟩
            case measure => simp only [strSize]; omega
        · obtain ⟨f1, _⟩ := ne_facts (x := (s[0].toNat : Int)) (k := 10) (by omega)
          obtain ⟨f2, _⟩ := ne_facts (x := (s[0].toNat : Int)) (k := 32) (by omega)
          obtain ⟨f3, _⟩ := ne_facts (x := (s[0].toNat : Int)) (k := 9) (by omega)
          obtain ⟨f4, _⟩ := ne_facts (x := (s[0].toNat : Int)) (k := 35) (by omega)
          obtain ⟨T, n, c, hN⟩ : ∃ T n c, next s.data.toList = (T, n, c) := ⟨_, _, _, rfl⟩
          have hnl := next_len s.data.toList (by rw [← size_len]; exact hp)
          rw [hN] at hnl h5 hf'
          have h5 : c = 0 := h5
          subst h5
          obtain ⟨n1, n2⟩ : 1 ≤ n ∧ n ≤ s.size := by rw [size_len]; exact hnl rfl
          have hnx := next_any s wr hp (by omega) (HE.out.ext hx)
          rw [hN] at hnx
          have HNX := Lib.hid hnx
          have e2 : (s.extract n s.size).data.toList = s.data.toList.drop n := by rw [extract_from]
          have e2s : (s.extract n s.size).size = s.size - n := by simp
          have hf2 : Hid (R = tokz f ln (L ++ [(⟨T.kind, T.text, T.n, ln⟩ : Tok)]) (s.extract n s.size).data.toList) := Lib.hid (by rw [e2]; exact hf'.out)
          clear hnl hnx hN e2 hf'
          go_wp2_with fail
          refine HNX.out.mono ?_
          rintro e w1 ⟨rfl, x1⟩
          unfold nextV tokV
          have hx1 := hx.trans x1
          have hxs1 := hx1.size
          have hown1 := own_ext hown x1
          go_wp2_with (at_builtin; refine wpList_append_own _ rfl _ _ 39 rfl w.heap.size 69 i0 _ 4 40 Tryz.underlying39 hi hz0 hz1 hz2 rfl (by decide) _ _ _ rfl ((hown1.alloc _).alloc _) ⟨w1.heap.size + 1, 0, none⟩ 1 1 (tokC ⟨T.kind, T.text, T.n, ln⟩) rfl rfl ?c1 ?c2 ?c3 ?c4 ?c5 ?_)
          case c1 => exact fun j u hj => cell_new2 w1 _ _ (tokC ⟨T.kind, T.text, T.n, ln⟩) 69 rfl j u hj
          case c2 => intro u hu; simp [tokC] at hu; rcases hu with rfl | rfl | rfl | rfl <;> rfl
          case c3 => unfold maxLen; omega
          case c4 => omega
          case c5 => simp; omega
          intro v' w2 hown' hgrow _
          have hown2 : w2.ownsRow w.heap.size 69 4 v' (L ++ [(⟨T.kind, T.text, T.n, ln⟩ : Tok)]).length (toksC (L ++ [(⟨T.kind, T.text, T.n, ln⟩ : Tok)])) := by
            rw [toksC_snoc]; simpa using hown'
          have hx2 : Ext w w2 := Below.grown ((hx1.alloc _).alloc _) hgrow (by simp; omega) (fun k hk => (hown1.lt k hk).1)
          clear hown' hgrow hown hown1
          go_wp2
          go_roundw
          case rel => exact ⟨s.extract n s.size, f, ln, L ++ [(⟨T.kind, T.text, T.n, ln⟩ : Tok)], rfl, rfl, hown2, hx2, hf2, by omega, by simp; omega, by omega⟩
          case measure => simp only [strSize]; omega
        · obtain ⟨f1, _⟩ := ne_facts (x := (s[0].toNat : Int)) (k := 10) (by omega)
          obtain ⟨f2, _⟩ := ne_facts (x := (s[0].toNat : Int)) (k := 32) (by omega)
          obtain ⟨f3, _⟩ := ne_facts (x := (s[0].toNat : Int)) (k := 9) (by omega)
          obtain ⟨f4, _⟩ := ne_facts (x := (s[0].toNat : Int)) (k := 35) (by omega)
          obtain ⟨T, n, c, hN⟩ : ∃ T n c, next s.data.toList = (T, n, c) := ⟨_, _, _, rfl⟩
          rw [hN] at h5 hf'
          have h5 : c ≠ 0 := h5
          have hnx := next_any s wr hp (by omega) (HE.out.ext hx)
          rw [hN] at hnx
          have HNX := Lib.hid hnx
          clear hnx hN
          go_wp2_with fail
          refine HNX.out.mono ?_
          rintro e w1 ⟨rfl, x1⟩
          unfold nextV tokV
          have hx1 := hx.trans x1
          go_wp2
          go_returns
          rw [hf'.out]
          exact ⟨⟨_, rfl, World.ownsRow_nil _ _ _ _⟩, hx1.alloc _⟩
      · have hnil : s.data.toList = [] := List.eq_nil_of_length_eq_zero (by rw [← size_len]; omega)
        have hR : R = (L, 0, 0) := by
          rw [ha.out, hnil]; cases f <;> rfl
        have HR := Lib.hid hR
        clear ha hR hnil
        go_wp2
        go_returns
        rw [HR.out]
        exact ⟨⟨_, rfl, hown⟩, hx⟩
end Go.Proofs.YtnjnfkfmkbnkhaaGreatDoor.Lx

/- What the document's Same returns of two lists of tokens. -/
namespace Go.Proofs.YtnjnfkfmkbnkhaaGreatDoor.Lx
open Go.RowKit Go.Sort Go.Lib Go.Shelf Fx

theorem toksC_length (L : List Tok) : (toksC L).length = 4 * L.length := by
  induction L with
  | nil => rfl
  | cons t r ih =>
    have e : toksC (t :: r) = tokC t ++ toksC r := rfl
    rw [e, List.length_append, ih, show (tokC t).length = 4 from rfl, List.length_cons]; omega
theorem toksC_at : ∀ (L : List Tok) (k : Nat) (h : k < L.length), (toksC L)[k * 4]? = some (.int .i64 L[k].kind) ∧ (toksC L)[k * 4 + 1]? = some (.string ⟨L[k].text.toArray⟩) ∧ (toksC L)[k * 4 + 2]? = some (.int .i64 L[k].n) ∧ (toksC L)[k * 4 + 3]? = some (.int .i64 L[k].line)
  | [], k, h => by simp at h
  | t :: r, 0, _ => ⟨rfl, rfl, rfl, rfl⟩
  | t :: r, k + 1, h => by
    have ih := toksC_at r k (by simpa using h)
    have e : toksC (t :: r) = tokC t ++ toksC r := rfl
    have hl : (tokC t).length = 4 := rfl
    rw [e, List.getElem?_append_right (by omega), List.getElem?_append_right (by omega), List.getElem?_append_right (by omega), List.getElem?_append_right (by omega), hl]
    rw [show (k + 1) * 4 - 4 = k * 4 by omega, show (k + 1) * 4 + 1 - 4 = k * 4 + 1 by omega, show (k + 1) * 4 + 2 - 4 = k * 4 + 2 by omega, show (k + 1) * 4 + 3 - 4 = k * 4 + 3 by omega]
    exact ih
/-- A list of tokens in a row at g. -/
def RowAt (g : Nat) (L : List Tok) (w : World) : Prop := ∀ j u, (toksC L)[j]? = some u → w.cell? ⟨g, j, none⟩ = some u
theorem own_row {w : World} {B : Nat} {v : Value} {L : List Tok} (h : w.ownsRow B 69 4 v L.length (toksC L)) :
    (L = [] ∧ ∃ a c, v = .slice a 0 c) ∨ (∃ g cap, v = .slice (some ⟨g, 0, none⟩) L.length cap ∧ g < w.heap.size ∧ RowAt g L w) := by
  rcases h.2 with ⟨h1, h2⟩ | ⟨g, cap, cur, hv, _, hg, _⟩
  · exact .inl ⟨List.eq_nil_of_length_eq_zero h2, _, _, h1⟩
  · refine .inr ⟨g, cap, hv, (Array.getElem?_eq_some_iff.1 hg).1, fun j u hu => ?_⟩
    have hc := h.cells (g := g) (by rw [hv]; rfl) j u hu
    have e : (⟨g, 0, none⟩ : Addr).add j = ⟨g, j, none⟩ := by simp [Addr.add]; exact fun h => h.symm
    rw [e] at hc; exact hc
theorem RowAt.ext {g : Nat} {L : List Tok} {w w' : World} (h : RowAt g L w) (x : Ext w w') : RowAt g L w' := fun j u hu => x.cell (h j u hu)

set_option maxHeartbeats 8000000 in
set_option maxRecDepth 1000000 in
theorem same_pos (La Lb : List Tok) (ga gb ca cb : Nat) (w : World) (ha : RowAt ga La w) (hb : RowAt gb Lb w) (hl : La.length = Lb.length) (hm : La.length ≤ 16384) :
    Calls Tryz.prog 19 #[.slice (some ⟨ga, 0, none⟩) La.length ca, .slice (some ⟨gb, 0, none⟩) Lb.length cb] w fun e w' => e = .returned (.bool (decide (La = Lb))) ∧ Ext w w' := by
  rw [← hl]
  obtain ⟨n, hn⟩ : ∃ n, n = La.length := ⟨_, rfl⟩
  rw [← hn]
  have HA := Lib.hid ha; have HB := Lib.hid hb; have HN := Lib.hid hn; have HL := Lib.hid hl
  have hm' : n ≤ 16384 := by omega
  clear ha hb hn hl hm
  go_enter Tryz.func19, Tryz.ntmps19
  go_wp2_with fail
  go_loopw [5] (fun i' wr => ∃ k : Nat, k ≤ n ∧ i' = .int .i64 k ∧ Hid (La.take k = Lb.take k) ∧ Ext w wr) (fun i' _ => n - (RowKit.intOf i').toNat)
  case atStart => exact ⟨0, by omega, rfl, Lib.hid rfl, Ext.refl _⟩
  case round =>
    obtain ⟨k, hk, rfl, ht, hx⟩ := hrel
    by_cases hlt : k < n
    · obtain ⟨a0, a1, a2, a3⟩ := toksC_at La k (by rw [← HN.out]; exact hlt)
      obtain ⟨b0, b1, b2, b3⟩ := toksC_at Lb k (by rw [← HL.out, ← HN.out]; exact hlt)
      have ra := HA.out.ext hx
      have rb := HB.out.ext hx
      have p0 := ra _ _ a0; have p1 := ra _ _ a1; have p2 := ra _ _ a2; have p3 := ra _ _ a3
      have q0 := rb _ _ b0; have q1 := rb _ _ b1; have q2 := rb _ _ b2; have q3 := rb _ _ b3
      have hlt' : (k : Int) < (n : Int) := by omega
      clear a0 a1 a2 a3 b0 b1 b2 b3 ra rb
      obtain ⟨tA, hA⟩ : ∃ t, La[k]'(by rw [← HN.out]; exact hlt) = t := ⟨_, rfl⟩
      obtain ⟨tB, hB⟩ : ∃ t, Lb[k]'(by rw [← HL.out, ← HN.out]; exact hlt) = t := ⟨_, rfl⟩
      rw [hA] at p0 p1 p2 p3
      rw [hB] at q0 q1 q2 q3
      obtain ⟨k1, t1, n1, l1⟩ := tA
      obtain ⟨k2, t2, n2, l2⟩ := tB
      have HTA := Lib.hid hA; have HTB := Lib.hid hB
      clear hA hB
      by_cases heq : (⟨k1, t1, n1, l1⟩ : Tok) = ⟨k2, t2, n2, l2⟩
      · injection heq with e1 e2 e3 e4
        subst e1; subst e2; subst e3; subst e4
        have ht' : Hid (La.take (k + 1) = Lb.take (k + 1)) := Lib.hid (by
          rw [List.take_succ_eq_append_getElem (by rw [← HN.out]; exact hlt), List.take_succ_eq_append_getElem (by rw [← HL.out, ← HN.out]; exact hlt), ht.out, HTA.out, HTB.out])
        clear ht HTA HTB
        go_wp2
        go_region
        all_goals
          go_wp2
          go_roundw
          case rel => exact ⟨k + 1, by omega, by go_num, ht', hx.drew⟩
          case measure => simp [RowKit.intOf]; omega
      · have hne : Hid (decide (La = Lb) = false) := Lib.hid (decide_eq_false (fun e => by
          have h1 := HTA.out; have h2 := HTB.out
          subst e
          exact heq (h1.symm.trans h2)))
        clear ht HTA HTB
        by_cases e1 : k1 = k2
        · subst e1
          by_cases e2 : t1 = t2
          · subst e2
            by_cases e3 : n1 = n2
            · subst e3
              have e4 : ¬ l1 = l2 := fun e => heq (by rw [e])
              clear heq
              go_wp2
              go_region
              all_goals
                go_wp2
                go_ret
                exact ⟨ret_bool hne.out.symm, hx.drew⟩
            · clear heq
              go_wp2
              go_region
              all_goals
                go_wp2
                go_ret
                exact ⟨ret_bool hne.out.symm, hx.drew⟩
          · clear heq
            go_wp2
            go_region
            all_goals
              go_wp2
              go_ret
              exact ⟨ret_bool hne.out.symm, hx.drew⟩
        · clear heq
          go_wp2
          go_region
          all_goals
            go_wp2
            go_ret
            exact ⟨ret_bool hne.out.symm, hx.drew⟩
    · have he : Hid (decide (La = Lb) = true) := Lib.hid (decide_eq_true (by
        have h1 := ht.out
        rw [List.take_of_length_le (by rw [← HN.out]; omega), List.take_of_length_le (by rw [← HL.out, ← HN.out]; omega)] at h1
        exact h1))
      clear ht
      go_wp2
      go_ret
      exact ⟨ret_bool he.out.symm, hx⟩

theorem len_ne {La Lb : List Tok} (h : La.length ≠ Lb.length) : decide (La = Lb) = false := decide_eq_false (fun e => h (by rw [e]))
theorem same_nil (a b : Option Addr) (c d : Nat) (w : World) :
    Calls Tryz.prog 19 #[.slice a 0 c, .slice b 0 d] w fun e w' => e = .returned (.bool true) ∧ Ext w w' := by
  go_enter Tryz.func19, Tryz.ntmps19
  go_wp2_with fail
  go_loopw [5] (fun i' wr => i' = .int .i64 0 ∧ Ext w wr) (fun _ _ => 0)
  case atStart => exact ⟨rfl, Ext.refl _⟩
  case round =>
    obtain ⟨rfl, hx⟩ := hrel
    go_wp2
    go_ret
    exact ⟨rfl, hx⟩
set_option maxHeartbeats 4000000 in
theorem same_any (La Lb : List Tok) (va vb : Value) (B B' : Nat) (w : World) (ha : w.ownsRow B 69 4 va La.length (toksC La)) (hb : w.ownsRow B' 69 4 vb Lb.length (toksC Lb)) (hma : La.length ≤ 16384) (hmb : Lb.length ≤ 16384) :
    Calls Tryz.prog 19 #[va, vb] w fun e w' => e = .returned (.bool (decide (La = Lb))) ∧ Ext w w' := by
  by_cases hl : La.length = Lb.length
  · rcases own_row ha with ⟨rfl, a, c, rfl⟩ | ⟨ga, ca, rfl, _, ra⟩
    · have hb0 : Lb = [] := List.eq_nil_of_length_eq_zero hl.symm
      subst hb0
      rcases own_row hb with ⟨_, b, d, rfl⟩ | ⟨gb, cb, rfl, _, rb⟩
      · exact same_nil a b c d w
      · exact same_nil a _ c cb w
    · rcases own_row hb with ⟨rfl, b, d, rfl⟩ | ⟨gb, cb, rfl, _, rb⟩
      · have ha0 : La = [] := List.eq_nil_of_length_eq_zero hl
        subst ha0
        exact same_nil _ b ca d w
      · exact same_pos La Lb ga gb ca cb w ra rb hl hma
  · have hne := Lib.hid (len_ne hl)
    obtain ⟨a, c, rfl⟩ : ∃ a c, va = .slice a La.length c := by
      rcases own_row ha with ⟨h1, a, c, h2⟩ | ⟨ga, ca, h2, _⟩
      · exact ⟨a, c, by rw [h2, h1]; rfl⟩
      · exact ⟨_, _, h2⟩
    obtain ⟨b, d, rfl⟩ : ∃ a c, vb = .slice a Lb.length c := by
      rcases own_row hb with ⟨h1, a, c, h2⟩ | ⟨ga, ca, h2, _⟩
      · exact ⟨a, c, by rw [h2, h1]; rfl⟩
      · exact ⟨_, _, h2⟩
    clear ha hb
    go_enter Tryz.func19, Tryz.ntmps19
    go_wp2
    go_ret
    exact ⟨ret_bool hne.out.symm, Ext.refl _⟩
end Go.Proofs.YtnjnfkfmkbnkhaaGreatDoor.Lx
