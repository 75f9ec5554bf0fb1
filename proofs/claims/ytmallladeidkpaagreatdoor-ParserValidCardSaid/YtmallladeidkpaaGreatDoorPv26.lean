/- Packed texts: ParLawV, ParAwk, ParSame -/
import Derived.Test.YtmallladeidkpaaGreatDoorPv13
import Derived.Test.YtmallladeidkpaaGreatDoorPv25
import Derived.Test.YtmallladeidkpaaGreatDoorPv17
import Derived.Test.YtmallladeidkpaaGreatDoorPv11
import Derived.Deep.CutRange
import Derived.BigQuiet
set_option linter.unusedVariables false
set_option linter.unusedSimpArgs false
/- A comment and blanks around a source: the same tree, or the same error one line later; no program in sight. -/
namespace Go.Proofs.YtmallladeidkpaaGreatDoor.Pa
open Go.Lib Fx Lx Tr

/-- Tokens on good lines. -/
def Ln (r : List Tok) : Prop := ∀ t ∈ r, 0 ≤ t.line ∧ t.line ≤ 16385
/-- What is left lies on good lines, and so does an error. -/
def Gd {α : Type} (x : PR α) : Prop := match x with
  | .ok _ r => Ln r
  | .err ln _ => 0 ≤ ln ∧ ln ≤ 16385
theorem Gd.bind {α β : Type} {x : PR α} {g : α → List Tok → PR β} (hx : Gd x) (h : ∀ v r, Ln r → Gd (g v r)) : Gd (x.bind g) := by
  cases x with
  | ok u s => exact h u s hx
  | err l2 e2 => exact hx
theorem Gd.ite {α : Type} {p : Prop} [Decidable p] {x y : PR α} (h1 : Gd x) (h2 : Gd y) : Gd (if p then x else y) := by
  by_cases h : p
  · rw [if_pos h]; exact h1
  · rw [if_neg h]; exact h2
theorem Gd.zero {α : Type} : Gd (PR.err 0 0 : PR α) := show (0 : Int) ≤ 0 ∧ (0 : Int) ≤ 16385 by decide
theorem ln_tail {r : List Tok} (h : Ln r) : Ln r.tail := fun t ht => h t (List.mem_of_mem_tail ht)
section
variable {last : Int} (hl : 0 ≤ last ∧ last ≤ 16385)
include hl
theorem gd_line (r : List Tok) (h : Ln r) : 0 ≤ lineOf last r ∧ lineOf last r ≤ 16385 := by
  cases r with
  | nil => exact hl
  | cons t r => exact h t (by simp)
theorem gd_mark (m : List UInt8) (r : List Tok) (h : Ln r) : Gd (pMark last m r) := Gd.ite (ln_tail h) (gd_line hl r h)
theorem gd_name (r : List Tok) (h : Ln r) : Gd (pName last r) := by
  cases r with
  | nil => exact hl
  | cons t r => exact Gd.ite (ln_tail h) (h t (by simp))
theorem gd_val (r : List Tok) (h : Ln r) : Gd (pVal last r) := by
  cases r with
  | nil => exact hl
  | cons t r => exact Gd.ite (ln_tail h) (Gd.ite (ln_tail h) (h t (by simp)))
theorem gd_attr (r : List Tok) (h : Ln r) : Gd (pAttr last r) :=
  Gd.bind (gd_name hl r h) fun _ r h => Gd.bind (gd_mark hl _ r h) fun _ r h => Gd.bind (gd_val hl r h) fun _ _ h => h
theorem gd_attrs : ∀ (f : Nat) (out : List Two) (r : List Tok), Ln r → Gd (pAttrs last f out r)
  | 0, _, _, _ => Gd.zero
  | f + 1, out, r, h => by
    rw [pAttrs]
    exact Gd.ite (ln_tail h) (Gd.bind (Gd.ite h (gd_mark hl _ r h)) fun _ r h => Gd.bind (gd_attr hl r h) fun q r h => gd_attrs f _ r h)
theorem gd_attrsB (r : List Tok) (h : Ln r) : Gd (pAttrsB last r) := Gd.bind (gd_mark hl _ r h) fun _ r h => gd_attrs hl _ _ r h
theorem gd_opt (r : List Tok) (h : Ln r) : Gd (pOpt last r) := Gd.bind (Gd.ite (gd_attrsB hl r h) h) fun _ r h => Gd.bind (gd_mark hl _ r h) fun _ _ h => h
theorem gd_port (n : ByteArray) (r : List Tok) (h : Ln r) : Gd (pPort last n r) := Gd.ite (Gd.bind (gd_name hl r.tail (ln_tail h)) fun _ _ h => h) h
theorem gd_ref (r : List Tok) (h : Ln r) : Gd (pRef last r) := Gd.bind (gd_name hl r h) fun n r h => gd_port hl n r h
theorem gd_refs (ar : List UInt8) : ∀ (f : Nat) (out : List Two) (r : List Tok), Ln r → Gd (pRefs last ar f out r)
  | 0, _, _, _ => Gd.zero
  | f + 1, out, r, h => by
    rw [pRefs]
    exact Gd.ite (Gd.bind (gd_mark hl _ r h) fun _ r h => Gd.bind (gd_ref hl r h) fun q r h => gd_refs ar f _ r h) h
theorem gd_chain (ar : List UInt8) (r : List Tok) (h : Ln r) : Gd (pChain last ar r) :=
  Gd.bind (gd_name hl r h) fun n r h => Gd.ite (Gd.bind (gd_opt hl r h) fun _ _ h => h) (Gd.bind (gd_port hl n r h) fun q r h => Gd.bind (gd_refs hl ar _ _ r h) fun _ r h => Gd.bind (gd_opt hl r h) fun _ _ h => h)
theorem gd_set (r : List Tok) (h : Ln r) : Gd (pSet last r) :=
  Gd.bind (gd_name hl r h) fun _ r h => Gd.bind (gd_mark hl _ r h) fun _ r h => Gd.bind (gd_val hl r h) fun _ r h => Gd.bind (gd_mark hl _ r h) fun _ _ h => h
theorem gd_def (x : List UInt8) (r : List Tok) (h : Ln r) : Gd (pDef last x r) := Gd.bind (gd_attrsB hl r h) fun _ r h => Gd.bind (gd_mark hl _ r h) fun _ _ h => h
theorem gd_all (ar : List UInt8) : ∀ f : Nat, (∀ dep r, Ln r → Gd (pStm last ar f dep r)) ∧ (∀ dep r, Ln r → Gd (pBlock last ar f dep r)) ∧ ∀ dep out r, Ln r → Gd (pStms last ar f dep out r)
  | 0 => by
    refine ⟨fun _ _ _ => ?_, fun _ _ _ => ?_, fun _ _ _ _ => ?_⟩
    · rw [pStm]; exact Gd.zero
    · rw [pBlock]; exact Gd.zero
    · rw [pStms]; exact Gd.zero
  | f + 1 => by
    obtain ⟨h1, h2, h3⟩ := gd_all ar f
    refine ⟨fun dep r h => ?_, fun dep r h => ?_, fun dep out r h => ?_⟩
    · rw [pStm]
      exact Gd.ite (gd_def hl _ _ (ln_tail h)) (Gd.ite (gd_set hl _ (ln_tail h)) (Gd.ite (Gd.bind (gd_name hl _ (ln_tail h)) fun n r h => Gd.bind (h2 _ r h) fun _ _ h => h) (gd_chain hl ar r h)))
    · rw [pBlock]
      exact Gd.ite (gd_line hl r h) (Gd.bind (gd_mark hl _ r h) fun _ r h => h3 dep [] r h)
    · rw [pStms]
      exact Gd.ite (ln_tail h) (Gd.bind (h1 dep r h) fun s r h => h3 dep _ r h)
theorem gd_tree (f : Nat) (r : List Tok) (h : Ln r) : Gd (pTree last f r) :=
  Gd.ite (Gd.bind (gd_name hl _ (ln_tail h)) fun n r h => Gd.bind ((gd_all hl _ f).2.1 0 r h) fun _ _ h => h) (Gd.ite (Gd.bind (gd_name hl _ (ln_tail h)) fun n r h => Gd.bind ((gd_all hl _ f).2.1 0 r h) fun _ _ h => h) (gd_line hl r h))
end
theorem last_ok {T : List Tok} (h : Ln T) : 0 ≤ lastL T ∧ lastL T ≤ 16385 := by
  unfold lastL
  cases hq : T.getLast? with
  | none => exact ⟨by decide, by decide⟩
  | some t => exact h t (List.mem_of_getLast? hq)
theorem src_line {s : List UInt8} {ln er : Int} (h : pSrc s = .err ln er) : 0 ≤ ln ∧ ln ≤ 16385 := by
  obtain ⟨h1, h2, h3⟩ := tokenize_lines s
  have hr : Gd (runT readT s) := by
    unfold runT
    refine Gd.ite ⟨h2, h3⟩ (Gd.bind (gd_tree (last_ok h1) _ _ h1) fun v r h => Gd.ite (show Ln [] from fun t ht => by cases ht) (gd_line (last_ok h1) r h))
  unfold pSrc at h
  cases hq : runT readT s with
  | ok t r =>
    rw [hq, PR.bind_ok] at h
    by_cases h0 : validE t.2.1 t.2.2 = 0
    · rw [if_pos h0] at h; cases h
    · rw [if_neg h0] at h; injection h with h _; rw [← h]; exact ⟨by decide, by decide⟩
  | err l e =>
    rw [hq, PR.bind_err] at h
    rw [hq] at hr
    injection h with h _; rw [← h]; exact hr
theorem last_shift (k : Int) {T : List Tok} (h : T ≠ []) : lastL (T.map (shiftT k)) = lastL T + k := by
  unfold lastL
  rw [List.getLast?_map]
  cases hq : T.getLast? with
  | none => exact absurd (List.getLast?_eq_none_iff.1 hq) h
  | some t => rfl
/-- The answer to a source, and to the source with a comment and blanks around it. -/
def Wrp (x y : PR (Bool × ByteArray × List Stm)) : Prop := match x with
  | .ok t _ => y = .ok t []
  | .err n e => ∃ k, y = .err k e ∧ (k = 0 ∨ k = n + 1 ∨ (k = 1 ∧ n = 1))
theorem run_wrap (s : List UInt8) (hs : s.length ≤ 3000) : Wrp (runT readT s) (runT readT ([35, 32, 123, 10] ++ (s ++ 10 :: suf))) := by
  have hw := tokenize_wrap s hs
  unfold runT
  rw [hw]
  generalize tokenize s = R
  obtain ⟨T, ln, er⟩ := R
  unfold shiftR
  dsimp only
  by_cases h0 : er = 0
  · subst h0
    rw [if_neg (by simp), if_neg (by simp)]
    by_cases hT : T = []
    · subst hT
      have e1 : readT [] = .err 1 4 := rfl
      rw [List.map_nil, e1, PR.bind_err]
      exact ⟨1, rfl, .inr (.inr ⟨rfl, rfl⟩)⟩
    · have e1 : readT (T.map (shiftT 1)) = shiftP 1 (readT T) := by
        unfold readT
        rw [last_shift 1 hT, List.length_map, sh_tree]
      have hz : NZ (readT T) := nz_tree _ _ _ (Nat.le_refl _)
      rw [e1, last_shift 1 hT]
      cases hq : readT T with
      | ok t r =>
        rw [show shiftP 1 (PR.ok t r) = .ok t (r.map (shiftT 1)) from rfl, PR.bind_ok, PR.bind_ok]
        by_cases hr : r = []
        · subst hr; rfl
        · rw [if_neg (by simpa using hr), if_neg (by simpa using hr), sh_line]
          exact ⟨_, rfl, .inr (.inl rfl)⟩
      | err l e =>
        have he := hz l e hq
        rw [← sh_err 1 l e he, PR.bind_err, PR.bind_err]
        exact ⟨_, rfl, .inr (.inl rfl)⟩
  · rw [if_pos h0, if_pos h0, if_neg h0]
    exact ⟨_, rfl, .inr (.inl rfl)⟩
theorem src_wrap (s : List UInt8) (hs : s.length ≤ 3000) : Wrp (pSrc s) (pSrc ([35, 32, 123, 10] ++ (s ++ 10 :: suf))) := by
  have hrun := run_wrap s hs
  unfold pSrc
  cases hq : runT readT s with
  | ok t r =>
    rw [hq] at hrun
    have hrun : runT readT ([35, 32, 123, 10] ++ (s ++ 10 :: suf)) = .ok t [] := hrun
    rw [hrun, PR.bind_ok, PR.bind_ok]
    by_cases h0 : validE t.2.1 t.2.2 = 0
    · rw [if_pos h0, if_pos h0]; rfl
    · rw [if_neg h0, if_neg h0]
      exact ⟨0, rfl, .inl rfl⟩
  | err l e =>
    rw [hq] at hrun
    obtain ⟨k, h1, h2⟩ := hrun
    rw [h1, PR.bind_err, PR.bind_err]
    exact ⟨k, rfl, h2⟩
theorem src_valid {s : List UInt8} {t : Bool × ByteArray × List Stm} {r : List Tok} (h : pSrc s = .ok t r) : validE t.2.1 t.2.2 = 0 ∧ t.2.1.size + sizeL t.2.2 ≤ 1048576 := by
  unfold pSrc at h
  cases hq : runT readT s with
  | ok t' r' =>
    rw [hq, PR.bind_ok] at h
    by_cases h0 : validE t'.2.1 t'.2.2 = 0
    · rw [if_pos h0] at h
      injection h with h _
      rw [← h]
      exact ⟨h0, tree_small hq⟩
    · rw [if_neg h0] at h; cases h
  | err l e => rw [hq, PR.bind_err] at h; cases h
end Go.Proofs.YtmallladeidkpaaGreatDoor.Pa

/- What awake returns. -/
namespace Go.Proofs.YtmallladeidkpaaGreatDoor.Pa
open Go.RowKit Go.Sort Go.Lib Go.Shelf Fx Lx Tr

def s1 : ByteArray := ⟨#[100, 105, 103, 114, 97, 112, 104, 32, 103, 32, 123, 32, 97, 58, 112, 32, 45, 62, 32, 98, 32, 45, 62, 32, 99, 32, 91, 119, 101, 105, 103, 104, 116, 61, 50, 93, 59, 32, 125]⟩
def s2 : ByteArray := ⟨#[103, 114, 97, 112, 104, 32, 103, 32, 123, 32, 97, 32, 45, 62, 32, 98, 59, 32, 125]⟩
def t1 : Bool × ByteArray × List Stm := (true, ⟨#[103]⟩, [.mk 2 ⟨#[]⟩ [(⟨#[97]⟩, ⟨#[112]⟩), (⟨#[98]⟩, ⟨#[]⟩), (⟨#[99]⟩, ⟨#[]⟩)] [(⟨#[119, 101, 105, 103, 104, 116]⟩, ⟨#[50]⟩)] []])
theorem src_one : pSrc s1.data.toList = .ok t1 [] := by kernel_rfl
theorem src_two : pSrc s2.data.toList = .err 1 4 := by kernel_rfl
/-- What awake reads of the first tree. -/
theorem awk_cells {n : Nat} {w1 : World} {b : Option Addr} (h : StmsP (n ≤ ·) w1 b t1.2.2) : ∃ g o h p, b = some ⟨g, o, none⟩ ∧ ∀ w2, Ext w1 w2 → w2.cell? ⟨g, o, none⟩ = some (.int .i64 2) ∧ (∃ rc, w2.cell? ⟨g, o + 2, none⟩ = some (.slice (some ⟨h, p, none⟩) 3 rc)) ∧ w2.cell? ⟨h, p + 1, none⟩ = some (.string ⟨#[112]⟩) := by
  unfold t1 at h
  rw [StmsP] at h
  obtain ⟨g, o, xs, hb, _, hc, hs, _⟩ := h
  rw [StmP] at hs
  obtain ⟨r, rc, a, ac, b', bc, hx, hr, _⟩ := hs
  obtain ⟨h, p, hrp, _, _, d1⟩ := hr 0 (by decide)
  subst hx
  refine ⟨g, o, h, p, hb, fun w2 x => ⟨x.cell (p := ⟨g, o, none⟩) (hc 0 _ rfl), ⟨rc, ?_⟩, x.cell (p := ⟨h, p + 1, none⟩) ?_⟩⟩
  · rw [← hrp]; exact x.cell (p := ⟨g, o + 2, none⟩) (hc 2 _ rfl)
  · simpa using d1
theorem awk_one (w : World) (he : Env w) : Calls Tryz.prog 10 #[.string s1] w fun e w1 =>
    (∃ g o h p c, e = .returned (.tuple #[.agg #[.string ⟨#[103]⟩, .bool true, .slice (some ⟨g, o, none⟩) 1 c], .int .i64 0, .int .i64 0]) ∧ ∀ w2, Ext w1 w2 → w2.cell? ⟨g, o, none⟩ = some (.int .i64 2) ∧ (∃ rc, w2.cell? ⟨g, o + 2, none⟩ = some (.slice (some ⟨h, p, none⟩) 3 rc)) ∧ w2.cell? ⟨h, p + 1, none⟩ = some (.string ⟨#[112]⟩)) ∧ Ext w w1 := by
  have h := parse_any s1 w (by decide) he
  rw [src_one] at h
  refine h.mono ?_
  rintro e w1 ⟨⟨u, rfl, b, c, rfl, hsp, _⟩, x1⟩
  obtain ⟨g, o, h, p, rfl, hcc⟩ := awk_cells hsp
  exact ⟨⟨g, o, h, p, c, rfl, hcc⟩, x1⟩
theorem awk_two (w : World) (he : Env w) : Calls Tryz.prog 10 #[.string s2] w fun e w' => e = .returned (.tuple #[.agg #[.string ⟨#[]⟩, .bool false, .slice none 0 0], .int .i64 1, .int .i64 4]) ∧ Ext w w' := by
  have h := parse_any s2 w (by decide) he
  rw [src_two] at h
  exact h
set_option maxHeartbeats 400000 in
set_option maxRecDepth 100000 in
theorem awake_any (w : World) (he : Env w) : Calls Tryz.prog 8 #[] w fun e w' => e = .returned (.bool true) ∧ Ext w w' := by
  have h1 := awk_one w he
  have h2 := fun w' (x : Ext w w') => awk_two w' (he.ext x)
  unfold s1 at h1
  unfold s2 at h2
  have H1 := Lib.hid h1; have H2 := Lib.hid h2
  clear h1 h2 he
  go_enter Tryz.func8, Tryz.ntmps8
  go_upto_region 3 with (first
    | (go_at_call 10; refine (H2.out _ (X1.out.trans ((Ext.refl _).alloc _))).mono ?_; rintro e w2 ⟨rfl, x2⟩; replace x2 := Lib.hid x2)
    | (go_at_call 10; refine H1.out.mono ?_; rintro e w1 ⟨⟨g, o, h, p, c, rfl, hcc⟩, x1⟩; have HCC := Lib.hid hcc; have X1 := Lib.hid x1; clear x1 hcc))
  have hx2 := x2.out
  obtain ⟨W2, hW2⟩ : ∃ W2, W2 = w2.alloc (.cells #[.string ⟨#[]⟩, .bool false, .slice none 0 0] 24) := ⟨_, rfl⟩
  have hxx : Ext w2 W2 := by rw [hW2]; exact (Ext.refl w2).alloc _
  rw [← hW2]
  obtain ⟨m0, m1, m2⟩ := tree_cells w1 ⟨#[103]⟩ true (some ⟨g, o, none⟩) 1 c W2 (hx2.trans hxx)
  obtain ⟨c0, ⟨rc, c2⟩, d1⟩ := HCC.out W2 ((((Ext.refl w1).alloc _).trans hx2).trans hxx)
  have XW := Lib.hid (((X1.out.trans ((Ext.refl w1).alloc _)).trans hx2).trans hxx)
  clear hx2 hxx hW2 HCC x2 H1 H2
  go_wp2
  go_returns
  exact ⟨rfl, XW.out⟩
end Go.Proofs.YtmallladeidkpaaGreatDoor.Pa

/- The document's SameAttrs, SameStmts and Same return true of equal lists and trees. -/
namespace Go.Proofs.YtmallladeidkpaaGreatDoor.Pa
open Go.RowKit Go.Sort Go.Lib Go.Shelf Fx Lx Tr

set_option maxHeartbeats 4000000 in
theorem sameA_any (a b : Option Addr) (L : List Two) (ca cb : Nat) (w : World) (ha : TwoIn w a L) (hb : TwoIn w b L) (hl : L.length ≤ 9223372036854775806) :
    Calls Tryz.prog 15 #[.slice a L.length ca, .slice b L.length cb] w fun e w' => e = .returned (.bool true) ∧ Ext w w' := by
  obtain ⟨N, hN⟩ : ∃ N, N = L.length := ⟨_, rfl⟩
  rw [← hN] at hl ⊢
  have HA := Lib.hid ha; have HB := Lib.hid hb; have HN := Lib.hid hN
  clear ha hb hN
  go_enter Tryz.func15, Tryz.ntmps15
  go_wp2_with fail
  go_loopw [5] (fun i' wr => ∃ k : Nat, k ≤ N ∧ i' = .int .i64 k ∧ Ext w wr) (fun i' _ => N - (RowKit.intOf i').toNat)
  case atStart => exact ⟨0, by omega, rfl, Ext.refl _⟩
  case round =>
    obtain ⟨k, hk, rfl, hx⟩ := hrel
    by_cases hlt : k < N
    · have hkl : k < L.length := by rw [← HN.out]; exact hlt
      obtain ⟨g, o, rfl, c0, c1⟩ := (HA.out.ext hx) k hkl
      obtain ⟨g2, o2, rfl, d0, d1⟩ := (HB.out.ext hx) k hkl
      generalize L[k] = q at *
      obtain ⟨q1, q2⟩ := q
      dsimp only at c0 c1 d0 d1
      go_wp2_with fail
      go_region
      all_goals
        go_wp2_with fail
        go_roundw
        case rel => exact ⟨k + 1, by omega, by go_num, hx.drew⟩
        case measure => simp [RowKit.intOf]; omega
    · go_wp2_with fail
      go_returns
      exact ⟨rfl, hx⟩
/-- The two statements that are compared, in variables of their own. -/
def PairAt (wr : World) (cs ds : Array Value) (s6 s7 : Value) (wx : World) : Prop :=
  ∃ g h, s6 = .pointer (some ⟨g, 0, none⟩) ∧ s7 = .pointer (some ⟨h, 0, none⟩) ∧ wx.heap[g]? = some (.cells cs 44 (0, 0)) ∧ wx.heap[h]? = some (.cells ds 44 (0, 0)) ∧ Ext wr wx
theorem pair_heap (w : World) (o1 o2 : Obj) : (((w.alloc o1).alloc o2).drew).heap[w.heap.size]? = some o1 ∧ (((w.alloc o1).alloc o2).drew).heap[w.heap.size + 1]? = some o2 := by
  have h2 := heap_alloc_new (w.alloc o1) o2
  rw [World.size_alloc] at h2
  exact ⟨(((Ext.refl (w.alloc o1)).alloc o2).block w.heap.size (by simp)).trans (heap_alloc_new w o1), h2⟩
theorem pair_cells {w : World} {g : Nat} {c0 c1 c2 c3 c4 : Value} (h : w.heap[g]? = some (.cells #[c0, c1, c2, c3, c4] 44 (0, 0))) : ∀ w', Ext w w' →
    w'.cell? ⟨g, 0, none⟩ = some c0 ∧ w'.cell? ⟨g, 1, none⟩ = some c1 ∧ w'.cell? ⟨g, 2, none⟩ = some c2 ∧ w'.cell? ⟨g, 3, none⟩ = some c3 ∧ w'.cell? ⟨g, 4, none⟩ = some c4 := fun w' x => by
  obtain ⟨h0, h1, h2, h3, h4, _⟩ := five_cells ((x.block g (Array.getElem?_eq_some_iff.1 h).1).trans h)
  exact ⟨h0, h1, h2, h3, h4⟩
set_option maxHeartbeats 4000000 in
set_option maxRecDepth 100000 in
theorem sameL_any : ∀ (K : Nat) (L : List Stm) (a b : Option Addr) (ca cb n : Nat) (w : World), sizeL L ≤ K → K ≤ 1048576 → n ≤ w.heap.size → StmsAt n w a L → StmsAt n w b L →
    Calls Tryz.prog 24 #[.slice a L.length ca, .slice b L.length cb] w fun e w' => e = .returned (.bool true) ∧ Ext w w' := by
  intro K
  induction K using Nat.strongRecOn with
  | _ K ih =>
  intro L a b ca cb n w hK hmax hn hL hM
  obtain ⟨N, hN⟩ : ∃ N, N = L.length := ⟨_, rfl⟩
  have hNM : N ≤ 1048576 := by have := sizeL_len L; omega
  rw [← hN]
  have HN := Lib.hid hN; have HL := Lib.hid hL; have HM := Lib.hid hM; have HK := Lib.hid hK; have HMX := Lib.hid hmax; have HNW := Lib.hid hn; have HIH := Lib.hid ih
  clear hN hL hM hK hmax hn ih
  go_enter Tryz.func24, Tryz.ntmps24
  go_wp2_with fail
  go_loopw [5] (fun i' wr => ∃ k : Nat, k ≤ N ∧ i' = .int .i64 k ∧ Ext w wr) (fun i' _ => N - (RowKit.intOf i').toNat)
  case atStart => exact ⟨0, by omega, rfl, Ext.refl _⟩
  case round =>
    obtain ⟨k, hk, rfl, hx⟩ := hrel
    by_cases hlt : k < N
    · have hkl : k < L.length := by rw [← HN.out]; exact hlt
      have hbn : Below n w wr := Below.mono hx HNW.out
      obtain ⟨g, o, rfl, hg, hst⟩ := StmsAt.at L (StmsAt.below hbn L HL.out) k hkl
      obtain ⟨g2, o2, rfl, hg2, hst2⟩ := StmsAt.at L (StmsAt.below hbn L HM.out) k hkl
      have hsz : sizeS L[k] ≤ K := Nat.le_trans (sizeL_at L k hkl) HK.out
      obtain ⟨s, hs⟩ : ∃ s, s = L[k] := ⟨_, rfl⟩
      rw [← hs] at hst hsz hst2
      clear hs
      obtain ⟨kind, nm, rs, al, body⟩ := s
      have hbd := sizeS_body (.mk kind nm rs al body)
      simp only [Stm.body, Stm.name, Stm.refs, Stm.attrs] at hbd
      rw [StmAt] at hst hst2
      obtain ⟨r, rc, a', atc, b', bc, c0, c1, c2, c3, c4, hr, ha, hbs, hl1, hl2, hl3, hl4, hl5⟩ := hst
      obtain ⟨r2, rc2, a2, atc2, b2, bc2, d0, d1, d2, d3, d4, hr2, ha2, hbs2, hm1, hm2, hm3, hm4, hm5⟩ := hst2
      have hwn : n ≤ wr.heap.size := Nat.le_trans HNW.out hx.size
      have hgw : g < wr.heap.size := by omega
      have hgw1 : g < wr.heap.size + 1 := by omega
      have hgx : g2 < wr.heap.size := by omega
      have hgx1 : g2 < wr.heap.size + 1 := by omega
      have hsb := fun w' (x : Ext wr w') => HIH.out (sizeL body) (by omega) body b' b2 bc bc2 n w' (Nat.le_refl _) (by have := HMX.out; omega) (by have h := x.size; omega) (StmsAt.below (Below.mono x hwn) body hbs) (StmsAt.below (Below.mono x hwn) body hbs2)
      have hsa := fun w' (x : Ext wr w') => sameA_any a' a2 al atc atc2 w' (ha.in.ext x) (ha2.in.ext x) (by have := sizeTwo_len al; have := HMX.out; omega)
      have hrr := hr.in
      have hrr2 := hr2.in
      have hRl : rs.length ≤ 1048576 := by have := sizeTwo_len rs; have := HMX.out; omega
      obtain ⟨R, hR⟩ : ∃ R, R = rs.length := ⟨_, rfl⟩
      rw [← hR] at c2 d2 hRl
      have HSB := Lib.hid hsb; have HSA := Lib.hid hsa; have HR1 := Lib.hid hrr; have HR2 := Lib.hid hrr2; have HRL := Lib.hid hR
      clear hbd hsz hr ha hbs hl1 hl2 hl3 hl4 hl5 hr2 ha2 hbs2 hm1 hm2 hm3 hm4 hm5 hg hg2 hbn hwn hsb hsa hrr hrr2 hR
      generalize al.length = A at *
      generalize body.length = B at *
      go_upto_region 6 with fail
      go_cut [6, 7] from 14 to 82 (fun s6 s7 wx => PairAt wr #[.int .i64 kind, .string nm, .slice r R rc, .slice a' A atc, .slice b' B bc] #[.int .i64 kind, .string nm, .slice r2 R rc2, .slice a2 A atc2, .slice b2 B bc2] s6 s7 wx)
      case first =>
        go_region
        · go_wp2_with fail
          go_meet
          case rel =>
            obtain ⟨e1, e2⟩ := pair_heap wr (.cells #[.int .i64 kind, .string nm, .slice r R rc, .slice a' A atc, .slice b' B bc] 44) (.cells #[.int .i64 kind, .string nm, .slice r2 R rc2, .slice a2 A atc2, .slice b2 B bc2] 44)
            exact ⟨_, _, rfl, rfl, e1, e2, (((Ext.refl wr).alloc _).alloc _).drew⟩
        · go_wp2_with fail
          go_meet
          case rel =>
            obtain ⟨e1, e2⟩ := pair_heap wr (.cells #[.int .i64 kind, .string nm, .slice r2 R rc2, .slice a2 A atc2, .slice b2 B bc2] 44) (.cells #[.int .i64 kind, .string nm, .slice r R rc, .slice a' A atc, .slice b' B bc] 44)
            exact ⟨_, _, rfl, rfl, e2, e1, (((Ext.refl wr).alloc _).alloc _).drew⟩
      case rest =>
        obtain ⟨g6, g7, rfl, rfl, k6, k7, x6⟩ := hcut
        have P6 := Lib.hid (pair_cells k6)
        have P7 := Lib.hid (pair_cells k7)
        obtain ⟨p0, p1, p2, p3, p4⟩ := P6.out _ (Ext.refl _)
        obtain ⟨q0, q1, q2, q3, q4⟩ := P7.out _ (Ext.refl _)
        clear k6 k7 c0 c1 c2 c3 c4 d0 d1 d2 d3 d4
        have X6 := Lib.hid x6
        clear x6
        go_wp2_with (first
          | (go_at_call 15; refine (HSA.out _ X6.out).mono ?_; rintro e w1 ⟨rfl, x1⟩; obtain ⟨p0, p1, p2, p3, p4⟩ := P6.out _ x1; obtain ⟨q0, q1, q2, q3, q4⟩ := P7.out _ x1; replace x1 := Lib.hid x1)
          | (go_at_call 24; refine (HSB.out _ (X6.out.trans x1.out)).mono ?_; rintro e w2 ⟨rfl, x2⟩; replace x2 := Lib.hid (x1.out.trans x2); clear p0 p1 p2 p3 p4 q0 q1 q2 q3 q4))
        go_loopw [8] (fun i' ws => ∃ m : Nat, m ≤ R ∧ i' = .int .i64 m ∧ Ext w2 ws) (fun i' _ => R - (RowKit.intOf i').toNat)
        case atStart => exact ⟨0, by omega, rfl, Ext.refl _⟩
        case round =>
          obtain ⟨m, hm, rfl, hy⟩ := hrel
          obtain ⟨p0, p1, p2, p3, p4⟩ := P6.out _ (x2.out.trans hy)
          obtain ⟨q0, q1, q2, q3, q4⟩ := P7.out _ (x2.out.trans hy)
          by_cases hmr : m < R
          · have hml : m < rs.length := by rw [← HRL.out]; exact hmr
            have hxx := (X6.out.trans x2.out).trans hy
            obtain ⟨gr, or, rfl, e0, e1⟩ := (HR1.out.ext hxx) m hml
            obtain ⟨gs, os, rfl, f0, f1⟩ := (HR2.out.ext hxx) m hml
            generalize rs[m] = q at *
            obtain ⟨t1, t2⟩ := q
            dsimp only at e0 e1 f0 f1
            clear hxx
            go_wp2_with fail
            go_region
            all_goals
              go_wp2_with fail
              go_roundw
              case rel => exact ⟨m + 1, by omega, by go_num, hy.drew⟩
              case measure => simp [RowKit.intOf]; omega
          · go_wp2_with fail
            go_roundw
            case rel => exact ⟨k + 1, by omega, by go_num, (hx.trans (X6.out.trans x2.out)).trans hy⟩
            case measure => simp [RowKit.intOf]; omega
    · go_wp2_with fail
      go_returns
      exact ⟨rfl, hx⟩
set_option maxHeartbeats 4000000 in
theorem sameT_any (nm : ByteArray) (d : Bool) (L : List Stm) (a b : Option Addr) (ca cb n : Nat) (w : World) (hs : sizeL L ≤ 1048576) (hn : n ≤ w.heap.size) (hL : StmsAt n w a L) (hM : StmsAt n w b L) :
    Calls Tryz.prog 11 #[.agg #[.string nm, .bool d, .slice a L.length ca], .agg #[.string nm, .bool d, .slice b L.length cb]] w fun e w' => e = .returned (.bool true) ∧ Ext w w' := by
  have hx : Ext w ((w.alloc (.cells #[.string nm, .bool d, .slice a L.length ca] 24)).alloc (.cells #[.string nm, .bool d, .slice b L.length cb] 24)) := ((Ext.refl w).alloc _).alloc _
  have hc := fun w' (x : Ext w w') => sameL_any 1048576 L a b ca cb n w' hs (Nat.le_refl _) (by have h := x.size; omega) (StmsAt.below (Below.mono x hn) L hL) (StmsAt.below (Below.mono x hn) L hM)
  obtain ⟨p0, p1, p2⟩ := tree_cells w nm d a L.length ca _ ((Ext.refl _).alloc (.cells #[.string nm, .bool d, .slice b L.length cb] 24))
  have hq := tree_cells (w.alloc (.cells #[.string nm, .bool d, .slice a L.length ca] 24)) nm d b L.length cb _ (Ext.refl _)
  rw [World.size_alloc] at hq
  obtain ⟨q0, q1, q2⟩ := hq
  generalize L.length = N at *
  have HC := Lib.hid hc; have HX := Lib.hid hx
  clear hc hx hs hn hL hM
  go_enter Tryz.func11, Tryz.ntmps11
  go_wp2_with (go_at_call 24; refine (HC.out _ HX.out).mono ?_; rintro e w3 ⟨rfl, x3⟩)
  go_returns
  exact ⟨rfl, HX.out.trans x3⟩
end Go.Proofs.YtmallladeidkpaaGreatDoor.Pa
