/- Packed texts: TreCheck, LexNext -/
import Derived.Test.YtnjnfkfmkbnkhaaGreatDoorPa14
import Derived.Test.YtnjnfkfmkbnkhaaGreatDoorPa17
import Derived.Test.YtnjnfkfmkbnkhaaGreatDoorPa10
set_option linter.unusedVariables false
set_option linter.unusedSimpArgs false
/- What the tree's check returns. -/
namespace Go.Proofs.YtnjnfkfmkbnkhaaGreatDoor.Tr
open Go.RowKit Go.Sort Go.Lib Go.Shelf Fx Lx

/-- The names' errors of a statement. -/
def headE (p : Stm × Nat) : Int :=
  if formB p.1 = false then 1
  else if p.1.kind = 5 ∧ 6 ≤ p.2 then 2
  else if (p.1.kind = 1 ∨ p.1.kind = 4 ∨ p.1.kind = 5) ∧ nameB p.1.name.data.toList = false then 5
  else 0
theorem stmE_eq (p : Stm × Nat) : stmE p = if headE p ≠ 0 then headE p else if p.1.refs.all refB = false then 5 else attrsE p.1 := by
  unfold stmE headE
  by_cases h1 : formB p.1 = false
  · rw [if_pos h1, if_pos h1, if_pos (by decide)]
  rw [if_neg h1, if_neg h1]
  by_cases h2 : p.1.kind = 5 ∧ 6 ≤ p.2
  · rw [if_pos h2, if_pos h2, if_pos (by decide)]
  rw [if_neg h2, if_neg h2]
  by_cases h3 : (p.1.kind = 1 ∨ p.1.kind = 4 ∨ p.1.kind = 5) ∧ nameB p.1.name.data.toList = false
  · rw [if_pos h3, if_pos h3, if_pos (by decide)]
  rw [if_neg h3, if_neg h3, if_neg (show ¬ ((0 : Int) ≠ 0) by decide)]
theorem ref_cells (w : World) (k v : ByteArray) : ∀ w1, Ext (w.alloc (.cells #[.string k, .string v] 51)) w1 →
    w1.cell? ⟨w.heap.size, 0, none⟩ = some (.string k) ∧ w1.cell? ⟨w.heap.size, 1, none⟩ = some (.string v) := fun w1 x => by
  have hb := heap_alloc_new w (.cells #[.string k, .string v] 51)
  refine ⟨x.cell ?_, x.cell ?_⟩ <;> rw [Lib.cell_of_heap hb] <;> rfl
theorem nsize0 {n : ByteArray} : (n.toList != []) = !decide (n.size = 0) := by
  rw [bne, size0]
theorem headE_mk (k : Int) (nm : ByteArray) (rs al : List Two) (body : List Stm) (lev : Nat) : headE (.mk k nm rs al body, lev) =
    if formB (.mk k nm rs al body) = false then 1
    else if k = 5 ∧ 6 ≤ lev then 2
    else if (k = 1 ∨ k = 4 ∨ k = 5) ∧ nameB nm.data.toList = false then 5
    else 0 := rfl
/-- What check asks its callees. -/
structure ChkIn (kind : Int) (nm : ByteArray) (rs al : List Two) (body : List Stm) (r a b : Option Addr) (rc ac bc : Nat) (w : World) : Prop where
  hr : TwoIn w r rs
  ha : TwoIn w a al
  hac : al.length ≤ ac
  hrl : rs.length ≤ maxLen
  hn : nm.size ≤ 9223372036854775807
  hs : ∀ q ∈ al, q.1.size ≤ 9223372036854775807 ∧ q.2.size ≤ 9223372036854775807
  ht : ∀ q ∈ rs, q.1.size ≤ 9223372036854775807 ∧ q.2.size ≤ 9223372036854775807
def ovalV (k : Int) : Ending := .returned (.int .i64 k)
set_option maxHeartbeats 4000000 in
set_option maxRecDepth 100000 in
theorem check_any (kind : Int) (nm : ByteArray) (rs al : List Two) (body : List Stm) (r a b : Option Addr) (rc ac bc lev : Nat) (w : World) (h : ChkIn kind nm rs al body r a b rc ac bc w) :
    Calls Tryz.prog 38 #[.agg #[.int .i64 kind, .string nm, .slice r rs.length rc, .slice a al.length ac, .slice b body.length bc], .int .i64 lev] w fun e w' => e = .returned (.int .i64 (stmE (.mk kind nm rs al body, lev))) ∧ Ext w w' := by
  rw [stmE_eq]
  obtain ⟨hr, ha, hac, hrl, hn, hs, ht⟩ := h
  have hfm := fun w' (x : Ext w w') => form_any kind nm rs al body r a b rc ac bc w' (ha.ext x)
  have hat := fun w' (x : Ext w w') => attrs_any kind nm rs al body r a b rc ac bc w' (ha.ext x) hac hs
  obtain ⟨X, hX⟩ : ∃ X, X = headE (.mk kind nm rs al body, lev) := ⟨_, rfl⟩
  rw [← hX]
  rw [headE_mk] at hX
  rw [show (Stm.mk kind nm rs al body, lev).1.refs = rs from rfl]
  dsimp only
  have hnd := named_any kind
  have hnm := fun w => isName_any nm hn w
  have hx0 : Ext w (w.alloc (.cells #[.int .i64 kind, .string nm, .slice r rs.length rc, .slice a al.length ac, .slice b body.length bc] 47)) := (Ext.refl _).alloc _
  have hcl := stm_cells w kind nm r a b rs.length al.length body.length rc ac bc
  generalize formB (.mk kind nm rs al body) = fb at hfm hX
  generalize attrsE (.mk kind nm rs al body) = ae at hat ⊢
  generalize body.length = B at *
  generalize al.length = A at *
  generalize nameB nm.data.toList = nb at hnm hX
  have HFM := Lib.hid hfm; have HAT := Lib.hid hat; have HND := Lib.hid hnd; have HNM := Lib.hid hnm; have HCL := Lib.hid hcl; have HR := Lib.hid hr; have HT := Lib.hid ht
  obtain ⟨N, hN⟩ : ∃ N, N = rs.length := ⟨_, rfl⟩
  rw [← hN] at HFM HAT HCL hx0 hrl ⊢
  have HN := Lib.hid hN
  have hrl9 : N ≤ 9223372036854775807 := by unfold maxLen at hrl; omega
  clear hfm hat hnd hnm hcl hr ht hs ha hn hac hN hrl
  cases fb
  · rw [if_pos rfl] at hX
    subst hX
    rw [if_pos (by decide)]
    go_enter Tryz.func38, Tryz.ntmps38
    go_wp2_with (go_at_call 65; refine (HFM.out _ hx0).mono ?_; rintro e w1 ⟨rfl, x1⟩)
    go_ret
    exact ⟨rfl, hx0.trans x1⟩
  rw [if_neg (by decide)] at hX
  by_cases h2 : kind = 5 ∧ 6 ≤ lev
  · rw [if_pos h2] at hX
    subst hX
    rw [if_pos (by decide)]
    obtain ⟨rfl, h6⟩ := h2
    have g1 : decide ((6 : Int) ≤ lev) = true := decide_eq_true (by omega)
    go_enter Tryz.func38, Tryz.ntmps38
    go_wp2_with (go_at_call 65; refine (HFM.out _ hx0).mono ?_; rintro e w1 ⟨rfl, x1⟩; have k0 := (HCL.out _ x1).1)
    go_ret
    exact ⟨rfl, hx0.trans x1⟩
  rw [if_neg h2] at hX
  obtain ⟨F, hF⟩ : ∃ F, F = rs.all refB := ⟨_, rfl⟩
  rw [← hF]
  have HF : Hid (F = (rs.drop 0).all refB) := Lib.hid hF
  clear hF
  have arms : ((kind == 5) = true ∧ decide ((6 : Int) ≤ lev) = false ∧ decide (kind = 1 ∨ kind = 4 ∨ kind = 5) = true) ∨ ((kind == 5) = false ∧ decide ((6 : Int) ≤ lev) = decide ((6 : Int) ≤ lev) ∧ decide (kind = 1 ∨ kind = 4 ∨ kind = 5) = decide (kind = 1 ∨ kind = 4 ∨ kind = 5)) := by
    by_cases h5 : kind = 5
    · exact .inl ⟨by rw [h5]; rfl, decide_eq_false (fun h => h2 ⟨h5, by omega⟩), decide_eq_true (.inr (.inr h5))⟩
    · exact .inr ⟨(ne_facts h5).1, rfl, rfl⟩
  have hX' : X = if decide (kind = 1 ∨ kind = 4 ∨ kind = 5) = true ∧ nb = false then 5 else 0 := by
    rw [hX]; simp only [decide_eq_true_eq]
  clear hX h2
  generalize decide (kind = 1 ∨ kind = 4 ∨ kind = 5) = tn at arms HND hX'
  have three : ((kind == 5) = true ∧ decide ((6 : Int) ≤ lev) = false ∧ tn = true) ∨ ((kind == 5) = false ∧ tn = true) ∨ ((kind == 5) = false ∧ tn = false) := by
    rcases arms with h | ⟨h, _⟩
    · exact .inl h
    · cases tn
      · exact .inr (.inr ⟨h, rfl⟩)
      · exact .inr (.inl ⟨h, rfl⟩)
  clear arms
  have HX := Lib.hid hX'
  clear hX'
  by_cases hq : tn = true ∧ nb = false
  · have hX0 : X = 5 := by rw [HX.out, if_pos hq]
    subst hX0
    obtain ⟨rfl, rfl⟩ := hq
    rw [if_pos (by decide)]
    rcases three with ⟨f5, g6, -⟩ | ⟨f5, -⟩ | ⟨-, h⟩
    case inr.inr => exact absurd h (by decide)
    all_goals
      go_enter Tryz.func38, Tryz.ntmps38
      go_wp2_with (first | (go_at_call 65; refine (HFM.out _ hx0).mono ?_; rintro e w1 ⟨rfl, x1⟩; obtain ⟨k0, k1, k2, k3, k4⟩ := HCL.out _ x1) | (go_at_call 66; refine (HND.out _).mono ?_; rintro e w3 ⟨rfl, rfl⟩) | (go_at_call 34; refine (HNM.out _).mono ?_; rintro e w3 ⟨rfl, rfl⟩))
      go_ret
      exact ⟨rfl, hx0.trans x1⟩
  have hX0 : X = 0 := by rw [HX.out, if_neg hq]
  subst hX0
  rw [if_neg (by decide)]
  clear HX
  have four : ((kind == 5) = true ∧ decide ((6 : Int) ≤ lev) = false ∧ tn = true ∧ nb = true) ∨ ((kind == 5) = false ∧ tn = true ∧ nb = true) ∨ ((kind == 5) = false ∧ tn = false ∧ nb = nb) := by
    cases tn
    · rcases three with ⟨_, _, h⟩ | ⟨_, h⟩ | ⟨h, _⟩
      · exact absurd h (by decide)
      · exact absurd h (by decide)
      · exact .inr (.inr ⟨h, rfl, rfl⟩)
    · cases nb
      · exact absurd ⟨rfl, rfl⟩ hq
      · rcases three with ⟨h, g, _⟩ | ⟨h, _⟩ | ⟨_, h⟩
        · exact .inl ⟨h, g, rfl, rfl⟩
        · exact .inr (.inl ⟨h, rfl, rfl⟩)
        · exact absurd h (by decide)
  clear three hq
  obtain ⟨V, hV⟩ : ∃ V, V = if F = false then 5 else ae := ⟨_, rfl⟩
  rw [← hV]
  have HVV := Lib.hid hV
  clear hV
  rcases four with ⟨f5, g6, rfl, rfl⟩ | ⟨f5, rfl, rfl⟩ | ⟨f5, rfl, -⟩
  all_goals
    go_enter Tryz.func38, Tryz.ntmps38
    go_wp2_with (first | (go_at_call 65; refine (HFM.out _ hx0).mono ?_; rintro e w1 ⟨rfl, x1⟩; obtain ⟨k0, k1, k2, k3, k4⟩ := HCL.out _ x1) | (go_at_call 66; refine (HND.out _).mono ?_; rintro e w3 ⟨rfl, rfl⟩) | (go_at_call 34; refine (HNM.out _).mono ?_; rintro e w3 ⟨rfl, rfl⟩))
    go_loopw [32] (fun i' wr => ∃ k : Nat, k ≤ N ∧ i' = .int .i64 k ∧ Ext (w.alloc (.cells #[.int .i64 kind, .string nm, .slice r N rc, .slice a A ac, .slice b B bc] 47)) wr ∧ Hid (F = (rs.drop k).all refB)) (fun i' _ => N - (RowKit.intOf i').toNat)
    case atStart => exact ⟨0, by omega, rfl, x1, HF⟩
    case round =>
      obtain ⟨k, hk, rfl, hx, hb⟩ := hrel
      clear HF x1
      by_cases hlt : k < N
      · have hkl : k < rs.length := by rw [← HN.out]; exact hlt
        obtain ⟨g, o, rfl, c0, c1⟩ := (HR.out.ext (hx0.trans hx)) k hkl
        obtain ⟨n, d, hq⟩ : ∃ n d, rs[k] = (n, d) := ⟨_, _, rfl⟩
        rw [hq] at c0 c1
        have hst := hb.out
        rw [List.drop_eq_getElem_cons hkl, List.all_cons, hq] at hst
        have hds := HT.out _ (List.getElem_mem hkl)
        rw [hq] at hds
        have hx1 := hx.alloc (.cells #[.string n, .string d] 51)
        have hz := @size0 d
        unfold refB at hst
        dsimp only at hst
        generalize decide (d.size = 0) = z at hst hz
        have HDS := Lib.hid hds
        clear hq hb hds hkl
        cases hp : nameB n.data.toList
        · have hf : Hid (F = false) := Lib.hid (by rw [hst, hp]; rfl)
          clear hst hz
          go_wp2_with (go_at_call 34; refine (isName_any _ (by first | exact HDS.out.1 | exact HDS.out.2) _).mono ?_; rintro e w3 ⟨rfl, rfl⟩)
          go_returns
          exact ⟨ret_int (by rw [HVV.out, hf.out]; rfl), hx0.trans hx1⟩
        · cases z
          · cases hq2 : nameB d.data.toList
            · have hf : Hid (F = false) := Lib.hid (by rw [hst, hp, hq2]; rfl)
              clear hst
              go_wp2_with (go_at_call 34; refine (isName_any _ (by first | exact HDS.out.1 | exact HDS.out.2) _).mono ?_; rintro e w3 ⟨rfl, rfl⟩)
              go_returns
              exact ⟨ret_int (by rw [HVV.out, hf.out]; rfl), hx0.trans hx1⟩
            · have hf : Hid (F = (rs.drop (k + 1)).all refB) := Lib.hid (by rw [hst, hp, hq2]; rfl)
              clear hst
              go_wp2_with (go_at_call 34; refine (isName_any _ (by first | exact HDS.out.1 | exact HDS.out.2) _).mono ?_; rintro e w3 ⟨rfl, rfl⟩)
              go_roundw
              case rel => exact ⟨k + 1, by omega, by go_num, hx1, hf⟩
              case measure => simp [RowKit.intOf]; omega
          · have hf : Hid (F = (rs.drop (k + 1)).all refB) := Lib.hid (by rw [hst, hp]; rfl)
            clear hst
            go_wp2_with (go_at_call 34; refine (isName_any _ (by first | exact HDS.out.1 | exact HDS.out.2) _).mono ?_; rintro e w3 ⟨rfl, rfl⟩)
            go_roundw
            case rel => exact ⟨k + 1, by omega, by go_num, hx1, hf⟩
            case measure => simp [RowKit.intOf]; omega
      · have hf : Hid (F = true) := Lib.hid (by rw [hb.out, List.drop_eq_nil_of_le (by rw [← HN.out]; omega)]; rfl)
        clear hb
        obtain ⟨k0, k1, k2, k3, k4⟩ := HCL.out _ hx
        go_wp2_with (go_at_call 67; refine (HAT.out _ (hx0.trans hx)).mono ?_; rintro e w3 ⟨rfl, x3⟩)
        go_returns
        exact ⟨ret_int (by rw [HVV.out, hf.out]; rfl), (hx0.trans hx).trans x3⟩
end Go.Proofs.YtnjnfkfmkbnkhaaGreatDoor.Tr

/- What the lexer's next returns: the token at the head of a text, its length, the error. -/
namespace Go.Proofs.YtnjnfkfmkbnkhaaGreatDoor.Lx
open Go.RowKit Go.Sort Go.Lib Go.Shelf Fx

theorem cells4 {w : World} {B : Nat} {a b c d : Value} {T : TypeId} (h : w.heap[B]? = some (.cells #[a, b, c, d] T (0, 0))) :
    (w.cell? ⟨B, 0, none⟩ = some a ∧ w.cell? ⟨B, 1, none⟩ = some b ∧ w.cell? ⟨B, 2, none⟩ = some c ∧ w.cell? ⟨B, 3, none⟩ = some d) ∧
    (w.frozen? ⟨B, 0, none⟩ = false ∧ w.frozen? ⟨B, 1, none⟩ = false ∧ w.frozen? ⟨B, 2, none⟩ = false ∧ w.frozen? ⟨B, 3, none⟩ = false) :=
  ⟨⟨by rw [Lib.cell_of_heap h]; rfl, by rw [Lib.cell_of_heap h]; rfl, by rw [Lib.cell_of_heap h]; rfl, by rw [Lib.cell_of_heap h]; rfl⟩,
   Lib.frozen_of_heap h 0, Lib.frozen_of_heap h 1, Lib.frozen_of_heap h 2, Lib.frozen_of_heap h 3⟩
theorem set1 {w : World} {B : Nat} {cs : Array Value} {T : TypeId} (h : w.heap[B]? = some (.cells cs T (0, 0))) (i : Nat) (v : Value) :
    (w.setCell ⟨B, i, none⟩ v).heap[B]? = some (.cells (cs.setIfInBounds i v) T (0, 0)) := by
  unfold World.setCell
  simp [Array.getElem?_modify, h]
theorem set4 {w : World} {B : Nat} {a b c d : Value} {T : TypeId} (h : w.heap[B]? = some (.cells #[a, b, c, d] T (0, 0))) (a' b' c' d' : Value) :
    ((((w.setCell ⟨B, 0, none⟩ a').setCell ⟨B, 1, none⟩ b').setCell ⟨B, 2, none⟩ c').setCell ⟨B, 3, none⟩ d').heap[B]? = some (.cells #[a', b', c', d'] T (0, 0)) :=
  set1 (set1 (set1 (set1 h 0 a') 1 b') 2 c') 3 d'
theorem set4r {w : World} {B : Nat} {a b c d : Value} {T : TypeId} (h : w.heap[B]? = some (.cells #[a, b, c, d] T (0, 0))) (a' b' c' d' : Value) :
    (w.setCell ⟨B, 0, none⟩ a').cell? ⟨B, 0, none⟩ = some a' ∧ ((w.setCell ⟨B, 0, none⟩ a').setCell ⟨B, 1, none⟩ b').cell? ⟨B, 1, none⟩ = some b' ∧
    (((w.setCell ⟨B, 0, none⟩ a').setCell ⟨B, 1, none⟩ b').setCell ⟨B, 2, none⟩ c').cell? ⟨B, 2, none⟩ = some c' ∧
    ((((w.setCell ⟨B, 0, none⟩ a').setCell ⟨B, 1, none⟩ b').setCell ⟨B, 2, none⟩ c').setCell ⟨B, 3, none⟩ d').cell? ⟨B, 3, none⟩ = some d' :=
  ⟨by rw [Lib.cell_of_heap (set1 h 0 a')]; rfl, by rw [Lib.cell_of_heap (set1 (set1 h 0 a') 1 b')]; rfl,
   by rw [Lib.cell_of_heap (set1 (set1 (set1 h 0 a') 1 b') 2 c')]; rfl, by rw [Lib.cell_of_heap (set1 (set1 (set1 (set1 h 0 a') 1 b') 2 c') 3 d')]; rfl⟩
theorem kept_alloc {w w1 : World} {o : Obj} (x : Ext (w.alloc o) w1) : w1.heap[w.heap.size]? = some o := by
  have := x.block w.heap.size (by simp)
  rw [this]; exact heap_alloc_new w o

theorem ext_set4 {a w : World} {B : Nat} (h : Ext a w) (hb : a.heap.size ≤ B) (v0 v1 v2 v3 : Value) :
    Ext a ((((w.setCell ⟨B, 0, none⟩ v0).setCell ⟨B, 1, none⟩ v1).setCell ⟨B, 2, none⟩ v2).setCell ⟨B, 3, none⟩ v3) :=
  (((h.setCell (p := ⟨B, 0, none⟩) hb v0).setCell (p := ⟨B, 1, none⟩) hb v1).setCell (p := ⟨B, 2, none⟩) hb v2).setCell (p := ⟨B, 3, none⟩) hb v3

def tokV (t : Tok) : Value := .agg #[.int .i64 t.kind, .string ⟨t.text.toArray⟩, .int .i64 t.n, .int .i64 t.line]
def nextV (x : Tok × Nat × Int) : Value := .tuple #[tokV x.1, .int .i64 x.2.1, .int .i64 x.2.2]

set_option maxHeartbeats 4000000 in
theorem next_word (s : ByteArray) (w : World) (h0 : 0 < s.size) (hs : s.size ≤ 16384) (hn : 0 < wordN s.data.toList) :
    Calls Tryz.prog 32 #[.string s] w fun e w' => e = .returned (nextV (next s.data.toList)) ∧ Ext w w' := by
  obtain ⟨n, hN⟩ : ∃ n, n = wordN s.data.toList := ⟨_, rfl⟩
  have hle : n ≤ s.size := by rw [hN, size_len]; have := scan_le (okW s.data.toList) s.data.toList.length 0; unfold wordN; omega
  have hx : next s.data.toList = if kw (s.extract 0 n).data.toList then (⟨2, s.data.toList.take n, 0, 0⟩, n, 0) else if 16 < n then (⟨0, [], 0, 0⟩, 0, 2) else (⟨1, s.data.toList.take n, 0, 0⟩, n, 0) := by
    unfold next; rw [if_pos hn, ← hN, extract_upto]
  have hw := word_any s (by omega)
  rw [← hN] at hw hn
  have HW := Lib.hid hw; have HX := Lib.hid hx
  clear hw hx hN
  generalize next s.data.toList = NX at HX ⊢
  cases hk : kw (s.extract 0 n).data.toList
  · have HK := Lib.hid hk
    by_cases h16 : 16 < n
    · have hf : Hid (NX = (⟨0, [], 0, 0⟩, 0, 2)) := Lib.hid (by rw [HX.out, hk, if_pos h16]; rfl)
      clear HX hk
      go_enter Tryz.func32, Tryz.ntmps32
      go_wp2_with fail
      refine (HW.out _).mono ?_
      rintro e w1 ⟨rfl, rfl⟩
      go_wp2_with fail
      refine (isKeyword_any (s.extract 0 n) _).mono ?_
      rintro e w1 ⟨rfl, rfl⟩
      rw [HK.out]
      go_wp2
      go_returns
      exact ⟨ret_val (by rw [hf.out]; rfl), (Ext.refl _).alloc _⟩
    · have hf : Hid (NX = (⟨1, (s.extract 0 n).data.toList, 0, 0⟩, n, 0)) := Lib.hid (by rw [HX.out, hk, if_neg h16, extract_upto]; rfl)
      clear HX hk
      go_enter Tryz.func32, Tryz.ntmps32
      go_wp2_with fail
      refine (HW.out _).mono ?_
      rintro e w1 ⟨rfl, rfl⟩
      go_wp2_with fail
      refine (isKeyword_any (s.extract 0 n) _).mono ?_
      rintro e w1 ⟨rfl, rfl⟩
      rw [HK.out]
      go_wp2
      go_returns
      refine ⟨ret_val (by rw [hf.out]; rfl), ?_⟩
      exact (Ext.refl _).alloc _
  · have HK := Lib.hid hk
    have hf : Hid (NX = (⟨2, (s.extract 0 n).data.toList, 0, 0⟩, n, 0)) := Lib.hid (by rw [HX.out, hk, extract_upto]; rfl)
    clear HX hk
    go_enter Tryz.func32, Tryz.ntmps32
    go_wp2_with fail
    refine (HW.out _).mono ?_
    rintro e w1 ⟨rfl, rfl⟩
    go_wp2_with fail
    refine (isKeyword_any (s.extract 0 n) _).mono ?_
    rintro e w1 ⟨rfl, rfl⟩
    rw [HK.out]
    go_wp2
    go_returns
    refine ⟨ret_val (by rw [hf.out]; rfl), ?_⟩
    exact (Ext.refl _).alloc _
end Go.Proofs.YtnjnfkfmkbnkhaaGreatDoor.Lx
