/- Packed texts: LexTokW, TreTln, ParRun, ParDef -/
import Derived.Test.YtjaeedbjknejdaaGreatDoorPr45
set_option linter.unusedVariables false
set_option linter.unusedSimpArgs false
set_option maxHeartbeats 16000000
set_option maxRecDepth 100000
namespace Go.Proofs.YtjaeedbjknejdaaGreatDoor.Lx
open Go.RowKit Go.Sort Go.Lib Go.Shelf Fx
def strSize : Value -> Nat
  | .string s => s.size
  | _ => 0
theorem skip_lt (s : ByteArray) (h0 : 0 < s.size) (h : s[0].toNat ≠ 10) : (skip s.data.toList).1.length + (if (skip s.data.toList).2 then 1 else 0) <= s.size - 1 := by
  have hd := drop_at s 0 h0
  rw [List.drop_zero] at hd
  have hl := size_len s
  rw [hd] at hl ⊢
  unfold skip
  rw [if_neg (fun e => h (by rw [e]; rfl))]
  have := skip_len (s.data.toList.drop (0 + 1))
  simp only [List.length_cons] at hl
  omega
theorem cell_new2 (w : World) (A C : Obj) (l : List Value) (T : TypeId) (hC : C = .cells l.toArray T) (j : Nat) (u : Value) (h : l[j]? = some u) :
    ((w.alloc A).alloc C).cell? ((⟨w.heap.size + 1, 0, none⟩ : Addr).add j) = some u := by
  have hb := heap_alloc_new (w.alloc A) C
  rw [World.size_alloc, hC] at hb
  have e : (⟨w.heap.size + 1, 0, none⟩ : Addr).add j = ⟨w.heap.size + 1, j, none⟩ := by simp [Addr.add]; exact fun h => h.symm
  rw [e, hC, Lib.cell_of_heap hb]
  simpa using h
def TokRes (B : Nat) (R : List Tok × Int × Int) (e : Ending) (w : World) : Prop :=
  ∃ v, e = .returned (.tuple #[v, .int .i64 R.2.1, .int .i64 R.2.2]) /\ w.ownsRow B 220 4 v R.1.length (toksC R.1)
theorem tokenize_any (s0 : ByteArray) (w : World) (hs0 : s0.size <= 9223372036854775807) (he : Env w) :
    Calls Tryz.prog 97 #[.string s0] w fun e w' => TokRes w.heap.size (tokenize s0.data.toList) e w' /\ Ext w w' := by
  have HE := Lib.hid he
  clear he
  by_cases hbig : 16384 < s0.size
  · have hr : tokenize s0.data.toList = ([], 0, 2) := by unfold tokenize; rw [if_pos (by rw [<- size_len]; exact hbig)]
    rw [hr]
    go_enter Tryz.func97, Tryz.ntmps97
    go_wp2
    go_returns
    exact ⟨⟨_, rfl, World.ownsRow_nil _ _ _ _⟩, Ext.refl _⟩
  have hr : tokenize s0.data.toList = tokz s0.size 1 [] s0.data.toList := by unfold tokenize; rw [if_neg (by rw [<- size_len]; exact hbig), <- size_len]
  obtain ⟨R, hR⟩ : ∃ R, R = tokenize s0.data.toList := ⟨_, rfl⟩
  rw [<- hR] at hr ⊢
  have HR := Lib.hid hr
  clear hr hR
  obtain ⟨i0, hi, hz0, hz1, hz2⟩ := info_parts info_tok
  go_enter Tryz.func97, Tryz.ntmps97
  go_wp2_with fail
  go_loopw [0, 5, 6] (fun src out line wr => ∃ (s : ByteArray) (f ln : Nat) (L : List Tok), src = .string s /\ line = .int .i64 ln /\ wr.ownsRow w.heap.size 220 4 out L.length (toksC L) /\ Ext w wr /\ Hid (R = tokz f ln L s.data.toList) /\ s.size <= f /\ L.length + s.size <= 16384 /\ ln + s.size <= 16385)
    (fun src _ _ _ => strSize src)
  case atStart => exact ⟨s0, s0.size, 1, [], rfl, rfl, World.ownsRow_nil _ _ _ _, Ext.refl _, HR, by omega, by simp; omega, by omega⟩
  obtain ⟨s, f, ln, L, rfl, rfl, hown, hx, ha, hf, hl, hln⟩ := hrel
  clear HR
  have hxs := hx.size
  by_cases hp : 0 < s.size
  · obtain ⟨f, rfl⟩ : ∃ f', f = f' + 1 := ⟨f - 1, by omega⟩
    have hst := ha.out
    have hsd := drop_at s 0 hp
    rw [List.drop_zero] at hsd
    rw [hsd] at hst
    have hw := tokz_ways f ln L s[0] _ R hst
    rw [<- hsd] at hw
    have e1 : (s.extract 1 s.size).data.toList = s.data.toList.drop 1 := by rw [extract_from]
    have e1s : (s.extract 1 s.size).size = s.size - 1 := by simp
    rw [<- e1] at hw
    clear hst ha hsd e1
    rcases hw with ⟨c1, hf'⟩ | ⟨c1, hf'⟩ | ⟨c1, hf'⟩ | ⟨c1, hf'⟩ | ⟨c1, c2, c3, c4, h5, hf'⟩ | ⟨c1, c2, c3, c4, h5, hf'⟩
    · obtain ⟨f1, _⟩ := eq_facts (x := (s[0].toNat : Int)) (k := 10) (by omega)
      go_wp2
      go_roundw
      case rel => exact ⟨s.extract 1 s.size, f, ln + 1, L, rfl, by go_num, hown, hx, hf', by omega, by omega, by omega⟩
      case measure => simp only [strSize]; omega
    · obtain ⟨f1, _⟩ := ne_facts (x := (s[0].toNat : Int)) (k := 10) (by omega)
      obtain ⟨f2, _⟩ := eq_facts (x := (s[0].toNat : Int)) (k := 32) (by omega)
      go_wp2
      go_roundw
      case rel => exact ⟨s.extract 1 s.size, f, ln, L, rfl, rfl, hown, hx, hf', by omega, by omega, by omega⟩
      case measure => simp only [strSize]; omega
    · obtain ⟨f1, _⟩ := ne_facts (x := (s[0].toNat : Int)) (k := 10) (by omega)
      obtain ⟨f2, _⟩ := ne_facts (x := (s[0].toNat : Int)) (k := 32) (by omega)
      obtain ⟨f3, _⟩ := eq_facts (x := (s[0].toNat : Int)) (k := 9) (by omega)
      go_wp2
      go_roundw
      case rel => exact ⟨s.extract 1 s.size, f, ln, L, rfl, rfl, hown, hx, hf', by omega, by omega, by omega⟩
      case measure => simp only [strSize]; omega
    · obtain ⟨f1, _⟩ := ne_facts (x := (s[0].toNat : Int)) (k := 10) (by omega)
      obtain ⟨f2, _⟩ := ne_facts (x := (s[0].toNat : Int)) (k := 32) (by omega)
      obtain ⟨f3, _⟩ := ne_facts (x := (s[0].toNat : Int)) (k := 9) (by omega)
      obtain ⟨f4, _⟩ := eq_facts (x := (s[0].toNat : Int)) (k := 35) (by omega)
      have hsk := skip_lt s hp (by omega)
      obtain ⟨a, hae⟩ : ∃ a : ByteArray, (⟨(skip s.data.toList).1.toArray⟩ : ByteArray) = a := ⟨_, rfl⟩
      obtain ⟨p, hpe⟩ : ∃ p, (skip s.data.toList).2 = p := ⟨_, rfl⟩
      have had : (skip s.data.toList).1 = a.data.toList := by rw [<- hae]
      have has : (skip s.data.toList).1.length = a.size := by rw [had, size_len]
      rw [has, hpe] at hsk
      rw [hpe, had] at hf'
      have HAE := Lib.hid hae; have HPE := Lib.hid hpe
      clear hae hpe had has
      go_wp2_with fail
      refine (cutnl_n s a p _ (by omega) (HE.out.ext hx) HAE.out HPE.out).mono ?_
      rintro e w1 ⟨⟨b, rfl⟩, x1⟩
      cases p
      · have hsk' : a.size <= s.size - 1 := hsk
        clear hsk
        go_wp2
        go_roundw
        case rel => exact ⟨a, f, ln, L, rfl, rfl, own_ext hown x1, hx.trans x1, hf', by omega, by omega, by omega⟩
        case measure => simp only [strSize]; omega
      have hsk' : a.size + 1 <= s.size - 1 := hsk
      clear hsk
      go_wp2
      go_roundw
      case rel => exact ⟨a, f, ln + 1, L, rfl, by go_num, own_ext hown x1, hx.trans x1, hf', by omega, by omega, by omega⟩
      case measure => simp only [strSize]; omega
    · obtain ⟨f1, _⟩ := ne_facts (x := (s[0].toNat : Int)) (k := 10) (by omega)
      obtain ⟨f2, _⟩ := ne_facts (x := (s[0].toNat : Int)) (k := 32) (by omega)
      obtain ⟨f3, _⟩ := ne_facts (x := (s[0].toNat : Int)) (k := 9) (by omega)
      obtain ⟨f4, _⟩ := ne_facts (x := (s[0].toNat : Int)) (k := 35) (by omega)
      obtain ⟨T, n, c, hN⟩ : ∃ T n c, next s.data.toList = (T, n, c) := ⟨_, _, _, rfl⟩
      have hnl := next_len s.data.toList (by rw [<- size_len]; exact hp)
      rw [hN] at hnl h5 hf'
      have h5 : c = 0 := h5
      subst h5
      obtain ⟨n1, n2⟩ : 1 <= n /\ n <= s.size := by rw [size_len]; exact hnl rfl
      have hnx := next_any s wr hp (by omega) (HE.out.ext hx)
      rw [hN] at hnx
      have HNX := Lib.hid hnx
      have e2 : (s.extract n s.size).data.toList = s.data.toList.drop n := by rw [extract_from]
      have e2s : (s.extract n s.size).size = s.size - n := by simp
      have hf2 : Hid (R = tokz f ln (L ++ [(⟨T.kind, T.text, T.n, ln⟩ : Tok)]) (s.extract n s.size).data.toList) := Lib.hid (by rw [e2]; exact hf'.out)
      clear hnl hnx hN e2 hf'
      go_wp2_with fail
      refine HNX.out.mono ?_
      rintro e w1 ⟨rfl, x1⟩
      unfold nextV tokV
      have hx1 := hx.trans x1
      have hxs1 := hx1.size
      have hown1 := own_ext hown x1
      go_wp2_with (at_builtin; refine wpList_append_own _ rfl _ _ 168 rfl w.heap.size 220 i0 _ 4 40 Tryz.underlying168 hi hz0 hz1 hz2 rfl (by decide) _ _ _ rfl ((hown1.alloc _).alloc _) ⟨w1.heap.size + 1, 0, none⟩ 1 1 (tokC ⟨T.kind, T.text, T.n, ln⟩) rfl rfl ?c1 ?c2 ?c3 ?c4 ?c5 ?_)
      case c1 => exact fun j u hj => cell_new2 w1 _ _ (tokC ⟨T.kind, T.text, T.n, ln⟩) 220 rfl j u hj
      case c2 => intro u hu; simp [tokC] at hu; rcases hu with rfl | rfl | rfl | rfl <;> rfl
      case c3 => unfold maxLen; omega
      case c4 => omega
      case c5 => simp; omega
      intro v' w2 hown' hgrow _
      have hown2 : w2.ownsRow w.heap.size 220 4 v' (L ++ [(⟨T.kind, T.text, T.n, ln⟩ : Tok)]).length (toksC (L ++ [(⟨T.kind, T.text, T.n, ln⟩ : Tok)])) := by
        rw [toksC_snoc]; simpa using hown'
      have hx2 : Ext w w2 := Below.grown ((hx1.alloc _).alloc _) hgrow (by simp; omega) (fun k hk => (hown1.lt k hk).1)
      clear hown' hgrow hown hown1
      go_wp2
      go_roundw
      case rel => exact ⟨s.extract n s.size, f, ln, L ++ [(⟨T.kind, T.text, T.n, ln⟩ : Tok)], rfl, rfl, hown2, hx2, hf2, by omega, by simp; omega, by omega⟩
      case measure => simp only [strSize]; omega
    obtain ⟨f1, _⟩ := ne_facts (x := (s[0].toNat : Int)) (k := 10) (by omega)
    obtain ⟨f2, _⟩ := ne_facts (x := (s[0].toNat : Int)) (k := 32) (by omega)
    obtain ⟨f3, _⟩ := ne_facts (x := (s[0].toNat : Int)) (k := 9) (by omega)
    obtain ⟨f4, _⟩ := ne_facts (x := (s[0].toNat : Int)) (k := 35) (by omega)
    obtain ⟨T, n, c, hN⟩ : ∃ T n c, next s.data.toList = (T, n, c) := ⟨_, _, _, rfl⟩
    rw [hN] at h5 hf'
    have h5 : c ≠ 0 := h5
    have hnx := next_any s wr hp (by omega) (HE.out.ext hx)
    rw [hN] at hnx
    have HNX := Lib.hid hnx
    clear hnx hN
    go_wp2_with fail
    refine HNX.out.mono ?_
    rintro e w1 ⟨rfl, x1⟩
    unfold nextV tokV
    have hx1 := hx.trans x1
    go_wp2
    go_returns
    rw [hf'.out]
    exact ⟨⟨_, rfl, World.ownsRow_nil _ _ _ _⟩, hx1.alloc _⟩
  have hnil : s.data.toList = [] := List.eq_nil_of_length_eq_zero (by rw [<- size_len]; omega)
  have hR : R = (L, 0, 0) := by
    rw [ha.out, hnil]; cases f <;> rfl
  have HR := Lib.hid hR
  clear ha hR hnil
  go_wp2
  go_returns
  rw [HR.out]
  exact ⟨⟨_, rfl, hown⟩, hx⟩
end Go.Proofs.YtjaeedbjknejdaaGreatDoor.Lx

namespace Go.Proofs.YtjaeedbjknejdaaGreatDoor.Lx
open Go.Lib Fx
theorem tokz_len (hn : ∀ s : List UInt8, 0 < s.length -> (next s).2.2 = 0 -> 1 <= (next s).2.1) : ∀ (f : Nat) (s : List UInt8) (ln : Int) (L : List Tok), s.length <= f -> (tokz f ln L s).1.length <= L.length + s.length
  | 0, s, ln, L, _ => by show L.length <= _; omega
  | f + 1, [], ln, L, _ => by show L.length <= _; omega
  | f + 1, c :: r, ln, L, h => by
    simp only [List.length_cons] at h ⊢
    rw [tokz_cons]
    by_cases h1 : c = 10
    · rw [if_pos h1]; have := tokz_len hn f r (ln + 1) L (by omega); omega
    rw [if_neg h1]
    by_cases h2 : (decide (c = 32) || decide (c = 9)) = true
    · rw [if_pos h2]; have := tokz_len hn f r ln L (by omega); omega
    rw [if_neg h2]
    by_cases h3 : c = 35
    · rw [if_pos h3, skip_cons r h1]
      have hs := skip_le r
      have := tokz_len hn f (skip r).1 (if (skip r).2 then ln + 1 else ln) L (by omega)
      omega
    rw [if_neg h3]
    by_cases h4 : (next (c :: r)).2.2 = 0
    · rw [if_pos h4]
      have hl := hn (c :: r) (by simp) h4
      have hd : ((c :: r).drop (next (c :: r)).2.1).length <= r.length := by rw [List.length_drop, List.length_cons]; omega
      have := tokz_len hn f ((c :: r).drop (next (c :: r)).2.1) ln (L ++ [⟨(next (c :: r)).1.kind, (next (c :: r)).1.text, (next (c :: r)).1.n, ln⟩]) (by omega)
      rw [List.length_append, List.length_singleton] at this
      rw [List.length_drop, List.length_cons] at this
      omega
    · rw [if_neg h4]; exact Nat.zero_le _
theorem tokenize_len (s : List UInt8) : (tokenize s).1.length <= 16384 := by
  unfold tokenize
  by_cases h : 16384 < s.length
  · rw [if_pos h]; exact Nat.zero_le _
  rw [if_neg h]
  have := tokz_len (fun s h0 h1 => (next_len s h0 h1).1) s.length s 1 [] (Nat.le_refl _)
  simp only [List.length_nil] at this
  omega
end Go.Proofs.YtjaeedbjknejdaaGreatDoor.Lx

namespace Go.Proofs.YtjaeedbjknejdaaGreatDoor.Pa
open Go.RowKit Go.Sort Go.Lib Go.Shelf Fx Lx Tr
def runT {α : Type} (X : List Tok -> PR α) (s : List UInt8) : PR α :=
  if (tokenize s).2.2 ≠ 0 then .err (tokenize s).2.1 (tokenize s).2.2
  else (X (tokenize s).1).bind fun v r => if r.isEmpty = true then .ok v [] else .err (lineOf (lastL (tokenize s).1) r) 4
structure But2 (b c : Nat) (w w' : World) : Prop where
  os : w'.os = w.os
  tape : w'.tape = w.tape
  output : w'.output = w.output
  size : w.heap.size <= w'.heap.size
  block : ∀ k, k < w.heap.size -> k ≠ b -> k ≠ c -> w'.heap[k]? = w.heap[k]?
theorem But.two {b : Nat} (c : Nat) {w w' : World} (x : But b w w') : But2 b c w w' := ⟨x.os, x.tape, x.output, x.size, fun k h1 h2 _ => x.block k h1 h2⟩
def ReadO {α : Type} (K : Nat -> α -> World -> Prop) (pb : Nat) (a : Option Addr) (cap : Nat) (T : List Tok) (n : Nat) (x : PR α) (e : Ending) (w2 : World) : Prop := match x with
  | .ok v r => e = .returned (.tuple #[]) /\ K n v w2 /\ ∃ ar, PSt pb a cap T ar 0 r w2
  | .err ln er => e = failE ln er
def ReadC {α : Type} (X : List Tok -> PR α) (F tb : Nat) (K : Nat -> α -> World -> Prop) (T : List Tok) (w : World) : Prop :=
  ∀ (pb : Nat) (a : Option Addr) (cap : Nat) (w1 : World), w.heap.size < pb -> Ext w w1 -> (∀ g o, a = some ⟨g, o, none⟩ -> w.heap.size <= g) -> PSt pb a cap T ⟨#[]⟩ 0 T w1 ->
    Calls Tryz.prog F #[.pointer (some ⟨pb, 0, none⟩), .pointer (some ⟨tb, 0, none⟩)] w1 fun e w2 => But2 pb tb w1 w2 /\ ReadO K pb a cap T w1.heap.size (X T) e w2
def RunO {α : Type} (K : Nat -> α -> World -> Prop) (w : World) (x : PR α) (e : Ending) (w' : World) : Prop := match x with
  | .ok v _ => e = .returned (.tuple #[.int .i64 0, .int .i64 0]) /\ K w.heap.size v w'
  | .err ln er => e = .returned (.tuple #[.int .i64 ln, .int .i64 er])
theorem toksC_at : ∀ (L : List Tok) (k : Nat) (h : k < L.length), (toksC L)[k * 4]? = some (.int .i64 L[k].kind) /\ (toksC L)[k * 4 + 1]? = some (.string ⟨L[k].text.toArray⟩) /\ (toksC L)[k * 4 + 2]? = some (.int .i64 L[k].n) /\ (toksC L)[k * 4 + 3]? = some (.int .i64 L[k].line)
  | [], k, h => absurd h (by simp)
  | t :: L, 0, _ => ⟨rfl, rfl, rfl, rfl⟩
  | t :: L, k + 1, h => by
    have ih := toksC_at L k (by simpa using h)
    have e : toksC (t :: L) = .int .i64 t.kind :: .string ⟨t.text.toArray⟩ :: .int .i64 t.n :: .int .i64 t.line :: toksC L := rfl
    rw [e, show (k + 1) * 4 = k * 4 + 1 + 1 + 1 + 1 by omega]
    simpa using ih
theorem own_tok {B pb : Nat} {T : List Tok} {v : Value} {w w' : World} (h : w.ownsRow B 220 4 v T.length (toksC T)) (hw : w.heap.size <= pb) (hk : ∀ g, B <= g -> g < w.heap.size -> w'.heap[g]? = w.heap[g]?) :
    ∃ a cap, v = .slice a T.length cap /\ TokIn pb w' a T /\ ∀ g o, a = some ⟨g, o, none⟩ -> B <= g := by
  rcases h.2 with ⟨h1, h2⟩ | ⟨g, cap, cur, hv, hb, hg, hn, hc, _⟩
  · exact ⟨none, 0, by rw [h1, h2], fun k hk => absurd hk (by omega), fun g o h => by cases h⟩
  have hl := (Array.getElem?_eq_some_iff.1 hg).1
  have hcell : ∀ j u, (toksC T)[j]? = some u -> w'.cell? ⟨g, j, none⟩ = some u := fun j u hj => by
    have := h.cells (g := g) (by rw [hv]; rfl) j u hj
    rw [add_at] at this
    exact (World.cell?_of_block (a := ⟨g, j, none⟩) (hk g hb hl)).trans this
  refine ⟨_, cap, hv, fun k hk => ?_, fun g' o h => by injection h with h; injection h with h; omega⟩
  obtain ⟨e0, e1, e2, e3⟩ := toksC_at T k hk
  refine ⟨g, 0, rfl, by omega, ?_, ?_, ?_, ?_⟩ <;> rw [Nat.zero_add]
  · exact hcell _ _ e0
  · exact hcell _ _ e1
  · exact hcell _ _ e2
  exact hcell _ _ e3
def Two2 (w : World) (b : Nat) (x y : Int) : Prop := w.heap[b]? = some (.cells #[.int .i64 x] 3 (0, 0)) /\ w.heap[b + 1]? = some (.cells #[.int .i64 y] 34 (0, 0))
theorem Two2.cells {w : World} {b : Nat} {x y : Int} (h : Two2 w b x y) : w.cell? ⟨b, 0, none⟩ = some (.int .i64 x) /\ w.cell? ⟨b + 1, 0, none⟩ = some (.int .i64 y) /\ w.frozen? ⟨b, 0, none⟩ = false /\ w.frozen? ⟨b + 1, 0, none⟩ = false := by
  refine ⟨?_, ?_, Lib.frozen_of_heap h.1 0, Lib.frozen_of_heap h.2 0⟩
  · rw [Lib.cell_of_heap h.1]; rfl
  rw [Lib.cell_of_heap h.2]; rfl
theorem Two2.set {w : World} {b : Nat} {x y : Int} (h : Two2 w b x y) (x' y' : Int) : Two2 ((w.setCell ⟨b, 0, none⟩ (.int .i64 x')).setCell ⟨b + 1, 0, none⟩ (.int .i64 y')) b x' y' := by
  refine ⟨?_, ?_⟩
  · refine (Below.heap_setCell _ _ _ b (by show b ≠ b + 1; omega)).trans (setOne h.1 0 _)
  exact setOne ((Below.heap_setCell w ⟨b, 0, none⟩ (.int .i64 x') (b + 1) (by show b + 1 ≠ b; omega)).trans h.2) 0 _
theorem run_results (tmps : Array Value) (w : World) (b : Nat) (x y : Int) (h4 : tmps.getD 4 undef = .pointer (some ⟨b, 0, none⟩)) (h5 : tmps.getD 5 undef = .pointer (some ⟨b + 1, 0, none⟩)) (h : Two2 w b x y) :
    (results Tryz.f46 tmps).run Tryz.prog w = .ok (.tuple #[.int .i64 x, .int .i64 y]) w := by
  obtain ⟨c0, c1, _, _⟩ := h.cells
  rw [Array.getD_eq_getD_getElem?] at h4 h5
  simp [results, Tryz.results46, go_sem, h4, h5, c0, c1]
theorem two2_drew {w : World} {b : Nat} {x y : Int} (h : Two2 w b x y) : Two2 w.drew b x y := h
theorem but_set2 {tb : Nat} {w w1 : World} {b : Nat} {x y : Value} (h : But tb w w1) (hb : w.heap.size <= b) : But tb w ((w1.setCell ⟨b, 0, none⟩ x).setCell ⟨b + 1, 0, none⟩ y) :=
  but_far (but_far h (p := ⟨b, 0, none⟩) hb x) (p := ⟨b + 1, 0, none⟩) (by show w.heap.size <= b + 1; omega) y
theorem run_dies (tmps : Array Value) (w : World) (b : Nat) (x y ln er : Int) (R : Ending -> World -> Prop) (h4 : tmps.getD 4 undef = .pointer (some ⟨b, 0, none⟩)) (h5 : tmps.getD 5 undef = .pointer (some ⟨b + 1, 0, none⟩)) (h : Two2 w b x y)
    (hR : ∀ w', w' = (((w.setCell ⟨b, 0, none⟩ (.int .i64 ln)).setCell ⟨b + 1, 0, none⟩ (.int .i64 er)).alloc (.cells #[.int .i64 ln, .int .i64 er] 172)).drew -> R (.returned (.tuple #[.int .i64 ln, .int .i64 er])) w') :
    bodyPostD Tryz.prog Tryz.f46 R (.panic [{ v := .iface 172 (.agg #[.int .i64 ln, .int .i64 er]), recovered := false }])
      { tmps := tmps, defers := [{ target := .fn (.func 98) #[.pointer (some ⟨b, 0, none⟩), .pointer (some ⟨b + 1, 0, none⟩)], args := #[] }] } w := by
  refine leaves_cons (f := 98) (args := #[.pointer (some ⟨b, 0, none⟩), .pointer (some ⟨b + 1, 0, none⟩)]) (by simp) (by simp [go_sem]) ?_
  refine (rec_panic b (b + 1) x y ln er [] w h.1 h.2 (by omega)).mono ?_
  rintro e u' w' ⟨rfl, rfl, hw'⟩
  refine ⟨_, run_results tmps w' b ln er h4 h5 ?_, hR w' hw'⟩
  have h2 := h.set ln er
  have hx := ((Ext.refl ((w.setCell ⟨b, 0, none⟩ (.int .i64 ln)).setCell ⟨b + 1, 0, none⟩ (.int .i64 er))).alloc (.cells #[.int .i64 ln, .int .i64 er] 172)).drew
  rw [hw']
  exact ⟨(hx.block b (Array.getElem?_eq_some_iff.1 h2.1).1).trans h2.1, (hx.block (b + 1) (Array.getElem?_eq_some_iff.1 h2.2).1).trans h2.2⟩
theorem run_ends (tmps : Array Value) (w : World) (b : Nat) (x y : Int) (R : Ending -> World -> Prop) (h4 : tmps.getD 4 undef = .pointer (some ⟨b, 0, none⟩)) (h5 : tmps.getD 5 undef = .pointer (some ⟨b + 1, 0, none⟩)) (h : Two2 w b x y)
    (hR : ∀ w', Ext w w' -> R (.returned (.tuple #[.int .i64 x, .int .i64 y])) w') :
    bodyPostD Tryz.prog Tryz.f46 R .ret
      { tmps := tmps, defers := [{ target := .fn (.func 98) #[.pointer (some ⟨b, 0, none⟩), .pointer (some ⟨b + 1, 0, none⟩)], args := #[] }] } w := by
  refine leaves_cons (f := 98) (args := #[.pointer (some ⟨b, 0, none⟩), .pointer (some ⟨b + 1, 0, none⟩)]) (by simp) (by simp [go_sem]) ?_
  refine (rec_idle ⟨b, 0, none⟩ ⟨b + 1, 0, none⟩ w).mono ?_
  rintro e u' w' ⟨rfl, rfl, hx⟩
  exact ⟨_, run_results tmps w' b x y h4 h5 ⟨(hx.block b (Array.getElem?_eq_some_iff.1 h.1).1).trans h.1, (hx.block (b + 1) (Array.getElem?_eq_some_iff.1 h.2).1).trans h.2⟩, hR w' hx⟩
theorem lines_tb {tb : Nat} {w w3 w4 w5 : World} {pb : Nat} (x3 : Ext w w3) (hpb : w.heap.size <= pb) (x4 : But2 pb tb w3 w4) (x5 : ∀ g, g < w.heap.size -> w5.heap[g]? = w4.heap[g]?) (o1 : w5.os = w4.os) (o2 : w5.tape = w4.tape) (o3 : w5.output = w4.output) (o4 : w4.heap.size <= w5.heap.size) : But tb w w5 :=
  ⟨o1.trans (x4.os.trans x3.os), o2.trans (x4.tape.trans x3.tape), o3.trans (x4.output.trans x3.output), Nat.le_trans x3.size (Nat.le_trans x4.size o4), fun k hk hc => (x5 k hk).trans ((x4.block k (Nat.lt_of_lt_of_le hk x3.size) (by omega) hc).trans (x3.block k hk))⟩
theorem run_any {α : Type} (X : List Tok -> PR α) (F tb : Nat) (K : Nat -> α -> World -> Prop) (s : ByteArray) (w : World) (hs : s.size <= 9223372036854775807) (he : Env w) (htb : tb < w.heap.size)
    (hK : ∀ n v w2 w', w.heap.size <= n -> K n v w2 -> (∀ g, (n <= g \/ g = tb) -> g < w2.heap.size -> w'.heap[g]? = w2.heap[g]?) -> K w.heap.size v w')
    (hinv : ∀ (args : Array Value) (w : World), (callFunc F args).run Tryz.prog w = .ok (.enter F args) w)
    (hR : ReadC X F tb K (tokenize s.data.toList).1 w) :
    Calls Tryz.prog 46 #[.string s, .func (.func F) #[] #[.pointer (some ⟨tb, 0, none⟩)]] w fun e w' => RunO K w (runT X s.data.toList) e w' /\ But tb w w' := by
  have hmf : ∀ (fn : Fn) (first cap : Array Value) (w : World), (Instr.makeFunc fn first cap).run Tryz.prog w = .ok (.func fn first cap) w := fun _ _ _ _ => rfl
  have hx0 : Ext w ((w.alloc (.cells #[.int .i64 0] 3)).alloc (.cells #[.int .i64 0] 34)) := ((Ext.refl w).alloc _).alloc _
  have ht0 : Two2 ((w.alloc (.cells #[.int .i64 0] 3)).alloc (.cells #[.int .i64 0] 34)) w.heap.size 0 0 := by
    have h2 := heap_alloc_new (w.alloc (.cells #[.int .i64 0] 3)) (.cells #[.int .i64 0] 34)
    rw [World.size_alloc] at h2
    have x2 := (Ext.refl (w.alloc (.cells #[.int .i64 0] 3))).alloc (.cells #[.int .i64 0] 34)
    exact ⟨(x2.block w.heap.size (by simp)).trans (heap_alloc_new w _), h2⟩
  have htk := tokenize_any s _ hs (he.ext hx0)
  have hlen := tokenize_len s.data.toList
  have hok := tokenize_okT s.data.toList
  obtain ⟨Y, hY⟩ : ∃ Y, Y = runT X s.data.toList := ⟨_, rfl⟩
  rw [<- hY]
  unfold runT at hY
  generalize tokenize s.data.toList = R at *
  obtain ⟨T, ln, er⟩ := R
  dsimp only at hlen hok hY hR htk
  have HTK := Lib.hid htk; have HX0 := Lib.hid hx0; have HT0 := Lib.hid ht0; have HE := Lib.hid he; have HLEN := Lib.hid hlen; have HOK := Lib.hid hok; have HR := Lib.hid hR; have HK := Lib.hid hK
  clear htk hx0 ht0 he hlen hok hR hK
  by_cases her : er = 0
  · subst her
    rw [if_neg (by simp)] at hY
    have HY := Lib.hid hY
    clear hY
    go_enter_defers Tryz.func46, Tryz.ntmps46
    go_wp2_with (go_at_call 97; refine HTK.out.mono ?_; rintro e w1 ⟨⟨v, rfl, hown⟩, x1⟩; have HOWN := Lib.hid hown; have X1 := Lib.hid x1; have T1 := Lib.hid (show Two2 w1 w.heap.size 0 0 from ⟨(x1.block _ (Array.getElem?_eq_some_iff.1 HT0.out.1).1).trans HT0.out.1, (x1.block _ (Array.getElem?_eq_some_iff.1 HT0.out.2).1).trans HT0.out.2⟩); obtain ⟨c0, c1, f0, f1⟩ := T1.out.cells; obtain ⟨d0, d1, g0, g1⟩ := (T1.out.set ln 0).cells; obtain ⟨ao, cc, rfl⟩ := own_slice hown; clear hown x1)
    have hlb : w.heap.size + 2 <= w1.heap.size := by have := X1.out.size; simpa using this
    have hx3 : Ext w (((w1.setCell ⟨w.heap.size, 0, none⟩ (.int .i64 ln)).setCell ⟨w.heap.size + 1, 0, none⟩ (.int .i64 0)).alloc (.cells #[.slice ao T.length cc, .int .i64 0, .string ⟨#[]⟩, .int .i64 0] 175)) :=
      (show Ext w _ from Below.setCell (Below.setCell (HX0.out.trans X1.out) (p := ⟨w.heap.size, 0, none⟩) (Nat.le_refl _) _) (p := ⟨w.heap.size + 1, 0, none⟩) (by show w.heap.size <= w.heap.size + 1; omega) _).alloc _
    have hpc := heap_alloc_new ((w1.setCell ⟨w.heap.size, 0, none⟩ (.int .i64 ln)).setCell ⟨w.heap.size + 1, 0, none⟩ (.int .i64 0)) (.cells #[.slice ao T.length cc, .int .i64 0, .string ⟨#[]⟩, .int .i64 0] 175)
    have hz : ((w1.setCell ⟨w.heap.size, 0, none⟩ (.int .i64 ln)).setCell ⟨w.heap.size + 1, 0, none⟩ (.int .i64 0)).heap.size = w1.heap.size := by simp
    rw [hz] at hpc
    have xa := (Ext.refl ((w1.setCell ⟨w.heap.size, 0, none⟩ (.int .i64 ln)).setCell ⟨w.heap.size + 1, 0, none⟩ (.int .i64 0))).alloc (.cells #[.slice ao T.length cc, .int .i64 0, .string ⟨#[]⟩, .int .i64 0] 175)
    have T2 := T1.out.set ln 0
    have T3 : Two2 (((w1.setCell ⟨w.heap.size, 0, none⟩ (.int .i64 ln)).setCell ⟨w.heap.size + 1, 0, none⟩ (.int .i64 0)).alloc (.cells #[.slice ao T.length cc, .int .i64 0, .string ⟨#[]⟩, .int .i64 0] 175)) w.heap.size ln 0 :=
      ⟨(xa.block _ (Array.getElem?_eq_some_iff.1 T2.1).1).trans T2.1, (xa.block _ (Array.getElem?_eq_some_iff.1 T2.2).1).trans T2.2⟩
    obtain ⟨a', cap', hav, hti, hbg⟩ := own_tok (pb := w1.heap.size) (w' := ((w1.setCell ⟨w.heap.size, 0, none⟩ (.int .i64 ln)).setCell ⟨w.heap.size + 1, 0, none⟩ (.int .i64 0)).alloc (.cells #[.slice ao T.length cc, .int .i64 0, .string ⟨#[]⟩, .int .i64 0] 175)) HOWN.out (Nat.le_refl _) (fun g h1 h2 => by
      have h1 : w.heap.size + 2 <= g := by simpa using h1
      rw [xa.block g (by rw [hz]; exact h2), Below.heap_setCell _ _ _ _ (by show g ≠ w.heap.size + 1; omega), Below.heap_setCell _ _ _ _ (by show g ≠ w.heap.size; omega)])
    injection hav with e1 _ e3
    subst e1; subst e3
    generalize ((w1.setCell ⟨w.heap.size, 0, none⟩ (.int .i64 ln)).setCell ⟨w.heap.size + 1, 0, none⟩ (.int .i64 0)).alloc (.cells #[.slice ao T.length cc, .int .i64 0, .string ⟨#[]⟩, .int .i64 0] 175) = w3 at *
    have hst : PSt w1.heap.size ao cc T ⟨#[]⟩ 0 T w3 := ⟨0, by omega, HLEN.out, rfl, hpc, hti, ⟨w, hx3, by omega, HE.out⟩, fun t ht => by have := HOK.out t ht; unfold okT at this; omega⟩
    have hcall := HR.out w1.heap.size ao cc w3 (by omega) hx3 (fun g o h => by have := hbg g o h; rw [World.size_alloc, World.size_alloc] at this; omega) hst
    have hl3 := (Array.getElem?_eq_some_iff.1 hpc).1
    have HX3 := Lib.hid hx3; have T3 := Lib.hid T3
    clear hx3 hpc hz xa T2 hti hbg hst HOWN c0 c1 f0 f1 d0 d1 g0 g1 T1 HT0 HTK HX0 X1 HE HR
    have hY1 := HY.out
    rcases hq : X T with ⟨v, r⟩ | ⟨ln2, er2⟩ <;> rw [hq] at hcall hY1 <;> clear HY
    · rw [PR.bind_ok] at hY1
      refine hcall.mono ?_
      rintro e w4 ⟨x4, rfl, hKv, ar, hs4⟩
      have HS4 := Lib.hid hs4
      obtain ⟨k, hk, _, hd, hc, _⟩ := hs4
      obtain ⟨_, p1, _, _, _⟩ := hc.cells
      have T4 : Two2 w4 w.heap.size ln 0 := ⟨(x4.block _ (Array.getElem?_eq_some_iff.1 T3.out.1).1 (by omega) (by omega)).trans T3.out.1, (x4.block _ (Array.getElem?_eq_some_iff.1 T3.out.2).1 (by omega) (by omega)).trans T3.out.2⟩
      obtain ⟨c0, c1, f0, f1⟩ := T4.cells
      have hl4 := x4.size
      obtain ⟨N, hN⟩ : ∃ N, N = T.length := ⟨_, rfl⟩
      rw [<- hN] at hk ⊢
      have HN := Lib.hid hN; have X4 := Lib.hid x4; have T4 := Lib.hid T4; have HKV := Lib.hid hKv; have HD := Lib.hid hd
      clear hcall hc x4 hKv hd hN hq
      by_cases hr : r = []
      · subst hr
        rw [if_pos (show ([] : List Tok).isEmpty = true from rfl)] at hY1
        have hkn : ¬ (k : Int) < (N : Int) := by
          have h1 := HD.out
          have h2 : (T.drop k).length = 0 := by rw [h1]; rfl
          rw [List.length_drop, <- HN.out] at h2
          omega
        have HY := Lib.hid hY1
        clear hY1
        go_wp2
        have T5 := T4.out.set 0 0
        refine run_ends _ _ w.heap.size 0 0 _ rfl rfl T5 fun w' hx => ?_
        have hz5 : ((w4.setCell ⟨w.heap.size, 0, none⟩ (.int .i64 0)).setCell ⟨w.heap.size + 1, 0, none⟩ (.int .i64 0)).heap.size = w4.heap.size := by simp
        have hb5 : ∀ g, g < w4.heap.size -> g ≠ w.heap.size -> g ≠ w.heap.size + 1 -> w'.heap[g]? = w4.heap[g]? := fun g h1 h2 h3 => by
          rw [hx.block g (by rw [hz5]; exact h1), Below.heap_setCell _ _ _ _ (by show g ≠ w.heap.size + 1; exact h3), Below.heap_setCell _ _ _ _ (by show g ≠ w.heap.size; exact h2)]
        rw [HY.out]
        refine ⟨⟨rfl, HK.out w3.heap.size v w4 w' (by omega) HKV.out fun g h1 h2 => hb5 g h2 (by omega) (by omega)⟩, lines_tb HX3.out (by omega) X4.out (fun g h1 => hb5 g (by omega) (by omega) (by omega)) hx.os hx.tape hx.output (by have := hx.size; rw [hz5] at this; exact this)⟩
      rw [if_neg (by simpa using hr)] at hY1
      have hkn : (k : Int) < (N : Int) := by
        have h1 := HD.out
        have h2 : (T.drop k).length ≠ 0 := by rw [h1]; exact fun h => hr (List.eq_nil_of_length_eq_zero h)
        rw [List.length_drop, <- HN.out] at h2
        omega
      have HY := Lib.hid hY1
      clear hY1
      go_wp2_with (go_at_call 99; refine (fail_any w1.heap.size ao cc T ar 0 r 4 w4 HS4.out).mono ?_; rintro e w5 ⟨rfl, x5⟩; unfold failE)
      have hl5 := x5.size
      have T5 : Two2 w5 w.heap.size ln 0 := ⟨(x5.block _ (by omega)).trans T4.out.1, (x5.block _ (by omega)).trans T4.out.2⟩
      refine run_dies _ _ w.heap.size ln 0 (lineOf (lastL T) r) 4 _ rfl rfl T5 fun w' hw' => ?_
      have hz5 : ((w5.setCell ⟨w.heap.size, 0, none⟩ (.int .i64 (lineOf (lastL T) r))).setCell ⟨w.heap.size + 1, 0, none⟩ (.int .i64 4)).heap.size = w5.heap.size := by simp
      have hx := ((Ext.refl ((w5.setCell ⟨w.heap.size, 0, none⟩ (.int .i64 (lineOf (lastL T) r))).setCell ⟨w.heap.size + 1, 0, none⟩ (.int .i64 4))).alloc (.cells #[.int .i64 (lineOf (lastL T) r), .int .i64 4] 172)).drew
      rw [<- hw'] at hx
      have hb5 : ∀ g, g < w5.heap.size -> g ≠ w.heap.size -> g ≠ w.heap.size + 1 -> w'.heap[g]? = w5.heap[g]? := fun g h1 h2 h3 => by
        rw [hx.block g (by rw [hz5]; exact h1), Below.heap_setCell _ _ _ _ (by show g ≠ w.heap.size + 1; exact h3), Below.heap_setCell _ _ _ _ (by show g ≠ w.heap.size; exact h2)]
      rw [HY.out]
      refine ⟨rfl, lines_tb HX3.out (by omega) X4.out (fun g h1 => (hb5 g (by omega) (by omega) (by omega)).trans (x5.block g (by omega))) (hx.os.trans x5.os) (hx.tape.trans x5.tape) (hx.output.trans x5.output) (by have := hx.size; rw [hz5] at this; omega)⟩
    rw [PR.bind_err] at hY1
    have HY := Lib.hid hY1
    clear hY1
    refine hcall.mono ?_
    rintro e w4 ⟨x4, rfl⟩
    unfold failE
    go_wp2
    have hl4 := x4.size
    have T5 : Two2 w4 w.heap.size ln 0 := ⟨(x4.block _ (Array.getElem?_eq_some_iff.1 T3.out.1).1 (by omega) (by omega)).trans T3.out.1, (x4.block _ (Array.getElem?_eq_some_iff.1 T3.out.2).1 (by omega) (by omega)).trans T3.out.2⟩
    refine run_dies _ _ w.heap.size ln 0 ln2 er2 _ rfl rfl T5 fun w' hw' => ?_
    have hz5 : ((w4.setCell ⟨w.heap.size, 0, none⟩ (.int .i64 ln2)).setCell ⟨w.heap.size + 1, 0, none⟩ (.int .i64 er2)).heap.size = w4.heap.size := by simp
    have hx := ((Ext.refl ((w4.setCell ⟨w.heap.size, 0, none⟩ (.int .i64 ln2)).setCell ⟨w.heap.size + 1, 0, none⟩ (.int .i64 er2))).alloc (.cells #[.int .i64 ln2, .int .i64 er2] 172)).drew
    rw [<- hw'] at hx
    have hb5 : ∀ g, g < w4.heap.size -> g ≠ w.heap.size -> g ≠ w.heap.size + 1 -> w'.heap[g]? = w4.heap[g]? := fun g h1 h2 h3 => by
      rw [hx.block g (by rw [hz5]; exact h1), Below.heap_setCell _ _ _ _ (by show g ≠ w.heap.size + 1; exact h3), Below.heap_setCell _ _ _ _ (by show g ≠ w.heap.size; exact h2)]
    rw [HY.out]
    refine ⟨rfl, lines_tb HX3.out (by omega) x4 (fun g h1 => hb5 g (by omega) (by omega) (by omega)) hx.os hx.tape hx.output (by have := hx.size; rw [hz5] at this; exact this)⟩
  rw [if_pos her] at hY
  have HY := Lib.hid hY
  clear hY
  go_enter_defers Tryz.func46, Tryz.ntmps46
  go_wp2_with (go_at_call 97; refine HTK.out.mono ?_; rintro e w1 ⟨⟨v, rfl, hown⟩, x1⟩; have X1 := Lib.hid x1; have T1 := Lib.hid (show Two2 w1 w.heap.size 0 0 from ⟨(x1.block _ (Array.getElem?_eq_some_iff.1 HT0.out.1).1).trans HT0.out.1, (x1.block _ (Array.getElem?_eq_some_iff.1 HT0.out.2).1).trans HT0.out.2⟩); obtain ⟨c0, c1, f0, f1⟩ := T1.out.cells; obtain ⟨d0, d1, g0, g1⟩ := (T1.out.set ln er).cells; obtain ⟨ao, cc, rfl⟩ := own_slice hown; clear hown x1)
  go_region
  go_wp2
  have T2 := ((T1.out.set ln er).set ln er)
  have B2 := But.ext (but_set2 (x := .int .i64 ln) (y := .int .i64 er) (but_set2 (x := .int .i64 ln) (y := .int .i64 er) (But.of (c := tb) (HX0.out.trans X1.out)) (Nat.le_refl _)) (Nat.le_refl _)) (Ext.refl _).drew
  exact ⟨_, run_results _ _ w.heap.size ln er rfl rfl (two2_drew T2), by rw [HY.out]; exact rfl, B2⟩
end Go.Proofs.YtjaeedbjknejdaaGreatDoor.Pa

namespace Go.Proofs.YtjaeedbjknejdaaGreatDoor.Pa
open Go.RowKit Go.Sort Go.Lib Go.Shelf Fx Lx Tr
def zero5 : Obj := .cells #[.int .i64 0, .string ⟨#[]⟩, .slice none 0 0, .slice none 0 0, .slice none 0 0] 67
def DefCut (pb : Nat) (a : Option Addr) (cap : Nat) (T : List Tok) (ar : ByteArray) (dep : Int) (w : World) (x : List UInt8) (X : PR Stm) (s4 : Value) (wx : World) : Prop :=
  ∃ (c : Nat) (L : List Two) (r2 : List Tok) (la : Option Addr) (lc : Nat), s4 = .pointer (some ⟨c, 0, none⟩) /\ w.heap.size + 1 <= c /\
    wx.heap[c]? = some (.cells #[.int .i64 3, .string ⟨x.toArray⟩, .slice none 0 0, .slice la L.length lc, .slice none 0 0] 67 (0, 0)) /\ PSt pb a cap T ar dep r2 wx /\ But pb w wx /\
    TwoP (w.heap.size + 1 <= ·) wx la L /\ L.length <= lc /\ lc <= maxLen /\ wx.heap[w.heap.size]? = some zero5 /\
    X = (pMark (lastL T) [59] r2).bind fun _ r => .ok (.mk 3 ⟨x.toArray⟩ [] L []) r
theorem defCut_A {pb : Nat} {a : Option Addr} {cap : Nat} {T : List Tok} {ar : ByteArray} {dep : Int} {w W2 w3 : World} {x : List UInt8} {X : PR Stm} {L : List Two} {r2 : List Tok} {la : Option Addr} {lc : Nat}
    (X02 : But pb w W2) (hp : pb < w.heap.size) (hl : w.heap.size + 1 <= W2.heap.size) (hh : W2.heap[w.heap.size]? = some zero5) (x3' : But pb W2.drew w3) (hs3 : PSt pb a cap T ar dep r2 w3) (htp : TwoP (W2.heap.size <= ·) w3 la L) (h1 : L.length <= lc) (h2 : lc <= maxLen)
    (hX : X = (pMark (lastL T) [59] r2).bind fun _ r => .ok (.mk 3 ⟨x.toArray⟩ [] L []) r) :
    DefCut pb a cap T ar dep w x X (.pointer (some ⟨w3.heap.size, 0, none⟩)) (w3.alloc (.cells #[.int .i64 3, .string ⟨x.toArray⟩, .slice none 0 0, .slice la L.length lc, .slice none 0 0] 67)) := by
  have x3 : But pb W2 w3 := (But.of ((Ext.refl W2).drew)).trans x3'
  have hl3 := x3.size
  have xa := (Ext.refl w3).alloc (.cells #[.int .i64 3, .string ⟨x.toArray⟩, .slice none 0 0, .slice la L.length lc, .slice none 0 0] 67)
  exact ⟨w3.heap.size, L, r2, la, lc, rfl, by omega, heap_alloc_new w3 _, hs3.ext xa, (X02.trans x3).ext xa,
    htp.keep (fun g hg hlg => xa.block g hlg) (fun g hg _ => by have hg : W2.heap.size <= g := hg; show w.heap.size + 1 <= g; omega), h1, h2,
    (xa.block _ (by omega)).trans (but_heap x3 hh (by omega)), hX⟩
theorem defCut_B {pb : Nat} {a : Option Addr} {cap : Nat} {T : List Tok} {ar : ByteArray} {dep : Int} {w W2 w3 : World} {x : List UInt8} {X : PR Stm} {L : List Two} {r2 : List Tok} {la : Option Addr} {lc : Nat}
    (X02 : But pb w W2) (hp : pb < w.heap.size) (hl : w.heap.size + 1 <= W2.heap.size) (hh : W2.heap[w.heap.size]? = some zero5) (x3 : But pb (W2.drew.alloc zero5) w3) (hs3 : PSt pb a cap T ar dep r2 w3) (htp : TwoP ((W2.drew.alloc zero5).heap.size <= ·) w3 la L) (h1 : L.length <= lc) (h2 : lc <= maxLen)
    (hX : X = (pMark (lastL T) [59] r2).bind fun _ r => .ok (.mk 3 ⟨x.toArray⟩ [] L []) r) :
    DefCut pb a cap T ar dep w x X (.pointer (some ⟨W2.heap.size, 0, none⟩)) (((((w3.setCell ⟨W2.heap.size, 0, none⟩ (.int .i64 3)).setCell ⟨W2.heap.size, 1, none⟩ (.string ⟨x.toArray⟩)).setCell ⟨W2.heap.size, 2, none⟩ (.slice none 0 0)).setCell ⟨W2.heap.size, 3, none⟩ (.slice la L.length lc)).setCell ⟨W2.heap.size, 4, none⟩ (.slice none 0 0)) := by
  have hl3 := x3.size
  have hsz : (W2.drew.alloc zero5).heap.size = W2.heap.size + 1 := World.size_alloc _ _
  have xd : Ext W2 (W2.drew.alloc zero5) := ((Ext.refl W2).drew).alloc _
  have k4 := but_heap x3 (heap_alloc_new W2.drew zero5) (by show W2.heap.size ≠ pb; omega)
  have X03 := (X02.ext xd).trans x3
  obtain ⟨F1, F2, F3⟩ := fin_five hs3 X03 W2.heap.size (by omega) (by omega) (.int .i64 3) (.string ⟨x.toArray⟩) (.slice none 0 0) (.slice la L.length lc) (.slice none 0 0)
  refine ⟨W2.heap.size, L, r2, la, lc, rfl, by omega, set_five k4 _ _ _ _ _, F1, F2, ?_, h1, h2, ?_, hX⟩
  · exact htp.keep (fun g hg hlg => F3 g (by have hg : (W2.drew.alloc zero5).heap.size <= g := hg; omega)) (fun g hg _ => by have hg : (W2.drew.alloc zero5).heap.size <= g := hg; show w.heap.size + 1 <= g; omega)
  exact (F3 _ (by omega)).trans (but_heap x3 ((xd.block _ (by omega)).trans hh) (by omega))
end Go.Proofs.YtjaeedbjknejdaaGreatDoor.Pa
