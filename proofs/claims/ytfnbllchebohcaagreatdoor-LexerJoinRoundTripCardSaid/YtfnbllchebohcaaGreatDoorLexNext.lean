/- What the lexer's next returns: the token at the head of a text, its length, the error. -/
import Derived.Test.YtfnbllchebohcaaGreatDoorLexCont
namespace Go.Proofs.YtfnbllchebohcaaGreatDoor.Lx
open Go.RowKit Go.Sort Go.Lib Go.Shelf Fx

theorem cells4 {w : World} {B : Nat} {a b c d : Value} {T : TypeId} (h : w.heap[B]? = some (.cells #[a, b, c, d] T (0, 0))) :
    (w.cell? ⟨B, 0, none⟩ = some a ∧ w.cell? ⟨B, 1, none⟩ = some b ∧ w.cell? ⟨B, 2, none⟩ = some c ∧ w.cell? ⟨B, 3, none⟩ = some d) ∧
    (w.frozen? ⟨B, 0, none⟩ = false ∧ w.frozen? ⟨B, 1, none⟩ = false ∧ w.frozen? ⟨B, 2, none⟩ = false ∧ w.frozen? ⟨B, 3, none⟩ = false) :=
  ⟨⟨by rw [Lib.cell_of_heap h]; rfl, by rw [Lib.cell_of_heap h]; rfl, by rw [Lib.cell_of_heap h]; rfl, by rw [Lib.cell_of_heap h]; rfl⟩,
   Lib.frozen_of_heap h 0, Lib.frozen_of_heap h 1, Lib.frozen_of_heap h 2, Lib.frozen_of_heap h 3⟩
theorem set1 {w : World} {B : Nat} {cs : Array Value} {T : TypeId} (h : w.heap[B]? = some (.cells cs T (0, 0))) (i : Nat) (v : Value) :
    (w.setCell ⟨B, i, none⟩ v).heap[B]? = some (.cells (cs.setIfInBounds i v) T (0, 0)) := by
  unfold World.setCell
  simp [Array.getElem?_modify, h]
theorem set4 {w : World} {B : Nat} {a b c d : Value} {T : TypeId} (h : w.heap[B]? = some (.cells #[a, b, c, d] T (0, 0))) (a' b' c' d' : Value) :
    ((((w.setCell ⟨B, 0, none⟩ a').setCell ⟨B, 1, none⟩ b').setCell ⟨B, 2, none⟩ c').setCell ⟨B, 3, none⟩ d').heap[B]? = some (.cells #[a', b', c', d'] T (0, 0)) :=
  set1 (set1 (set1 (set1 h 0 a') 1 b') 2 c') 3 d'
theorem set4r {w : World} {B : Nat} {a b c d : Value} {T : TypeId} (h : w.heap[B]? = some (.cells #[a, b, c, d] T (0, 0))) (a' b' c' d' : Value) :
    (w.setCell ⟨B, 0, none⟩ a').cell? ⟨B, 0, none⟩ = some a' ∧ ((w.setCell ⟨B, 0, none⟩ a').setCell ⟨B, 1, none⟩ b').cell? ⟨B, 1, none⟩ = some b' ∧
    (((w.setCell ⟨B, 0, none⟩ a').setCell ⟨B, 1, none⟩ b').setCell ⟨B, 2, none⟩ c').cell? ⟨B, 2, none⟩ = some c' ∧
    ((((w.setCell ⟨B, 0, none⟩ a').setCell ⟨B, 1, none⟩ b').setCell ⟨B, 2, none⟩ c').setCell ⟨B, 3, none⟩ d').cell? ⟨B, 3, none⟩ = some d' :=
  ⟨by rw [Lib.cell_of_heap (set1 h 0 a')]; rfl, by rw [Lib.cell_of_heap (set1 (set1 h 0 a') 1 b')]; rfl,
   by rw [Lib.cell_of_heap (set1 (set1 (set1 h 0 a') 1 b') 2 c')]; rfl, by rw [Lib.cell_of_heap (set1 (set1 (set1 (set1 h 0 a') 1 b') 2 c') 3 d')]; rfl⟩
theorem kept_alloc {w w1 : World} {o : Obj} (x : Ext (w.alloc o) w1) : w1.heap[w.heap.size]? = some o := by
  have := x.block w.heap.size (by simp)
  rw [this]; exact heap_alloc_new w o

theorem ext_set4 {a w : World} {B : Nat} (h : Ext a w) (hb : a.heap.size ≤ B) (v0 v1 v2 v3 : Value) :
    Ext a ((((w.setCell ⟨B, 0, none⟩ v0).setCell ⟨B, 1, none⟩ v1).setCell ⟨B, 2, none⟩ v2).setCell ⟨B, 3, none⟩ v3) :=
  (((h.setCell (p := ⟨B, 0, none⟩) hb v0).setCell (p := ⟨B, 1, none⟩) hb v1).setCell (p := ⟨B, 2, none⟩) hb v2).setCell (p := ⟨B, 3, none⟩) hb v3

def tokV (t : Tok) : Value := .agg #[.int .i64 t.kind, .string ⟨t.text.toArray⟩, .int .i64 t.n, .int .i64 t.line]
def nextV (x : Tok × Nat × Int) : Value := .tuple #[tokV x.1, .int .i64 x.2.1, .int .i64 x.2.2]

set_option maxHeartbeats 4000000 in
theorem next_word (s : ByteArray) (w : World) (h0 : 0 < s.size) (hs : s.size ≤ 16384) (hn : 0 < wordN s.data.toList) :
    Calls Tryz.prog 20 #[.string s] w fun e w' => e = .returned (nextV (next s.data.toList)) ∧ Ext w w' := by
  obtain ⟨n, hN⟩ : ∃ n, n = wordN s.data.toList := ⟨_, rfl⟩
  have hle : n ≤ s.size := by rw [hN, size_len]; have := scan_le (okW s.data.toList) s.data.toList.length 0; unfold wordN; omega
  have hx : next s.data.toList = if kw (s.extract 0 n).data.toList then (⟨2, s.data.toList.take n, 0, 0⟩, n, 0) else if 16 < n then (⟨0, [], 0, 0⟩, 0, 2) else (⟨1, s.data.toList.take n, 0, 0⟩, n, 0) := by
    unfold next; rw [if_pos hn, ← hN, extract_upto]
  have hw := word_any s (by omega)
  rw [← hN] at hw hn
  have HW := Lib.hid hw; have HX := Lib.hid hx
  clear hw hx hN
  generalize next s.data.toList = NX at HX ⊢
  cases hk : kw (s.extract 0 n).data.toList
  · have HK := Lib.hid hk
    by_cases h16 : 16 < n
    · have hf : Hid (NX = (⟨0, [], 0, 0⟩, 0, 2)) := Lib.hid (by rw [HX.out, hk, if_pos h16]; rfl)
      clear HX hk
      go_enter Tryz.func20, Tryz.ntmps20
      go_wp2_with fail
      refine (HW.out _).mono ?_
      rintro e w1 ⟨rfl, rfl⟩
      go_wp2_with fail
      refine (isKeyword_any (s.extract 0 n) _).mono ?_
      rintro e w1 ⟨rfl, rfl⟩
      rw [HK.out]
      go_wp2
      go_returns
      exact ⟨ret_val (by rw [hf.out]; rfl), (Ext.refl _).alloc _⟩
    · have hf : Hid (NX = (⟨1, (s.extract 0 n).data.toList, 0, 0⟩, n, 0)) := Lib.hid (by rw [HX.out, hk, if_neg h16, extract_upto]; rfl)
      clear HX hk
      go_enter Tryz.func20, Tryz.ntmps20
      go_wp2_with fail
      refine (HW.out _).mono ?_
      rintro e w1 ⟨rfl, rfl⟩
      go_wp2_with fail
      refine (isKeyword_any (s.extract 0 n) _).mono ?_
      rintro e w1 ⟨rfl, rfl⟩
      rw [HK.out]
      go_wp2
      go_returns
      refine ⟨ret_val (by rw [hf.out]; rfl), ?_⟩
      exact (Ext.refl _).alloc _
  · have HK := Lib.hid hk
    have hf : Hid (NX = (⟨2, (s.extract 0 n).data.toList, 0, 0⟩, n, 0)) := Lib.hid (by rw [HX.out, hk, extract_upto]; rfl)
    clear HX hk
    go_enter Tryz.func20, Tryz.ntmps20
    go_wp2_with fail
    refine (HW.out _).mono ?_
    rintro e w1 ⟨rfl, rfl⟩
    go_wp2_with fail
    refine (isKeyword_any (s.extract 0 n) _).mono ?_
    rintro e w1 ⟨rfl, rfl⟩
    rw [HK.out]
    go_wp2
    go_returns
    refine ⟨ret_val (by rw [hf.out]; rfl), ?_⟩
    exact (Ext.refl _).alloc _
end Go.Proofs.YtfnbllchebohcaaGreatDoor.Lx
