/- What Join and the document's Join return. -/
import Derived.Test.YtfnbllchebohcaaGreatDoorJoinAt
namespace Go.Proofs.YtfnbllchebohcaaGreatDoor.Qo
open Go.RowKit Go.Lib Fx Lx

def joinP (L : List Tok) : List UInt8 × Int := if L.all (fun t => (Lx.written t).2) then (if 16384 < (joinT L).length then ([], 2) else (joinT L, 0)) else ([], 1)
def joinV (L : List Tok) : Value := .tuple #[.string ⟨(joinP L).1.toArray⟩, .int .i64 (joinP L).2]
theorem joinV_bad (L : List Tok) (k : Nat) (h : k < L.length) (hv : (Lx.written L[k]).2 = false) : joinV L = .tuple #[.string ⟨#[]⟩, .int .i64 1] := by
  unfold joinV joinP
  rw [List.all_eq_false.2 ⟨L[k], List.getElem_mem h, by simp [hv]⟩]; rfl
theorem all_of (L : List Tok) (h : ∀ j (hj : j < L.length), (Lx.written L[j]).2 = true) : L.all (fun t => (Lx.written t).2) = true := by
  rw [List.all_eq_true]
  intro t ht
  obtain ⟨j, hj, rfl⟩ := List.getElem_of_mem ht
  exact h j hj
theorem joinV_long (L : List Tok) (h : ∀ j (hj : j < L.length), (Lx.written L[j]).2 = true) (hl : 16384 < (joinT L).length) : joinV L = .tuple #[.string ⟨#[]⟩, .int .i64 2] := by
  unfold joinV joinP
  rw [all_of L h, if_pos rfl, if_pos hl]
theorem joinV_ok (L : List Tok) (h : ∀ j (hj : j < L.length), (Lx.written L[j]).2 = true) (hl : (joinT L).length ≤ 16384) : joinV L = .tuple #[.string ⟨(joinT L).toArray⟩, .int .i64 0] := by
  unfold joinV joinP
  rw [all_of L h, if_pos rfl, if_neg (by omega)]

set_option maxHeartbeats 8000000 in
set_option maxRecDepth 1000000 in
theorem join_any (a : Option Addr) (L : List Tok) (cap : Nat) (w : World) (h : TokIn w a L) (hw : ∀ t ∈ L, TokWf t) (hs : ∀ t ∈ L, t.text.length ≤ 200) (hn : L.length ≤ 200) (he : Env w) :
    Calls Tryz.prog 12 #[.slice a L.length cap] w fun e w' => e = .returned (joinV L) ∧ Ext w w' := by
  obtain ⟨N, hN⟩ : ∃ N, N = L.length := ⟨_, rfl⟩
  have HI := Lib.hid h; have HW := Lib.hid hw; have HS := Lib.hid hs; have HE := Lib.hid he
  rw [← hN] at hn ⊢
  have HN := Lib.hid hN
  clear h hw hN hs he
  go_enter Tryz.func12, Tryz.ntmps12
  go_wp2_with fail
  go_loopw [11] (fun i' wr => ∃ k : Nat, k ≤ N ∧ i' = .int .i64 k ∧ Lib.IsBuilderF 45 5 w.heap.size w.heap.size (Lib.byteCells (joinT (L.take k))) wr ∧ Ext w wr ∧ Hid (∀ j (hj : j < L.length), j < k → (Lx.written L[j]).2 = true)) (fun i' _ => N - (RowKit.intOf i').toNat)
  case atStart => exact ⟨0, by omega, rfl, Lib.IsBuilderF.of (Lib.fresh_isBuilder 45 5 w), (Ext.refl _).alloc _, Lib.hid (fun j _ h => absurd h (by omega))⟩
  case round =>
    obtain ⟨k, hk, rfl, hI, hx, hall⟩ := hrel
    have hsz := hx.size
    by_cases hlt : k < N
    · have hkl : k < L.length := by rw [← HN.out]; exact hlt
      obtain ⟨g, o, rfl, c0, c1, c2, c3⟩ := (HI.out.ext hx) k hkl
      obtain ⟨wf0, wf1, wf2⟩ := HW.out L[k] (List.getElem_mem hkl)
      have hwr := fun w he => written_any L[k] w wf0 wf1 wf2 he
      have hln := written_len L[k] ⟨wf0, wf1, wf2⟩ (HS.out L[k] (List.getElem_mem hkl))
      have hjl := joinT_len L HW.out HS.out k (by omega)
      have hjn := joinT_next L k hkl
      have hbad := joinV_bad L k hkl
      have hgood : (Lx.written L[k]).2 = true → ∀ j (hj : j < L.length), j < k + 1 → (Lx.written L[j]).2 = true := fun hv j hj h => by
        by_cases e : j = k
        · subst e; exact hv
        · exact hall.out j hj (by omega)
      unfold tokV' writtenV at hwr
      obtain ⟨X, ok, hX⟩ : ∃ X ok, Lx.written L[k] = (X, ok) := ⟨_, _, rfl⟩
      rw [hX] at hwr hln hjn hbad hgood
      generalize L[k].kind = kd at c0 hwr
      generalize L[k].n = tn at c2 hwr
      generalize L[k].line = tl at c3 hwr
      generalize (⟨L[k].text.toArray⟩ : ByteArray) = x at c1 hwr
      obtain ⟨Y, hY⟩ : ∃ Y : ByteArray, Y = ⟨X.toArray⟩ := ⟨_, rfl⟩
      have hYl : Y.data.toList = X := by rw [hY]
      have hYs : Y.size = X.length := by rw [hY]; exact size_mk X
      dsimp only at hwr hln hjn hbad hgood
      rw [← hY] at hwr
      have HWR := Lib.hid hwr; have HJN := Lib.hid hjn; have HBAD := Lib.hid hbad; have HG := Lib.hid hgood; have HYL := Lib.hid hYl; have HYS := Lib.hid hYs
      have hIa := hI.alloc (.cells #[.int .i64 kd, .string x, .int .i64 tn, .int .i64 tl] 31)
      have hxa := hx.alloc (.cells #[.int .i64 kd, .string x, .int .i64 tn, .int .i64 tl] 31)
      clear hX hwr hjn hbad hgood hY hYl hYs wf0 wf1 wf2
      go_wp2_with fail
      refine (HWR.out _ (HE.out.ext hxa)).mono ?_
      rintro e w1 ⟨rfl, x1⟩
      have hI1 := builder_ext hIa x1
      have hx1 := hxa.trans x1
      have hsz1 := hx1.size
      clear hI hIa
      cases ok
      · go_wp2_with fail
        go_returns
        exact ⟨ret_val (by rw [HBAD.out (by trivial)]; rfl), hx1⟩
      · by_cases h0 : k = 0
        · have g0 : ¬ (0 : Int) < (k : Int) := by omega
          go_wp2_with fail
          refine (writeString_any w.heap.size w.heap.size _ Y _ hI1 (by rw [Lib.byteCells_length, HYS.out]; omega) hsz1).mono ?_
          rintro e w2 ⟨rfl, hI2, b2, _⟩
          go_wp2_with fail
          go_roundw
          case rel =>
            refine ⟨k + 1, by omega, by go_num, ?_, Ext.trans' hx1 b2, Lib.hid (HG.out (by trivial))⟩
            rw [HJN.out, if_pos h0, List.nil_append, ← HYL.out, ← bytes_str]
            subst h0
            rw [show Lib.byteCells (joinT (L.take 0)) = [] from rfl, List.nil_append] at hI2
            exact hI2
          case measure => simp [RowKit.intOf]; omega
        · have g0 : (0 : Int) < (k : Int) := by omega
          go_wp2_with fail
          refine (writeByte_any w.heap.size w.heap.size _ 32 _ hI1 (by rw [Lib.byteCells_length]; omega) hsz1).mono ?_
          rintro e w2 ⟨rfl, hI2, b2, _⟩
          have hx2 := Ext.trans' hx1 b2
          have hsz2 := hx2.size
          go_wp2_with fail
          refine (writeString_any w.heap.size w.heap.size _ Y _ hI2 (by rw [List.length_append, Lib.byteCells_length, HYS.out]; simp; omega) hsz2).mono ?_
          rintro e w3 ⟨rfl, hI3, b3, _⟩
          go_wp2_with fail
          go_roundw
          case rel =>
            refine ⟨k + 1, by omega, by go_num, ?_, Ext.trans' hx2 b3, Lib.hid (HG.out (by trivial))⟩
            rw [HJN.out, if_neg h0, ← HYL.out, Lib.byteCells_append, Lib.byteCells_append, ← bytes_str]
            exact hI3
          case measure => simp [RowKit.intOf]; omega
    · obtain rfl : k = N := by omega
      have hgood : ∀ j (hj : j < L.length), (Lx.written L[j]).2 = true := fun j hj => hall.out j hj (by rw [HN.out]; exact hj)
      have hI' : Lib.IsBuilderF 45 5 w.heap.size w.heap.size (Lib.byteCells (joinT L)) wr := by
        have e : L.take k = L := List.take_of_length_le (by rw [HN.out]; exact Nat.le_refl _)
        rw [e] at hI; exact hI
      have hl := joinV_long L hgood
      have hok := joinV_ok L hgood
      have hjl := joinT_len L HW.out HS.out L.length (Nat.le_refl _)
      rw [List.take_length, ← HN.out] at hjl
      generalize joinT L = J at hI' hl hok hjl
      have HL := Lib.hid hl; have HOK := Lib.hid hok
      clear hI hall hgood hl hok
      go_wp2_with fail
      refine (Tryz.Builder_Len_f w.heap.size w.heap.size _ _ hI').mono ?_
      rintro e w2 ⟨rfl, rfl⟩
      rw [show ((Lib.byteCells J).length : Int) = (J.length : Int) by rw [Lib.byteCells_length]]
      by_cases hbig : 16384 < J.length
      · have g0 : (16384 : Int) < (J.length : Int) := by omega
        go_wp2_with fail
        go_returns
        exact ⟨ret_val (by rw [HL.out hbig]; rfl), hx⟩
      · have g0 : ¬ (16384 : Int) < (J.length : Int) := by omega
        go_wp2_with fail
        refine (Tryz.Builder_String_any_k w.heap.size w.heap.size J _ hI' hsz).mono ?_
        rintro e w3 ⟨rfl, _, b3, _⟩
        go_wp2_with fail
        go_returns
        exact ⟨ret_val (by rw [HOK.out (by omega)]; rfl), Ext.trans' hx b3⟩
end Go.Proofs.YtfnbllchebohcaaGreatDoor.Qo
