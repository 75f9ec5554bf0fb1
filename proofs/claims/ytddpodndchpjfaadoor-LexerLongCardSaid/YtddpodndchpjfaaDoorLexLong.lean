/- The walk of LexerLong. -/
import Derived.Test.YtddpodndchpjfaaDoorLexAwake
import Derived.Test.YtddpodndchpjfaaDoorLexLaw
import Derived.Laws.IdiomStrings
namespace Go.Proofs.YtddpodndchpjfaaDoor.Lx
open Go.RowKit Go.Sort Go.Lib Go.Shelf Fx

/-- The row of bytes, of which the first k are blanks. -/
def FillI (g N k : Nat) (w : World) : Prop := ∃ cur : Array Value, w.heap[g]? = some (.cells cur 5 (0, 0)) ∧ cur.size = N ∧ ∀ j, j < k → cur[j]? = some (.int .u8 32)
theorem FillI.step {g N k : Nat} {w : World} (h : FillI g N k w) (hk : k < N) : FillI g N (k + 1) (w.setCell ⟨g, k, none⟩ (.int .u8 32)) := by
  obtain ⟨cur, h1, h2, h3⟩ := h
  refine ⟨cur.setIfInBounds k (.int .u8 32), set1 h1 k _, by simp [h2], fun j hj => ?_⟩
  by_cases e : j = k
  · subst e; simp [h2, hk]
  · rw [Array.getElem?_setIfInBounds_ne (fun x => e x.symm)]; exact h3 j (by omega)
theorem FillI.there {g N k : Nat} {w : World} (h : FillI g N k w) (hk : k < N) : (∃ v, w.cell? ⟨g, k, none⟩ = some v) ∧ w.frozen? ⟨g, k, none⟩ = false := by
  obtain ⟨cur, h1, h2, h3⟩ := h
  refine ⟨⟨cur[k]'(by omega), ?_⟩, Lib.frozen_of_heap h1 k⟩
  rw [Lib.cell_of_heap h1]; exact Array.getElem?_eq_getElem (by omega)
theorem FillI.text {g N : Nat} {w : World} (h : FillI g N N w) : (convert 29 9 (.slice (some ⟨g, 0, none⟩) N N)).run Tryd.prog w = .ok (.string ⟨(List.replicate N (32 : UInt8)).toArray⟩) w := by
  obtain ⟨cur, h1, h2, h3⟩ := h
  have := run_convert_bytes_back (P := Tryd.prog) w 29 9 5 ⟨g, 0, none⟩ N (List.replicate N (32 : UInt8)) Tryd.underlying29 Tryd.underlying5 Tryd.underlying9 (fun j hj => by
    have e : (⟨g, 0, none⟩ : Addr).add j = ⟨g, j, none⟩ := by simp [Addr.add]; exact fun h => h.symm
    rw [e, Lib.cell_of_heap h1, h3 j (by simpa using hj)]
    simp)
  rw [List.length_replicate] at this
  exact this

theorem long_res (N : Nat) (x : Int) (hN : (N : Int) = 16384 + x) (h0 : 0 ≤ x) : tokenize (List.replicate N 32) = ([], 0, if 0 < x then 2 else 0) := by
  unfold tokenize
  rw [List.length_replicate]
  by_cases h : 0 < x
  · rw [if_pos (by omega), if_pos h]
  · rw [if_neg (by omega), if_neg h, tokz_blanks]
theorem own_nil {w : World} {B : Nat} {e : TypeId} {v : Value} {size : Nat} {xs : List Value} (h : w.ownsRow B e size v 0 xs) : ∃ a c, v = .slice a 0 c := by
  rcases h.2 with ⟨h1, _⟩ | ⟨g, cap, cur, hv, _⟩
  · exact ⟨_, _, h1⟩
  · exact ⟨_, _, hv⟩

set_option maxHeartbeats 4000000 in
set_option maxRecDepth 1000000 in
theorem long_walk (x : Int) (w : World) (wx : (Lit.int .u8 x).wf = true) (he : Env w) :
    Calls Tryd.prog 5 #[.int .u8 x] w fun e w' => e = .returned (.bool true) ∧ Ext w w' := by
  obtain ⟨x0, x1⟩ := bounds_u8 wx
  obtain ⟨N, hN⟩ : ∃ N : Nat, (N : Int) = 16384 + x := ⟨(16384 + x).toNat, by omega⟩
  have hres := long_res N x hN x0
  have HE := Lib.hid he; have HRES := Lib.hid hres
  clear he hres wx
  obtain ⟨i0, hi, hz0, hz1, hz2⟩ := info_parts Tryd.Builder_Extra_169.infoByte
  go_enter Tryd.func5, Tryd.ntmps5
  go_wp2_with (at_make; refine wpList_make_full _ rfl _ _ 29 rfl w.heap.size 5 i0 (.int .u8 0) 1 Tryd.underlying29 hi hz0 hz1 .i64 .i64 _ _ N rfl rfl (by first | exact hN.symm | omega) (by first | exact hN.symm | omega) (by rw [hz2]; omega) (by unfold maxLen; omega) (Nat.le_refl _) ?_; intro w0 hown0 hgrow0)
  have hx0 : Ext w w0 := Below.grown (Ext.refl w) hgrow0 (Nat.le_refl _) (by simp)
  have hf0 : FillI w.heap.size N 0 w0 := by
    rcases hown0.2 with ⟨h, _⟩ | ⟨g, cap, cur, hv, _, hg, _, _, hcs, _⟩
    · cases h
    · injection hv with h1 h2 h3
      injection h1 with h1
      injection h1 with h1
      subst h1; subst h3
      exact ⟨cur, hg, by omega, fun j hj => by omega⟩
  clear hown0 hgrow0
  go_wp2_with fail
  go_loopw [4] (fun i wr => ∃ k : Nat, k ≤ N ∧ i = .int .i64 k ∧ FillI w.heap.size N k wr ∧ Ext w wr) (fun i _ => N - (RowKit.intOf i).toNat)
  case atStart => exact ⟨0, by omega, rfl, hf0, hx0⟩
  case round =>
    obtain ⟨k, hk, rfl, hfi, hx⟩ := hrel
    clear hf0 hx0
    by_cases hlt : k < N
    · obtain ⟨⟨v, hv⟩, hz⟩ := hfi.there hlt
      have hst := hfi.step hlt
      have hlt' : (k : Int) < (N : Int) := by omega
      clear hfi
      go_wp2
      go_roundw
      case rel => exact ⟨k + 1, by omega, by go_num, hst, hx.setCell (p := ⟨w.heap.size, k, none⟩) (Nat.le_refl _) _⟩
      case measure => simp [RowKit.intOf]; omega
    · obtain rfl : k = N := by omega
      have hcv := hfi.text
      have htk := tokenize_any ⟨(List.replicate k (32 : UInt8)).toArray⟩ wr (by rw [size_mk, List.length_replicate]; omega) (HE.out.ext hx)
      rw [show (⟨(List.replicate k (32 : UInt8)).toArray⟩ : ByteArray).data.toList = List.replicate k 32 from rfl, HRES.out] at htk
      generalize (⟨(List.replicate k (32 : UInt8)).toArray⟩ : ByteArray) = S at hcv htk
      have HTK := Lib.hid htk
      clear hfi htk HRES
      by_cases hpos : 0 < x
      · go_wp2_with fail
        refine HTK.out.mono ?_
        rintro e w1 ⟨⟨v, rfl, hown⟩, x1'⟩
        rw [if_pos hpos] at hown ⊢
        obtain ⟨a, c, rfl⟩ := own_nil hown
        clear hown hcv HTK
        go_wp2_with (go_at_call 11; refine (awake_any _ (HE.out.ext (hx.trans x1'))).mono ?_; rintro e w2 ⟨rfl, x2⟩)
        go_ret
        exact ⟨rfl, (hx.trans x1').trans x2⟩
      · obtain rfl : x = 0 := by omega
        go_wp2_with fail
        refine HTK.out.mono ?_
        rintro e w1 ⟨⟨v, rfl, hown⟩, x1'⟩
        rw [if_neg (by omega)] at hown ⊢
        obtain ⟨a, c, rfl⟩ := own_nil hown
        clear hown hcv HTK
        go_wp2_with (go_at_call 11; refine (awake_any _ (HE.out.ext (hx.trans x1'))).mono ?_; rintro e w2 ⟨rfl, x2⟩)
        go_ret
        exact ⟨rfl, (hx.trans x1').trans x2⟩
end Go.Proofs.YtddpodndchpjfaaDoor.Lx
