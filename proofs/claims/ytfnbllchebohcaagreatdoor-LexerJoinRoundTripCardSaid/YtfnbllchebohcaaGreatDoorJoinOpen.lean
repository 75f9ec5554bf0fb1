/- An argument that is a list of tokens, opened. -/
import Derived.Test.YtfnbllchebohcaaGreatDoorJoinLaw
import Derived.ProofKit
import Derived.Deep.Slices
import Derived.OpenShut
namespace Go.Proofs.YtfnbllchebohcaaGreatDoor.Qo
open Go.RowKit Go.Lib Fx Lx Go.ChangeShapes Go.WideShapes Go.Deep

theorem cI : Tryz.prog.cellsOf 3 = 1 := by kernel_rfl
theorem cS : Tryz.prog.cellsOf 9 = 1 := by kernel_rfl
theorem cT : Tryz.prog.cellsOf 31 = 4 := by kernel_rfl
theorem add_off (g o k j : Nat) : ((⟨g, o, none⟩ : Addr).add (k * 4)).add j = ⟨g, o + k * 4 + j, none⟩ := by
  simp only [Addr.add]
  by_cases h1 : k * 4 = 0
  · rw [h1]; by_cases h2 : j = 0 <;> simp [h2]
  · by_cases h2 : j = 0 <;> simp [h1, h2]
theorem wf_i64 {n : Int} (h : (Lit.int .i64 n).wf = true) : -9223372036854775808 ≤ n ∧ n ≤ 9223372036854775807 := bounds_i64 h

set_option maxRecDepth 100000 in
theorem open_tok {H : Type} {enc : TypeId × Value → H} {W : World} {base : Nat} {sp : Nat → Bool} {held : Bool} {n : Nat} {cs : List Value} {x : DataW H × List MemPlace}
    (h : DataW.trod enc Tryz.prog W base sp held n 31 cs = some x) : ∃ (k m l : Int) (s : ByteArray), cs = [.int .i64 k, .string s, .int .i64 m, .int .i64 l] ∧ s.size ≤ maxLen ∧ -9223372036854775808 ≤ m ∧ m ≤ 9223372036854775807 := by
  obtain ⟨xs, n', _, _, hlen, hxl, hg⟩ := DataW.trod_struct Tryz.underlying31 h
  rw [cT] at hlen
  have hxl4 : xs.length = 4 := hxl
  clear hxl
  match cs, hlen with
  | [a, b, c, d], _ =>
    obtain ⟨y0, y1, y2, y3, rfl⟩ : ∃ y0 y1 y2 y3, xs = [y0, y1, y2, y3] := by
      match xs, hxl4 with
      | [y0, y1, y2, y3], _ => exact ⟨y0, y1, y2, y3, rfl⟩
    have h0 : DataW.trod enc Tryz.prog W base sp held n' 3 [a] = some y0 := by simpa [cI] using hg 0 _ rfl
    have h1 : DataW.trod enc Tryz.prog W base sp held n' 9 [b] = some y1 := by simpa [cS] using hg 1 _ rfl
    have h2 : DataW.trod enc Tryz.prog W base sp held n' 3 [c] = some y2 := by simpa [cI] using hg 2 _ rfl
    have h3 : DataW.trod enc Tryz.prog W base sp held n' 3 [d] = some y3 := by simpa [cI] using hg 3 _ rfl
    obtain ⟨k, e0, _, _⟩ := DataW.trod_int Tryz.underlying3 h0
    obtain ⟨s, e1, _, hs⟩ := DataW.trod_string Tryz.underlying9 h1
    obtain ⟨m, e2, _, w2⟩ := DataW.trod_int Tryz.underlying3 h2
    obtain ⟨l, e3, _, _⟩ := DataW.trod_int Tryz.underlying3 h3
    simp only [List.cons.injEq, and_true] at e0 e1 e2 e3
    subst e0; subst e1; subst e2; subst e3
    exact ⟨k, m, l, s, rfl, hs, wf_i64 w2⟩

instance : Inhabited Tok := ⟨⟨0, [], 0, 0⟩⟩
theorem open_toks {H : Type} {enc : TypeId × Value → H} {W : World} {base : Nat} {sp : Nat → Bool} {held : Bool} {fuel : Nat} {cs : List Value} {x : DataW H × List MemPlace}
    (h : DataW.trod enc Tryz.prog W base sp held fuel 26 cs = some x) : ∃ (a : Option Addr) (L : List Tok) (cap : Nat), cs = [.slice a L.length cap] ∧ TokIn W a L ∧ (∀ t ∈ L, TokWf t) ∧ L.length ≤ maxLen := by
  rcases open_slice Tryz.underlying26 h with ⟨rfl, _⟩ | ⟨a, len, cap, m, n, D, Pl, rfl, _, hl, hm, hmm, _, hx⟩
  · exact ⟨none, [], 0, rfl, fun k h => absurd h (Nat.not_lt_zero _), (fun t ht => by cases ht), Nat.zero_le _⟩
  · have hlm : len ≤ m := by rw [hmm]; split <;> omega
    rw [cT] at hx
    have hone : ∀ i, i < len → ∃ t : Tok, TokWf t ∧ ∃ g o, a = ⟨g, o, none⟩ ∧ W.cell? ⟨g, o + i * 4, none⟩ = some (.int .i64 t.kind) ∧ W.cell? ⟨g, o + i * 4 + 1, none⟩ = some (.string ⟨t.text.toArray⟩) ∧
        W.cell? ⟨g, o + i * 4 + 2, none⟩ = some (.int .i64 t.n) ∧ W.cell? ⟨g, o + i * 4 + 3, none⟩ = some (.int .i64 t.line) := fun i hi => by
      obtain ⟨cs', h1, h2⟩ := hx i (by omega)
      obtain ⟨k, m, l, s, rfl, hs, w1, w2⟩ := open_tok h2
      obtain ⟨_, _, hc⟩ := World.cells?_some h1
      have c0 := hc 0 (by omega); have c1 := hc 1 (by omega); have c2 := hc 2 (by omega); have c3 := hc 3 (by omega)
      obtain ⟨g, o, spot⟩ := a
      have hspot : spot = none := by
        obtain ⟨cs0, q1, q2⟩ := hx 0 (by omega)
        obtain ⟨k0, m0, l0, s0, rfl, _⟩ := open_tok q2
        obtain ⟨_, _, hc0⟩ := World.cells?_some q1
        have h := World.cell?_spot (show W.cell? _ = some (.int .i64 k0) from hc0 0 (by omega))
        simpa [Addr.add] using h
      subst hspot
      rw [add_off] at c0 c1 c2 c3
      refine ⟨⟨k, s.data.toList, m, l⟩, ⟨?_, w1, w2⟩, g, o, rfl, c0, ?_, c2, c3⟩
      · rw [← size_len]; exact hs
      · rw [mk_data']; exact c1
    obtain ⟨F, hF⟩ := choose_lt (α := Tok) hone
    refine ⟨some a, (List.range len).map F, cap, by simp, ?_, ?_, by simp; omega⟩
    · intro k hk
      have hk' : k < len := by simpa using hk
      obtain ⟨_, g, o, rfl, r⟩ := hF k hk'
      exact ⟨g, o, rfl, by simpa using r⟩
    · intro t ht
      obtain ⟨i, hi, rfl⟩ := List.mem_map.1 ht
      exact (hF i (List.mem_range.1 hi)).1
/-- What the walks take of an argument that is a list of tokens. -/
def ToksArg (w : World) (v : Value) : Prop := ∃ a L cap, v = .slice a (List.length L) cap ∧ TokIn w a L ∧ (∀ t ∈ L, TokWf t) ∧ L.length ≤ maxLen
set_option maxRecDepth 100000 in
theorem toks_arg {H : Type} {enc : TypeId × Value → H} {W : World} {r : Reach} {b base : Nat} {sp : Nat → Bool} {held : Bool} {v : Value} {d : DataW H} {p : List MemPlace}
    (hv : Value.okWide Tryz.prog W r b 26 v) (h : DataW.Trod enc Tryz.prog W base sp held 26 v d p) : ToksArg W v := by
  obtain ⟨a0, len, cap, rfl⟩ := okWide_slice Tryz.underlying26 hv
  obtain ⟨fuel, hf⟩ := h
  obtain ⟨a, L, c, hc, r⟩ := open_toks hf
  have e : Value.slice a0 len cap = .slice a L.length c := by simpa [Value.cells] using hc
  exact ⟨a, L, c, e, r⟩
set_option maxRecDepth 100000 in
theorem joins_card (v : Value) (w : World) (h : ToksArg w v) (he : Env w) :
    Calls Tryz.prog 4 #[v] w fun e w' => e = .returned (.bool true) ∧ Ext w w' := by
  obtain ⟨a, L, cap, rfl, h1, h2, h3⟩ := h
  unfold maxLen at h3
  exact joins_walk a L cap w h1 h2 h3 he
end Go.Proofs.YtfnbllchebohcaaGreatDoor.Qo
