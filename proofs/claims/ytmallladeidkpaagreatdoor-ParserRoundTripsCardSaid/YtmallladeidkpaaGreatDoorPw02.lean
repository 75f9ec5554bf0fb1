/- Packed texts: FixArith, FixWalkA, TreMem -/
import Derived.WalkKit
import Derived.Test.YtmallladeidkpaaGreatDoorRows
import Derived.Lib.Hide
import Derived.Below
import Derived.Deep.Draws
import Derived.Sort.Grow
import Derived.Lib.LaidTab
import Derived.Test.YtmallladeidkpaaGreatDoorPw01
set_option linter.unusedVariables false
set_option linter.unusedSimpArgs false
/- Plain arithmetic of the fixed-point layer: absolute values, rounded products and quotients, square roots; no program in sight. -/
namespace Go.Proofs.YtmallladeidkpaaGreatDoor.Fx

/-- The absolute value. -/
def ab (n : Int) : Int := if n < 0 then -n else n
theorem ab_nonneg (n : Int) : 0 ≤ ab n := by unfold ab; split <;> omega
theorem ab_le (n : Int) (h0 : -9223372036854775808 ≤ n) (h1 : n ≤ 9223372036854775807) : ab n ≤ 9223372036854775808 := by unfold ab; split <;> omega

/-- The number with its sign, or the error 16. -/
def sg (q : Int) (m : Bool) : Int × Int := if 268435456 < q then (0, 16) else (if m then -q else q, 0)
/-- Signs differ. -/
def opp (a b : Int) : Bool := decide (a < 0) != decide (b < 0)
/-- The product, rounded. -/
def mulR (a b : Int) : Int × Int := sg ((ab a * ab b + 500) / 1000) (opp a b)
/-- The quotient, rounded, of sizes. -/
def quoR (x y : Int) : Int := (x * 1000) / y + (if y ≤ 2 * ((x * 1000) % y) then 1 else 0)
def divR (a b : Int) : Int × Int := if b = 0 then (0, 1) else sg (quoR (ab a) (ab b)) (opp a b)

theorem sg_over {q : Int} (h : 268435456 < q) (m : Bool) : sg q m = (0, 16) := by unfold sg; rw [if_pos h]
theorem sg_in {q : Int} (h : q ≤ 268435456) (m : Bool) : sg q m = (if m then -q else q, 0) := by unfold sg; rw [if_neg (by omega)]

/-! ### Sqrt -/
theorem sq_lt {a b : Nat} (h : a * a < b * b) : a < b := by
  rcases Nat.lt_or_ge a b with h1 | h1
  · exact h1
  · exact absurd h (Nat.not_lt.2 (Nat.mul_le_mul h1 h1))
theorem sqrt_unique {n s t : Nat} (h1 : s * s ≤ n) (h2 : n < (s + 1) * (s + 1)) (h3 : t * t ≤ n) (h4 : n < (t + 1) * (t + 1)) : s = t := by
  have a := sq_lt (Nat.lt_of_le_of_lt h1 h4)
  have b := sq_lt (Nat.lt_of_le_of_lt h3 h2)
  omega

/-! ### Knuth's division of two words by one: what one of the two loops finds. B is 2^32. -/
/-- On exit the estimate is the digit. -/
theorem digit_eq {u1 u0 y1 y0 q r B : Int} (hB : 0 < B) (hy1 : 0 < y1) (hy0 : 0 ≤ y0) (h : q * y1 + r = u1) (hle : q * y0 ≤ B * r + u0) (hlt : u1 * B + u0 < (q + 1) * (y1 * B + y0)) :
    (u1 * B + u0) / (y1 * B + y0) = q ∧ u1 * B + u0 - q * (y1 * B + y0) = (u1 * B + u0) % (y1 * B + y0) := by
  have hd : 0 < y1 * B + y0 := by have := Int.mul_pos hy1 hB; omega
  have e : u1 * B + u0 - q * (y1 * B + y0) = B * r + u0 - q * y0 := by
    subst h; rw [Int.add_mul, Int.mul_add, Int.mul_comm r B, Int.mul_assoc q y1 B]; omega
  have e2 : (q + 1) * (y1 * B + y0) = q * (y1 * B + y0) + (y1 * B + y0) := by rw [Int.add_mul]; omega
  have lo : 0 ≤ u1 * B + u0 - q * (y1 * B + y0) := by omega
  have hi : u1 * B + u0 - q * (y1 * B + y0) < y1 * B + y0 := by omega
  have key : u1 * B + u0 = (y1 * B + y0) * q + (u1 * B + u0 - q * (y1 * B + y0)) := by rw [Int.mul_comm (y1 * B + y0) q]; omega
  constructor
  · rw [key, Int.add_comm ((y1 * B + y0) * q), Int.add_mul_ediv_left _ _ (Int.ne_of_gt hd), Int.ediv_eq_zero_of_lt]
    · omega
    · exact lo
    · exact hi
  · have h3 : (u1 * B + u0 - q * (y1 * B + y0) + (y1 * B + y0) * q) % (y1 * B + y0) = u1 * B + u0 - q * (y1 * B + y0) := by
      rw [Int.add_mul_emod_self_left]; exact Int.emod_eq_of_lt lo hi
    rw [Int.mul_comm (y1 * B + y0) q] at h3
    rw [← h3]; congr 1; omega
/-- The test says that the estimate is too great: it stays an upper bound one lower. -/
theorem digit_down {u1 u0 y1 y0 q r B : Int} (h : q * y1 + r = u1) (hgt : B * r + u0 < q * y0) : u1 * B + u0 < (q - 1 + 1) * (y1 * B + y0) ∧ (q - 1) * y1 + (r + y1) = u1 := by
  have e : u1 * B + u0 - q * (y1 * B + y0) = B * r + u0 - q * y0 := by
    subst h; rw [Int.add_mul, Int.mul_add, Int.mul_comm r B, Int.mul_assoc q y1 B]; omega
  refine ⟨?_, by rw [Int.sub_mul]; omega⟩
  rw [show q - 1 + 1 = q by omega]; omega
end Go.Proofs.YtmallladeidkpaaGreatDoor.Fx

/- What the small functions of the fixed-point layer return: size, signed, abs, Sqrt, and the document's twins. For every argument of the kinds. -/
namespace Go.Proofs.YtmallladeidkpaaGreatDoor.Fx
open Go.RowKit

/-- Nothing of what was there has turned. -/
def Ext (w w' : World) : Prop := Below w.heap.size w w'
theorem Ext.refl (w : World) : Ext w w := Below.refl _ _
theorem Ext.trans {a b c : World} (h : Ext a b) (k : Ext b c) : Ext a c := Below.trans h (Below.mono k (Below.size h))
theorem Ext.drew {a w : World} (h : Ext a w) : Ext a w.drew := Below.drew h
theorem Ext.drewN {a w : World} (h : Ext a w) : ∀ n, Ext a (w.drewN n)
  | 0 => by rw [World.drewN_zero]; exact h
  | n + 1 => ⟨h.os, h.tape, h.output, h.size, h.block⟩
theorem Ext.alloc {a w : World} (h : Ext a w) (o : Obj) : Ext a (w.alloc o) := Below.alloc h (Below.size h) o
theorem Ext.setCell {a w : World} (h : Ext a w) {p : Addr} (hp : a.heap.size ≤ p.block) (u : Value) : Ext a (w.setCell p u) := Below.setCell h hp u
theorem Ext.grow {a w : World} (h : Ext a w) (os : Array Obj) : Ext a (Sort.grow w os) :=
  Ext.trans h ⟨rfl, rfl, rfl, by simp [Sort.grow], fun k hk => Sort.heap_grow_old w os hk⟩
theorem Ext.cell {w w' : World} (h : Ext w w') {p : Addr} {v : Value} (hv : w.cell? p = some v) : w'.cell? p = some v := by
  have hb : p.block < w.heap.size := by
    rcases Nat.lt_or_ge p.block w.heap.size with h1 | h1
    · exact h1
    · exfalso; unfold World.cell? at hv; rw [Array.getElem?_eq_none h1] at hv; cases hv
  rw [Below.cell h hb]; exact hv
theorem Ext.tab {P : Program} {w w' : World} {n : String} {k : IntKind} {zs : List Int} (h : Ext w w') (ht : Lib.TabIs P w n k zs) : Lib.TabIs P w' n k zs := by
  unfold Lib.TabIs World.var? at *
  cases hg : P.globalNamed n with
  | none => simp [hg] at ht
  | some g =>
    simp only [hg, Option.bind_some] at ht ⊢
    have hlt : g < w.heap.size := by
      rcases Nat.lt_or_ge g w.heap.size with h' | h'
      · exact h'
      · rw [Array.getElem?_eq_none h'] at ht; simp at ht
    rw [Below.block h g hlt]
    exact ht

theorem ret_int {k : IntKind} {a b : Int} (h : a = b) : Ending.returned (.int k a) = .returned (.int k b) := by rw [h]

theorem ret_pair {k k' : IntKind} {a b c d : Int} (h : a = b) (h' : c = d) : Ending.returned (.tuple #[.int k a, .int k' c]) = .returned (.tuple #[.int k b, .int k' d]) := by rw [h, h']

theorem size_any (n : Int) (w : World) (h0 : -9223372036854775808 ≤ n) (h1 : n ≤ 9223372036854775807) :
    Calls Tryz.prog 73 #[.int .i64 n] w fun e w' => e = .returned (.int .u64 (ab n)) ∧ w = w' := by
  by_cases h : n < 0
  · go_enter Tryz.func73, Tryz.ntmps73
    go_wp2
    go_ret
    refine ⟨ret_int ?_, rfl⟩
    unfold ab; rw [if_pos h]
    simp only [IntKind.wrap_u64]; omega
  · go_enter Tryz.func73, Tryz.ntmps73
    go_wp2
    go_ret
    refine ⟨ret_int ?_, rfl⟩
    unfold ab; rw [if_neg (by omega)]



end Go.Proofs.YtmallladeidkpaaGreatDoor.Fx

/- Trees of statements in memory. -/
namespace Go.Proofs.YtmallladeidkpaaGreatDoor.Tr
open Go.RowKit Go.Lib Fx Lx

/-- A list of pairs of texts (references, attributes) behind a slice, below block n. -/
def TwoAt (n : Nat) (w : World) (a : Option Addr) (L : List Two) : Prop :=
  ∀ k (h : k < L.length), ∃ g o, a = some ⟨g, o, none⟩ ∧ g < n ∧ w.cell? ⟨g, o + k * 2, none⟩ = some (.string L[k].1) ∧ w.cell? ⟨g, o + k * 2 + 1, none⟩ = some (.string L[k].2)
theorem TwoAt.below {n : Nat} {w w' : World} {a : Option Addr} {L : List Two} (h : TwoAt n w a L) (x : Below n w w') : TwoAt n w' a L := fun k hk => by
  obtain ⟨g, o, ha, hg, h0, h1⟩ := h k hk
  exact ⟨g, o, ha, hg, (x.cell (p := ⟨g, o + k * 2, none⟩) hg).trans h0, (x.cell (p := ⟨g, o + k * 2 + 1, none⟩) hg).trans h1⟩
theorem TwoAt.mono {n m : Nat} {w : World} {a : Option Addr} {L : List Two} (h : TwoAt n w a L) (hm : n ≤ m) : TwoAt m w a L := fun k hk => by
  obtain ⟨g, o, ha, hg, r⟩ := h k hk
  exact ⟨g, o, ha, by omega, r⟩
theorem TwoAt.take {n : Nat} {w : World} {a : Option Addr} {L : List Two} (h : TwoAt n w a L) (i : Nat) : TwoAt n w a (L.take i) := fun k hk => by
  have hk' : k < L.length := by simp at hk; omega
  obtain ⟨g, o, ha, hg, r⟩ := h k hk'
  rw [List.getElem_take]
  exact ⟨g, o, ha, hg, r⟩
mutual
/-- The five cells of a statement, and what they lead to, below block n. -/
def StmAt (n : Nat) (w : World) (g o : Nat) : Stm → Prop
  | .mk k nm rs al body => ∃ r rc a ac b bc, w.cell? ⟨g, o, none⟩ = some (.int .i64 k) ∧ w.cell? ⟨g, o + 1, none⟩ = some (.string nm) ∧
      w.cell? ⟨g, o + 2, none⟩ = some (.slice r rs.length rc) ∧ w.cell? ⟨g, o + 3, none⟩ = some (.slice a al.length ac) ∧ w.cell? ⟨g, o + 4, none⟩ = some (.slice b body.length bc) ∧
      TwoAt n w r rs ∧ TwoAt n w a al ∧ StmsAt n w b body ∧ rs.length ≤ rc ∧ al.length ≤ ac ∧ rc ≤ maxLen ∧ ac ≤ maxLen ∧ body.length ≤ maxLen
/-- A list of statements behind a slice. -/
def StmsAt (n : Nat) (w : World) (b : Option Addr) : List Stm → Prop
  | [] => True
  | x :: r => ∃ g o, b = some ⟨g, o, none⟩ ∧ g < n ∧ StmAt n w g o x ∧ StmsAt n w (some ⟨g, o + 5, none⟩) r
end
theorem stmAt_eq (n : Nat) (w : World) (g o : Nat) (x : Stm) : StmAt n w g o x ↔ ∃ r rc a ac b bc, w.cell? ⟨g, o, none⟩ = some (.int .i64 x.kind) ∧ w.cell? ⟨g, o + 1, none⟩ = some (.string x.name) ∧
      w.cell? ⟨g, o + 2, none⟩ = some (.slice r x.refs.length rc) ∧ w.cell? ⟨g, o + 3, none⟩ = some (.slice a x.attrs.length ac) ∧ w.cell? ⟨g, o + 4, none⟩ = some (.slice b x.body.length bc) ∧
      TwoAt n w r x.refs ∧ TwoAt n w a x.attrs ∧ StmsAt n w b x.body ∧ x.refs.length ≤ rc ∧ x.attrs.length ≤ ac ∧ rc ≤ maxLen ∧ ac ≤ maxLen ∧ x.body.length ≤ maxLen := by
  cases x; rw [StmAt]; rfl
theorem stmsAt_cons (n : Nat) (w : World) (b : Option Addr) (x : Stm) (r : List Stm) : StmsAt n w b (x :: r) ↔ ∃ g o, b = some ⟨g, o, none⟩ ∧ g < n ∧ StmAt n w g o x ∧ StmsAt n w (some ⟨g, o + 5, none⟩) r := by rw [StmsAt]
mutual
theorem StmAt.below {n : Nat} {w w' : World} (x : Below n w w') : ∀ {g o : Nat} (s : Stm), g < n → StmAt n w g o s → StmAt n w' g o s
  | g, o, .mk k nm rs al body, hg, h => by
    rw [StmAt] at h ⊢
    obtain ⟨r, rc, a, ac, b, bc, h0, h1, h2, h3, h4, hr, ha, hb, hl⟩ := h
    exact ⟨r, rc, a, ac, b, bc, (x.cell (p := ⟨g, o, none⟩) hg).trans h0, (x.cell (p := ⟨g, o + 1, none⟩) hg).trans h1, (x.cell (p := ⟨g, o + 2, none⟩) hg).trans h2, (x.cell (p := ⟨g, o + 3, none⟩) hg).trans h3, (x.cell (p := ⟨g, o + 4, none⟩) hg).trans h4, hr.below x, ha.below x, StmsAt.below x body hb, hl⟩
theorem StmsAt.below {n : Nat} {w w' : World} (x : Below n w w') : ∀ {b : Option Addr} (L : List Stm), StmsAt n w b L → StmsAt n w' b L
  | _, [], _ => by rw [StmsAt]; trivial
  | b, s :: r, h => by
    rw [StmsAt] at h ⊢
    obtain ⟨g, o, hb, hg, hs, hr⟩ := h
    exact ⟨g, o, hb, hg, StmAt.below x s hg hs, StmsAt.below x r hr⟩
end
mutual
theorem StmAt.mono {n m : Nat} {w : World} (hm : n ≤ m) : ∀ {g o : Nat} (s : Stm), StmAt n w g o s → StmAt m w g o s
  | g, o, .mk k nm rs al body, h => by
    rw [StmAt] at h ⊢
    obtain ⟨r, rc, a, ac, b, bc, h0, h1, h2, h3, h4, hr, ha, hb, hl⟩ := h
    exact ⟨r, rc, a, ac, b, bc, h0, h1, h2, h3, h4, hr.mono hm, ha.mono hm, StmsAt.mono hm body hb, hl⟩
theorem StmsAt.mono {n m : Nat} {w : World} (hm : n ≤ m) : ∀ {b : Option Addr} (L : List Stm), StmsAt n w b L → StmsAt m w b L
  | _, [], _ => by rw [StmsAt]; trivial
  | b, s :: r, h => by
    rw [StmsAt] at h ⊢
    obtain ⟨g, o, hb, hg, hs, hr⟩ := h
    exact ⟨g, o, hb, by omega, StmAt.mono hm s hs, StmsAt.mono hm r hr⟩
end
/-- The statement at a place of the list. -/
theorem StmsAt.at {n : Nat} {w : World} : ∀ {b : Option Addr} (L : List Stm), StmsAt n w b L → ∀ k (hk : k < L.length), ∃ g o, b = some ⟨g, o, none⟩ ∧ g < n ∧ StmAt n w g (o + k * 5) L[k]
  | _, [], _, k, hk => absurd hk (by simp)
  | b, s :: r, h, 0, _ => by
    rw [StmsAt] at h
    obtain ⟨g, o, hb, hg, hs, _⟩ := h
    exact ⟨g, o, hb, hg, by rw [Nat.zero_mul, Nat.add_zero]; exact hs⟩
  | b, s :: r, h, k + 1, hk => by
    rw [StmsAt] at h
    obtain ⟨g, o, hb, hg, _, hr⟩ := h
    obtain ⟨g', o', hb', hg', hs'⟩ := StmsAt.at r hr k (by simpa using hk)
    injection hb' with hb'; injection hb' with e1 e2 _
    subst e1; subst e2
    refine ⟨g, o, hb, hg, ?_⟩
    rw [show o + (k + 1) * 5 = o + 5 + k * 5 by omega]
    exact hs'
/-- A list of statements is where each of its statements is. -/
theorem StmsAt.of {n : Nat} {w : World} : ∀ (g o : Nat) (L : List Stm), g < n → (∀ k (hk : k < L.length), StmAt n w g (o + k * 5) L[k]) → StmsAt n w (some ⟨g, o, none⟩) L
  | g, o, [], _, _ => by rw [StmsAt]; trivial
  | g, o, s :: r, hg, h => by
    rw [StmsAt]
    refine ⟨g, o, rfl, hg, (by have h0 := h 0 (Nat.zero_lt_succ _); rw [Nat.zero_mul, Nat.add_zero] at h0; exact h0), StmsAt.of g (o + 5) r hg fun k hk => ?_⟩
    have := h (k + 1) (by simpa using hk)
    rw [show o + 5 + k * 5 = o + (k + 1) * 5 by omega]
    exact this
end Go.Proofs.YtmallladeidkpaaGreatDoor.Tr
