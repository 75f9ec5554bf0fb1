/- Packed texts: FixText, FixFmt, FixFormat -/
import Derived.Lib.ItoaNum
import Derived.Lib.IndexMore
import Derived.Lib.IndexLaws
import Derived.Lib.TrimByte
import Derived.Lib.Strings
import Derived.Test.YtmallladeidkpaaGreatDoorRows
import Derived.Test.YtmallladeidkpaaGreatDoorPv01
import Derived.Test.YtmallladeidkpaaGreatDoorShelf
import Derived.WalkKit
import Derived.Lib.Hide
import Derived.Lib.Walk
import Derived.Lib.ItoaMem
import Derived.Lib.ItoaLen
import Derived.BigCall
import Derived.BigGuard
set_option linter.unusedVariables false
set_option linter.unusedSimpArgs false
/- The texts of the fixed-point layer as plain functions on lists of bytes: the program's Format and Parse, the document's, and that they are one; no program in sight. -/
namespace Go.Proofs.YtmallladeidkpaaGreatDoor.Fx
open Go.Lib

/-- A decimal digit. -/
def isD (b : UInt8) : Bool := decide (48 ≤ b.toNat ∧ b.toNat ≤ 57)
/-- One or more digits. -/
def digs (l : List UInt8) : Bool := l.all isD && !l.isEmpty

/-- The three digits behind the point, without the noughts at the end. -/
def fracT (r : Nat) : List UInt8 := trimRightB ((decDigits (1000 + r)).drop 1) 48
/-- The text of a number's size. -/
def fmtU (u : Nat) : List UInt8 := decDigits (u / 1000) ++ (if 0 < u % 1000 then 46 :: fracT (u % 1000) else [])
/-- Format. -/
def fmt (n : Int) : List UInt8 := if n < 0 then 45 :: fmtU n.natAbs else fmtU n.natAbs

/-- The value of digits behind a value. -/
def valF (acc : Nat) (l : List UInt8) : Nat := l.foldl (fun a b => 10 * a + (b.toNat - 48)) acc

/-- What the program's Parse does with the parts. -/
def parse3 (minus point : Bool) (whole frac : List UInt8) : Int × Int :=
  if !digs whole || (decide (1 < whole.length) && whole[0]?.getD 0 == 48) then (0, 4)
  else if point && (!digs frac || decide (3 < frac.length) || frac[frac.length - 1]?.getD 0 == 48) then (0, 4)
  else if minus && !point && whole == [48] then (0, 4)
  else if 9 < whole.length then (0, 16)
  else if 268435456 < valF 0 (whole ++ (frac ++ [48, 48, 48]).take 3) then (0, 16)
  else (if minus then -(valF 0 (whole ++ (frac ++ [48, 48, 48]).take 3) : Int) else valF 0 (whole ++ (frac ++ [48, 48, 48]).take 3), 0)
/-- The text before the first point, behind it, and whether there is one. -/
def splitDot : List UInt8 → List UInt8 × List UInt8 × Bool
  | [] => ([], [], false)
  | b :: r => if b == 46 then ([], r, true) else (b :: (splitDot r).1, (splitDot r).2)
/-- Parse. -/
def parse (s : List UInt8) : Int × Int :=
  parse3 (hasPrefix s [45]) (splitDot (trimPrefix s [45])).2.2 (splitDot (trimPrefix s [45])).1 (splitDot (trimPrefix s [45])).2.1

/-- The library's Cut at a point is splitDot. -/
theorem cut_dot : ∀ s : List UInt8, cut s [46] = splitDot s
  | [] => by simp [cut, index, splitDot]
  | b :: r => by
    have ih := cut_dot r
    have hg := index_ge r [46]
    unfold cut at ih ⊢
    unfold splitDot index
    by_cases hb : b = 46
    · subst hb; simp [List.isPrefixOf]
    · have hb' : (b == 46) = false := by simpa using hb
      have hb2 : ((46 : UInt8) == b) = false := by simpa using fun h => hb h.symm
      simp only [List.isPrefixOf, hb2, Bool.false_and, Bool.false_eq_true, if_false, hb']
      rw [← ih]
      by_cases h1 : index r [46] = -1
      · simp [h1]
      · have h2 : (index r [46] == -1) = false := by simpa using h1
        have h3 : 0 ≤ index r [46] := by omega
        simp only [h2, Bool.false_eq_true, if_false, h3, if_true]
        rw [if_pos (by omega), show (index r [46] + 1).toNat = (index r [46]).toNat + 1 by omega]
        simp

/-! ### The document's Parse -/
def partOk (p : List UInt8) : Bool := decide (1 ≤ p.length) && decide (p.length ≤ 3) && !(p[p.length - 1]?.getD 0 == 48)
/-- 'form', of the parts: sign, is there a point, before and behind it. -/
def form3 (m pt : Bool) (w p : List UInt8) : Option (Bool × List UInt8 × List UInt8) :=
  if !(w.all isD && p.all isD) then none
  else if pt && !partOk p then none
  else if w.isEmpty || (decide (1 < w.length) && w[0]?.getD 0 == 48) || (m && w == [48] && p.isEmpty) then none
  else some (m, w, p)
def form (s : List UInt8) : Option (Bool × List UInt8 × List UInt8) :=
  form3 (hasPrefix s [45]) (splitDot (trimPrefix s [45])).2.2 (splitDot (trimPrefix s [45])).1 (splitDot (trimPrefix s [45])).2.1
/-- The loop over all digits: the value, or none behind the first that is too great. -/
def valL (acc : Nat) : List UInt8 → Option Nat
  | [] => some acc
  | b :: r => if 268435456 < 10 * acc + (b.toNat - 48) then none else valL (10 * acc + (b.toNat - 48)) r
def pad3 (p : List UInt8) : List UInt8 := p ++ List.replicate (3 - p.length) 48
def valR : Option (Bool × List UInt8 × List UInt8) → Int × Int
  | none => (0, 4)
  | some (m, w, p) => match valL 0 (w ++ pad3 p) with
    | none => (0, 16)
    | some n => (if m then -(n : Int) else n, 0)
def parseR (s : List UInt8) : Int × Int := valR (form s)

theorem valF_ge : ∀ (l : List UInt8) (a : Nat), a ≤ valF a l
  | [], a => Nat.le_refl _
  | b :: r, a => by
    have := valF_ge r (10 * a + (b.toNat - 48))
    show a ≤ valF (10 * a + (b.toNat - 48)) r
    omega
theorem valL_eq : ∀ (l : List UInt8) (a : Nat), a ≤ 268435456 → valL a l = if 268435456 < valF a l then none else some (valF a l)
  | [], a, h => by
    show some a = if 268435456 < a then none else some a
    rw [if_neg (by omega)]
  | b :: r, a, h => by
    show (if 268435456 < 10 * a + (b.toNat - 48) then none else valL (10 * a + (b.toNat - 48)) r) = if 268435456 < valF (10 * a + (b.toNat - 48)) r then none else some (valF (10 * a + (b.toNat - 48)) r)
    have := valF_ge r (10 * a + (b.toNat - 48))
    by_cases h1 : 268435456 < 10 * a + (b.toNat - 48)
    · rw [if_pos h1, if_pos (by omega)]
    · rw [if_neg h1]; exact valL_eq r _ (by omega)
theorem valF_pow : ∀ (l : List UInt8) (a : Nat), a * 10 ^ l.length ≤ valF a l
  | [], a => by simp [valF]
  | b :: r, a => by
    have := valF_pow r (10 * a + (b.toNat - 48))
    show a * 10 ^ (r.length + 1) ≤ valF (10 * a + (b.toNat - 48)) r
    refine Nat.le_trans ?_ this
    rw [Nat.pow_succ, ← Nat.mul_assoc, Nat.mul_right_comm, Nat.mul_comm a 10]
    exact Nat.mul_le_mul_right _ (by omega)
theorem take_pad (p : List UInt8) (h : p.length ≤ 3) : (p ++ [48, 48, 48]).take 3 = pad3 p := by
  unfold pad3
  rw [List.take_append, List.take_of_length_le h]
  congr 1
  have : p.length = 0 ∨ p.length = 1 ∨ p.length = 2 ∨ p.length = 3 := by omega
  rcases this with h | h | h | h <;> rw [h] <;> rfl
theorem splitDot_none (l : List UInt8) (h : (splitDot l).2.2 = false) : (splitDot l).2.1 = [] := by
  induction l with
  | nil => rfl
  | cons b r ih =>
    unfold splitDot at h ⊢
    split
    · rename_i hb; simp [hb] at h
    · rename_i hb; simp [hb] at h; exact ih h

theorem big_over (w q : List UInt8) (hd : w.all isD = true) (h9 : 9 < w.length) (h0 : w[0]?.getD 0 ≠ 48) : 268435456 < valF 0 (w ++ q) := by
  cases w with
  | nil => simp at h9
  | cons b r =>
    simp at h0
    simp [isD] at hd
    have hb : 1 ≤ b.toNat - 48 := by
      have : b.toNat ≠ 48 := fun e => h0 (UInt8.toNat_inj.1 (by simpa using e))
      have := hd.1
      omega
    have h2 := valF_pow (r ++ q) (10 * 0 + (b.toNat - 48))
    have h3 : 10 ^ 9 ≤ 10 ^ (r ++ q).length := Nat.pow_le_pow_right (by omega) (by simp at h9 ⊢; omega)
    have h4 : 1 * 10 ^ 9 ≤ (10 * 0 + (b.toNat - 48)) * 10 ^ (r ++ q).length := Nat.mul_le_mul (by omega) h3
    show 268435456 < valF (10 * 0 + (b.toNat - 48)) (r ++ q)
    omega

theorem parse3_eq (m pt : Bool) (w p : List UInt8) (hn : pt = false → p = []) : parse3 m pt w p = valR (form3 m pt w p) := by
  have fin : w.all isD = true → (9 < w.length → w[0]?.getD 0 ≠ 48) → ∀ q : List UInt8, (if 9 < w.length then ((0 : Int), (16 : Int)) else if 268435456 < valF 0 (w ++ q) then (0, 16) else (if m then -(valF 0 (w ++ q) : Int) else valF 0 (w ++ q), 0)) =
      match valL 0 (w ++ q) with | none => (0, 16) | some n => (if m then -(n : Int) else n, 0) := by
    intro hW hz9 q
    rw [valL_eq _ _ (by omega)]
    by_cases h9 : 9 < w.length
    · rw [if_pos h9, if_pos (big_over w q hW h9 (hz9 h9))]
    · rw [if_neg h9]
      by_cases hv : 268435456 < valF 0 (w ++ q)
      · rw [if_pos hv, if_pos hv]
      · rw [if_neg hv, if_neg hv]
  unfold parse3 form3 digs partOk
  cases hW : w.all isD
  · simp [valR]
  cases hE : w.isEmpty
  rotate_left
  · have : w = [] := by simpa using hE
    subst this
    by_cases h1 : p.all isD <;> cases pt <;> simp [h1, valR]
    all_goals split <;> simp [valR]
  cases hZ : (decide (1 < w.length) && w[0]?.getD 0 == 48)
  rotate_left
  · by_cases h1 : p.all isD <;> cases pt <;> simp [h1, valR]
    all_goals split <;> simp [valR]
  have hz9 : 9 < w.length → w[0]?.getD 0 ≠ 48 := fun h e => by
    rw [e] at hZ; simp at hZ; omega
  have fin := fin hW hz9
  cases pt
  · have hp0 := hn rfl
    subst hp0
    cases h2 : (m && w == [48])
    · simp [h2, valR]; exact fin (pad3 [])
    · simp [h2, valR]
  · cases hP : p.all isD
    · simp [valR]
    cases hPE : p.isEmpty
    rotate_left
    · have : p = [] := by simpa using hPE
      subst this
      simp [valR]
    have hp1 : 1 ≤ p.length := by cases p <;> simp at hPE ⊢
    by_cases h3 : 3 < p.length
    · simp [h3, show ¬ p.length ≤ 3 by omega, valR]
    · cases hL : (p[p.length - 1]?.getD 0 == 48)
      rotate_left
      · simp [valR]
      simp [h3, show p.length ≤ 3 by omega, hp1, valR]
      rw [take_pad p (by omega)]
      exact fin (pad3 p)

theorem parse_eq (s : List UInt8) : parse s = parseR s := parse3_eq _ _ _ _ (splitDot_none _)
end Go.Proofs.YtmallladeidkpaaGreatDoor.Fx

/- What strconv.FormatUint returns at base 10, and what both Format functions return: the text of a number of thousandths, for every int. -/
namespace Go.Proofs.YtmallladeidkpaaGreatDoor.Fx
open Go.RowKit Go.Sort Go.Lib Go.Shelf

/-- The library's table of powers of ten. -/
def Pows (w : World) : Prop := Lib.TabIs Tryz.prog w "internal/strconv.uint64pow10" .u64 Lib.pow10Tab
theorem Pows.ext {w w' : World} (h : Pows w) (k : Ext w w') : Pows w' := Ext.tab k h

theorem holds_zero0 (w : World) (T : TypeId) (nd : Nat) (hs : nd ≤ 24) : Holds (fun (b : UInt8) => Value.int .u8 (b.toNat : Int)) (w.alloc (.cells zeros24 T)) w.heap.size 0 (Array.replicate nd (0 : UInt8)) := fun j hj => by
  have hj' : j < nd := by simpa using hj
  refine ⟨?_, World.frozen?_alloc_new _ _ _ _⟩
  rw [World.cell?_alloc_new, zeros24_at _ (by omega), getElem!_pos _ j hj]
  simp
theorem fin_pos0 (w : World) (o : Obj) (dk : Array UInt8) (k : Nat) : Ext w ((putRow (fun (b : UInt8) => Value.int .u8 (b.toNat : Int)) (w.alloc o) w.heap.size 0 dk).drewN k) := by
  rw [alloc_eq_grow]
  obtain ⟨os', _, e⟩ := putRow_grow_new (fun (b : UInt8) => Value.int .u8 (b.toNat : Int)) w #[o] w.heap.size 0 dk (Nat.le_refl _)
  rw [e]
  exact ((Ext.refl _).grow _).drewN _

set_option maxHeartbeats 6400000 in
set_option maxRecDepth 100000 in
theorem iformatUint_any (u : Nat) (hu64 : u < 18446744073709551616) (w : World) (htab : Pows w) :
    Calls Tryz.prog 89 #[.int .u64 u, .int .i64 10] w fun e w' => e = .returned (.string ⟨(Lib.decDigits u).toArray⟩) ∧ Ext w w' := by
  by_cases hs : u < 100
  · go_enter Tryz.func89, Tryz.ntmps89
    go_wp2_with (go_at_call 104; refine (Tryz.internal_strconv_small u hs _).mono ?_; rintro e w ⟨rfl, rfl⟩)
    go_ret
    exact ⟨rfl, Ext.refl _⟩
  · have hu1 : 1 ≤ u := by omega
    have hnd20 : Lib.nDigits u ≤ 20 := Lib.nDigits_le20 u hu64
    have hb3 : Lib.nDigits u ≤ 24 := by omega
    have hal : Tryz.prog.arrayLen 138 = 24 := by simp [Program.arrayLen, Tryz.underlying138]
    have hsl1 : ∀ W, (Instr.sliceAt 138 (.pointer (some ⟨w.heap.size, 0, none⟩)) none (some (.int .i64 (Lib.nDigits u : Int))) none).run Tryz.prog W = .ok (.slice (some ⟨w.heap.size, 0, none⟩) (Lib.nDigits u) 24) W := fun W => by
      rw [run_sliceAt_array_h W 138 ⟨w.heap.size, 0, none⟩ (by simp [Program.arrayLen, Program.elem, Tryz.underlying138]) .i64 (Lib.nDigits u : Int) (by omega) (by rw [hal]; omega)]
      go_simp
    have hH0 := holds_zero0 w 138 (Lib.nDigits u) hb3
    have hfmt := Tryz.internal_strconv_formatBase10 w.heap.size 0 24 u (Array.replicate (Lib.nDigits u) 0) (w.alloc (.cells Lib.zeros24 138)) hH0 (by rw [Array.size_replicate]; exact Lib.lt_pow_nDigits u) hu64 (by rw [Array.size_replicate]; omega)
    rw [Array.size_replicate] at hfmt
    have HH0 := Lib.hid hH0
    clear hH0 hal
    go_enter Tryz.func89, Tryz.ntmps89
    go_wp2_with (go_at_call 105; refine (Tryz.internal_strconv_numDigits u hu1 hu64 _ (Lib.tabIs_alloc htab _)).mono ?_; rintro e w1 ⟨rfl, rfl⟩)
    go_at_call 106
    refine hfmt.mono ?_
    rintro e w' ⟨rfl, k, v', dk, rfl, hF⟩
    have hcv : (convert 120 9 (.slice (some ⟨w.heap.size, 0, none⟩) (Lib.nDigits u) 24)).run Tryz.prog ((putRow (fun (b : UInt8) => Value.int .u8 (b.toNat : Int)) (w.alloc (.cells Lib.zeros24 138)) w.heap.size 0 dk).drewN k) = .ok (.string ⟨(Lib.decDigits u).toArray⟩) ((putRow (fun (b : UInt8) => Value.int .u8 (b.toNat : Int)) (w.alloc (.cells Lib.zeros24 138)) w.heap.size 0 dk).drewN k) := by
      have h := run_convert_bytes_back (P := Tryz.prog) ((putRow (fun (b : UInt8) => Value.int .u8 (b.toNat : Int)) (w.alloc (.cells Lib.zeros24 138)) w.heap.size 0 dk).drewN k) 120 9 5 ⟨w.heap.size, 0, none⟩ 24 (Lib.decDigits u) Tryz.underlying120 Tryz.underlying5 Tryz.underlying9 (fun j hj => by
        rw [Lib.row_is_numeral hF j hj, Lib.add_plain, World.cell?_drewN]
        exact cell?_putRow (fun (b : UInt8) => Value.int .u8 (b.toNat : Int)) _ w.heap.size 0 _ dk HH0.out (by rw [hF.size, Array.size_replicate]) j (by rw [hF.size]; rw [Lib.decDigits_length] at hj; exact hj))
      rw [Lib.decDigits_length] at h
      exact h
    go_wp2
    go_ret
    exact ⟨rfl, fin_pos0 w _ dk k⟩
theorem formatUint_any (u : Nat) (hu64 : u < 18446744073709551616) (w : World) (htab : Pows w) :
    Calls Tryz.prog 74 #[.int .u64 u, .int .i64 10] w fun e w' => e = .returned (.string ⟨(Lib.decDigits u).toArray⟩) ∧ Ext w w' := by
  go_enter Tryz.func74, Tryz.ntmps74
  go_wp2_with (go_at_call 89; refine (iformatUint_any u hu64 _ htab).mono ?_; rintro e w1 ⟨rfl, hx⟩)
  go_ret
  exact ⟨rfl, hx⟩
end Go.Proofs.YtmallladeidkpaaGreatDoor.Fx

/- What both Format functions return: the text of a number of thousandths, for every int. -/
namespace Go.Proofs.YtmallladeidkpaaGreatDoor.Fx
open Go.RowKit Go.Sort Go.Lib Go.Shelf

theorem ab_nat (n : Int) : ab n = (n.natAbs : Int) := by unfold ab; split <;> omega
theorem formatUint_int (u : Int) (k : Nat) (D : List UInt8) (hk : u = k) (hu : k < 18446744073709551616) (hD : decDigits k = D) (w : World) (htab : Pows w) :
    Calls Tryz.prog 74 #[.int .u64 u, .int .i64 10] w fun e w' => e = .returned (.string ⟨D.toArray⟩) ∧ Ext w w' := by
  subst hk; subst hD; exact formatUint_any k hu w htab
theorem decDigits_len4 (r : Nat) (hr : r ≤ 999) : (decDigits (1000 + r)).length = 4 := by
  rw [decDigits_length]; exact nDigits_unique 3 _ (by omega) (by omega)
theorem ret_str {a b : List UInt8} (h : a = b) : Ending.returned (.string ⟨a.toArray⟩) = .returned (.string ⟨b.toArray⟩) := by rw [h]

/-- A number's sizes, named. -/
theorem fmt_parts (n : Int) (h0 : -9223372036854775808 ≤ n) (h1 : n ≤ 9223372036854775807) : ∃ (u q r : Nat) (A D : List UInt8), ab n = u ∧ (u : Int) / 1000 = q ∧ (u : Int) % 1000 = r ∧ r ≤ 999 ∧ u < 18446744073709551616 ∧ q < 18446744073709551616 ∧ (u : Int) ≤ 9223372036854775808 ∧
    decDigits q = A ∧ decDigits (1000 + r) = D ∧ A.length ≤ 20 ∧ D.length = 4 ∧ fmt n = (if n < 0 then [45] else []) ++ (A ++ if 0 < r then 46 :: trimRightB (D.drop 1) 48 else []) := by
  refine ⟨n.natAbs, n.natAbs / 1000, n.natAbs % 1000, _, _, ab_nat n, by omega, by omega, by omega, by omega, by omega, by omega, rfl, rfl, ?_, ?_, ?_⟩
  · rw [decDigits_length]; exact nDigits_le20 _ (by omega)
  · exact decDigits_len4 _ (by omega)
  · unfold fmt fmtU fracT
    split <;> simp

theorem ret_bytes {b : ByteArray} {l : List UInt8} (h : b.data.toList = l) : Ending.returned (.string b) = .returned (.string ⟨l.toArray⟩) := by
  subst h; rfl
theorem trim_any (s : ByteArray) (T : List UInt8) (h : trimRightB s.data.toList 48 = T) (hs : s.size ≤ 9223372036854775807) (w : World) :
    Calls Tryz.prog 75 #[.string s, .string ⟨#[48]⟩] w fun e w' => e = .returned (.string ⟨T.toArray⟩) ∧ w = w' := by
  subst h
  refine (Tryz.strings_TrimRight_one s 48 (by decide) w hs).mono ?_
  rintro e w' ⟨rfl, rfl⟩
  exact ⟨rfl, rfl⟩
theorem extract_drop (D : List UInt8) (k : Nat) : ((⟨D.toArray⟩ : ByteArray).extract k D.length).data.toList = D.drop k := by
  rw [extract_mk]; simp [List.take_of_length_le]
theorem extract_size (D : List UInt8) (k n : Nat) : ((⟨D.toArray⟩ : ByteArray).extract k n).size ≤ D.length := by
  rw [extract_mk, size_mk]; simp; omega

set_option maxHeartbeats 1600000 in
theorem format_any (n : Int) (w : World) (h0 : -9223372036854775808 ≤ n) (h1 : n ≤ 9223372036854775807) (ht : Pows w) :
    Calls Tryz.prog 58 #[.int .i64 n] w fun e w' => e = .returned (.string ⟨(fmt n).toArray⟩) ∧ Ext w w' := by
  obtain ⟨u, q, r, A, D, hab, eq, er, hr9, hu64, hq64, q1, hA, hD, hAl, hDl, hf⟩ := fmt_parts n h0 h1
  have HAB := Lib.hid hab; have HA := Lib.hid hA; have HD := Lib.hid hD; have HF := Lib.hid hf; have HU := Lib.hid hu64; have HQ := Lib.hid hq64
  have HT := Lib.hid ht
  clear hab hA hD hf hu64 hq64 ht
  have q0 : (0 : Int) ≤ u := by omega
  have dl1 : 1 ≤ D.length := by omega
  have dl2 : D.length ≤ 4 := by omega
  have al0 : (A.length : Int) ≤ 20 := by omega
  obtain ⟨T, hT⟩ : ∃ T, trimRightB (D.drop 1) 48 = T := ⟨_, rfl⟩
  rw [hT] at HF
  have hTl : T.length ≤ 4 := by
    subst hT; unfold trimRightB
    have := (List.dropWhile_sublist (· == (48 : UInt8)) (l := (D.drop 1).reverse)).length_le
    simp at this ⊢; omega
  have HTT := Lib.hid hT; clear hT hDl
  by_cases hrp : 0 < r
  · rw [if_pos hrp] at HF
    by_cases hn : n < 0
    all_goals
      first | rw [if_pos hn] at HF | rw [if_neg hn] at HF
      go_enter Tryz.func58, Tryz.ntmps58
      go_wp2_with (first
        | (go_at_call 73; refine (size_any n _ h0 h1).mono ?_; rintro e w' ⟨rfl, rfl⟩; rw [HAB.out])
        | (go_at_call_of 74 (Value.int .u64 (q : Int)); refine (formatUint_int _ q A rfl HQ.out HA.out _ HT.out).mono ?_; rintro e w1 ⟨rfl, hx1⟩))
      refine (formatUint_int _ (1000 + r) D (by omega) (by omega) HD.out _ (HT.out.ext hx1)).mono ?_
      rintro e w2 ⟨rfl, hx2⟩
      go_wp2_with fail
      refine (trim_any _ T (by rw [extract_drop]; exact HTT.out) (by have := extract_size D 1 D.length; omega) _).mono ?_
      rintro e w3 ⟨rfl, rfl⟩
      go_wp2
      go_ret
      exact ⟨ret_bytes (by rw [HF.out]; simp [ByteArray.data_append]), hx1.trans hx2⟩
  · rw [if_neg hrp] at HF
    by_cases hn : n < 0
    all_goals
      first | rw [if_pos hn] at HF | rw [if_neg hn] at HF
      go_enter Tryz.func58, Tryz.ntmps58
      go_wp2_with (first
        | (go_at_call 73; refine (size_any n _ h0 h1).mono ?_; rintro e w' ⟨rfl, rfl⟩; rw [HAB.out])
        | (go_at_call_of 74 (Value.int .u64 (q : Int)); refine (formatUint_int _ q A rfl HQ.out HA.out _ HT.out).mono ?_; rintro e w1 ⟨rfl, hx1⟩))
      go_ret
      exact ⟨ret_bytes (by rw [HF.out]; simp [ByteArray.data_append]), hx1⟩
end Go.Proofs.YtmallladeidkpaaGreatDoor.Fx
