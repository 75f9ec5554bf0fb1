/- Packed texts: TreForm, TreStmR, TreFormB -/
import Derived.Test.YtnjnfkfmkbnkhaaGreatDoorPa12
import Derived.Test.YtnjnfkfmkbnkhaaGreatDoorPa13
set_option linter.unusedVariables false
set_option linter.unusedSimpArgs false
/- What form and named of the tree return. -/
namespace Go.Proofs.YtnjnfkfmkbnkhaaGreatDoor.Tr
open Go.RowKit Go.Sort Go.Lib Go.Shelf Fx Lx

abbrev stmA (k : Int) (nm : ByteArray) (r a b : Option Addr) (R A B rc ac bc : Nat) : Array Value := #[.int .i64 k, .string nm, .slice r R rc, .slice a A ac, .slice b B bc]
theorem stm_cells (w : World) (k : Int) (nm : ByteArray) (r a b : Option Addr) (R A B rc ac bc : Nat) : ∀ w1, Ext (w.alloc (.cells #[.int .i64 k, .string nm, .slice r R rc, .slice a A ac, .slice b B bc] 47)) w1 →
    w1.cell? ⟨w.heap.size, 0, none⟩ = some (.int .i64 k) ∧ w1.cell? ⟨w.heap.size, 1, none⟩ = some (.string nm) ∧ w1.cell? ⟨w.heap.size, 2, none⟩ = some (.slice r R rc) ∧ w1.cell? ⟨w.heap.size, 3, none⟩ = some (.slice a A ac) ∧ w1.cell? ⟨w.heap.size, 4, none⟩ = some (.slice b B bc) := fun w1 x => by
  have hb := heap_alloc_new w (.cells #[.int .i64 k, .string nm, .slice r R rc, .slice a A ac, .slice b B bc] 47)
  refine ⟨x.cell ?_, x.cell ?_, x.cell ?_, x.cell ?_, x.cell ?_⟩ <;> rw [Lib.cell_of_heap hb] <;> rfl
theorem b0 {n : Nat} : (((n : Int) == 0) = true) = (n = 0) := by simp
set_option maxHeartbeats 4000000 in
theorem form_node (nm : ByteArray) (r a b : Option Addr) (R A B rc ac bc : Nat) (w : World) :
    Calls Tryz.prog 65 #[.agg #[.int .i64 1, .string nm, .slice r R rc, .slice a A ac, .slice b B bc]] w fun e w' => e = .returned (.int .i64 (if (decide (R = 0) && decide (B = 0)) = true then 0 else 1)) ∧ Ext w w' := by
  by_cases hR : R = 0
  · by_cases hB : B = 0
    · subst hR; subst hB
      go_enter Tryz.func65, Tryz.ntmps65
      go_wp2
      go_ret
      exact ⟨rfl, (Ext.refl _).alloc _⟩
    · subst hR
      have f1 : ((B : Int) == 0) = false := by simpa using hB
      rw [decide_eq_false hB]
      clear hB
      go_enter Tryz.func65, Tryz.ntmps65
      go_wp2
      go_ret
      exact ⟨rfl, (Ext.refl _).alloc _⟩
  · have f1 : ((R : Int) == 0) = false := by simpa using hR
    rw [decide_eq_false hR]
    clear hR
    go_enter Tryz.func65, Tryz.ntmps65
    go_wp2
    go_ret
    exact ⟨rfl, (Ext.refl _).alloc _⟩
set_option maxHeartbeats 4000000 in
theorem form_cluster (nm : ByteArray) (r a b : Option Addr) (R A B rc ac bc : Nat) (w : World) :
    Calls Tryz.prog 65 #[.agg #[.int .i64 5, .string nm, .slice r R rc, .slice a A ac, .slice b B bc]] w fun e w' => e = .returned (.int .i64 (if (decide (R = 0) && decide (A = 0)) = true then 0 else 1)) ∧ Ext w w' := by
  by_cases hR : R = 0
  · by_cases hB : A = 0
    · subst hR; subst hB
      go_enter Tryz.func65, Tryz.ntmps65
      go_wp2
      go_ret
      exact ⟨rfl, (Ext.refl _).alloc _⟩
    · subst hR
      have f1 : ((A : Int) == 0) = false := by simpa using hB
      rw [decide_eq_false hB]
      clear hB
      go_enter Tryz.func65, Tryz.ntmps65
      go_wp2
      go_ret
      exact ⟨rfl, (Ext.refl _).alloc _⟩
  · have f1 : ((R : Int) == 0) = false := by simpa using hR
    rw [decide_eq_false hR]
    clear hR
    go_enter Tryz.func65, Tryz.ntmps65
    go_wp2
    go_ret
    exact ⟨rfl, (Ext.refl _).alloc _⟩
theorem size0 {n : ByteArray} : (n.toList == []) = decide (n.size = 0) := by
  rw [ByteArray.toList_eq, size_len, Bool.eq_iff_iff, beq_iff_eq, decide_eq_true_eq, List.length_eq_zero_iff]
set_option maxHeartbeats 4000000 in
theorem form_edge (nm : ByteArray) (r a b : Option Addr) (R A B rc ac bc : Nat) (w : World) :
    Calls Tryz.prog 65 #[.agg #[.int .i64 2, .string nm, .slice r R rc, .slice a A ac, .slice b B bc]] w fun e w' => e = .returned (.int .i64 (if (decide (nm.size = 0) && decide (B = 0) && decide (2 ≤ R)) = true then 0 else 1)) ∧ Ext w w' := by
  have hN := @size0 nm
  cases hn : decide (nm.size = 0)
  · rw [hn] at hN
    clear hn
    go_enter Tryz.func65, Tryz.ntmps65
    go_wp2
    go_ret
    exact ⟨rfl, (Ext.refl _).alloc _⟩
  · rw [hn] at hN
    clear hn
    by_cases hB : B = 0
    · subst hB
      by_cases hR : 2 ≤ R
      · have f1 : decide ((2 : Int) ≤ R) = true := decide_eq_true (by omega)
        rw [decide_eq_true hR]
        go_enter Tryz.func65, Tryz.ntmps65
        go_wp2
        go_ret
        exact ⟨rfl, (Ext.refl _).alloc _⟩
      · have f1 : decide ((2 : Int) ≤ R) = false := decide_eq_false (by omega)
        rw [decide_eq_false hR]
        go_enter Tryz.func65, Tryz.ntmps65
        go_wp2
        go_ret
        exact ⟨rfl, (Ext.refl _).alloc _⟩
    · have f1 : ((B : Int) == 0) = false := by simpa using hB
      rw [decide_eq_false hB]
      clear hB
      go_enter Tryz.func65, Tryz.ntmps65
      go_wp2
      go_ret
      exact ⟨rfl, (Ext.refl _).alloc _⟩
end Go.Proofs.YtnjnfkfmkbnkhaaGreatDoor.Tr

/- What the document's after and refs return, and its stmt, kind by kind. -/
namespace Go.Proofs.YtnjnfkfmkbnkhaaGreatDoor.Tr
open Go.RowKit Go.Sort Go.Lib Go.Shelf Fx Lx

def afterT (a : List Two) : List UInt8 := if a.isEmpty = true then [] else 32 :: listedT a
theorem tailT_after (a : List Two) : tailT a = afterT a ++ [59] := by
  unfold tailT afterT
  by_cases h : a.isEmpty = true
  · rw [if_pos h, if_pos h]; rfl
  · rw [if_neg h, if_neg h]; rfl
set_option maxHeartbeats 4000000 in
theorem afterR_any (a : Option Addr) (L : List Two) (cap : Nat) (w : World) (h : TwoIn w a L) (hL : L.length ≤ 2000000) (hs : ∀ q ∈ L, q.2.size < 4294967281) (hlen : (listedT L).length < 140737488355328) :
    Calls Tryz.prog 75 #[.slice a L.length cap] w fun e w' => e = .returned (.string (bs (afterT L))) ∧ Ext w w' := by
  by_cases h0 : L = []
  · subst h0
    clear h hs hlen hL
    go_enter Tryz.func75, Tryz.ntmps75
    go_wp2
    go_returns
    exact ⟨rfl, Ext.refl _⟩
  · have hp0 : 0 < L.length := List.length_pos_iff.2 h0
    have hl := listR_any a L cap w h hL hs (Nat.le_of_lt hlen)
    have e1 : L.isEmpty = false := by simpa using h0
    have e2 : listRT L = listedT L := by unfold listRT; rw [e1, if_neg (by decide)]
    have e3 : bs (afterT L) = ⟨#[32]⟩ ++ bs (listedT L) := by
      rw [show (⟨#[32]⟩ : ByteArray) = bs [32] from rfl, bs_app]; unfold afterT; rw [e1, if_neg (by decide)]; rfl
    rw [e2] at hl
    rw [e3]
    have a1 := add_run ⟨#[32]⟩ (bs (listedT L)) (by have hb := bs_size (listedT L); show 1 + _ ≤ _; omega)
    generalize bs (listedT L) = T at *
    have f1 : ((L.length : Int) == 0) = false := by rw [beq_eq_false_iff_ne]; omega
    generalize L.length = N at *
    have HL := Lib.hid hl
    clear hl h hs hlen hL h0 e1 e2 e3 hp0
    go_enter Tryz.func75, Tryz.ntmps75
    go_wp2_with (go_at_call 26; refine HL.out.mono ?_; rintro e w1 ⟨rfl, x1⟩)
    go_returns
    exact ⟨rfl, x1⟩
def refP (d : Bool) (L : List Two) : List UInt8 := sepT (arrow d) (L.map refT)
theorem refP_snoc (d : Bool) (a : List Two) (q : Two) : refP d (a ++ [q]) = if a.isEmpty = true then refT q else refP d a ++ arrow d ++ refT q := by
  unfold refP
  rw [List.map_append, List.map_cons, List.map_nil, sepT_snoc]
  cases a <;> simp
theorem refP_le (d : Bool) (L : List Two) (k : Nat) : (refP d (L.take k)).length ≤ (refP d L).length := by
  have := sepT_prefix (arrow d) ((L.drop k).map refT) ((L.take k).map refT)
  rw [← List.map_append, List.take_append_drop] at this
  exact this
set_option maxHeartbeats 4000000 in
set_option maxRecDepth 100000 in
theorem refsR_true (a : Option Addr) (L : List Two) (cap : Nat) (w : World) (h : TwoIn w a L) (hL : L.length ≤ 2000000) (hlen : (refP true L).length ≤ 140737488355328) :
    Calls Tryz.prog 76 #[.slice a L.length cap, .bool true] w fun e w' => e = .returned (.string (bs (refP true L))) ∧ Ext w w' := by
  obtain ⟨V, hV⟩ : ∃ V : ByteArray, V = bs (refP true L) := ⟨_, rfl⟩
  rw [← hV]
  have hle : ∀ k, (refP true (L.take k)).length ≤ 140737488355328 := fun k => Nat.le_trans (refP_le true L k) hlen
  obtain ⟨N, hN⟩ : ∃ N, N = L.length := ⟨_, rfl⟩
  rw [← hN] at hL ⊢
  have HV := Lib.hid hV; have HLE := Lib.hid hle
  have HN := Lib.hid hN; have HI := Lib.hid h
  have HZ : Hid (bs (refP true (L.take 0)) = ⟨#[]⟩) := Lib.hid rfl
  clear hle hV hN h hlen
  go_enter Tryz.func76, Tryz.ntmps76
  go_wp2
  go_loopw [5, 6] (fun s' i' wr => ∃ (k : Nat) (s : ByteArray), k ≤ N ∧ s' = .string s ∧ i' = .int .i64 k ∧ Ext w wr ∧ Hid (s = bs (refP true (L.take k)))) (fun _ i' _ => N - (RowKit.intOf i').toNat)
  case atStart => exact ⟨0, _, by omega, rfl, rfl, Ext.refl _, Lib.hid HZ.out.symm⟩
  case round =>
    obtain ⟨k, s, hk, rfl, rfl, hx, hb⟩ := hrel
    clear HZ
    by_cases hlt : k < N
    · have hkl : k < L.length := by rw [← HN.out]; exact hlt
      obtain ⟨g, o, rfl, c0, c1⟩ := (HI.out.ext hx) k hkl
      have hsn : refP true (L.take (k + 1)) = if (L.take k).isEmpty = true then refT L[k] else refP true (L.take k) ++ arrow true ++ refT L[k] := by
        rw [List.take_succ_eq_append_getElem hkl, refP_snoc]
      have hlk := HLE.out (k + 1)
      obtain ⟨n, d, hq⟩ : ∃ n d, L[k] = (n, d) := ⟨_, _, rfl⟩
      rw [hq] at c0 c1 hsn
      have hz0 := @size0 d
      by_cases hk0 : k = 0
      · have hsn2 : bs (refP true (L.take (k + 1))) = s ++ bs (refT (n, d)) := by
          rw [hsn, hb.out]
          subst hk0
          rw [if_pos (by simp), show refP true (L.take 0) = [] from rfl, bs_app]; rfl
        have g0 : decide (0 < k) = false := decide_eq_false (by omega)
        have g0' : ¬ 0 < k := by omega
        by_cases hz : d.size = 0
        · rw [decide_eq_true hz] at hz0
          have hfin : bs (refP true (L.take (k + 1))) = s ++ n := by
            rw [hsn2]; unfold refT; dsimp only; rw [if_pos hz, List.append_nil, bs_data]
          have hzz : (s ++ n).size ≤ 140737488355328 := by rw [← hfin, bs_size]; exact hlk
          rw [ByteArray.size_append] at hzz
          have a1 := add_run s n hzz
          have HF := Lib.hid hfin.symm
          clear hfin hsn2 hsn hlk hq hb hk0 hzz hz
          go_wp2
          go_roundw
          case rel => exact ⟨k + 1, _, by omega, rfl, by go_num, hx, HF⟩
          case measure => simp [RowKit.intOf]; omega
        · rw [decide_eq_false hz] at hz0
          have hfin : bs (refP true (L.take (k + 1))) = s ++ n ++ ⟨#[58]⟩ ++ d := by
            have e : bs (refT (n, d)) = n ++ ⟨#[58]⟩ ++ d := by
              unfold refT; dsimp only; rw [if_neg hz]
              conv => rhs; rw [← bs_data n, ← bs_data d]
              rw [show (⟨#[58]⟩ : ByteArray) = bs [58] from rfl, bs_app, bs_app]; simp
            rw [hsn2, e, ← ByteArray.append_assoc, ← ByteArray.append_assoc]
          have hzz : (s ++ n ++ ⟨#[58]⟩ ++ d).size ≤ 140737488355328 := by rw [← hfin, bs_size]; exact hlk
          have e1 : ∀ x : ByteArray, (x ++ ⟨#[58]⟩).size = x.size + 1 := fun x => by rw [ByteArray.size_append]; rfl
          have hz4 := hzz
          rw [ByteArray.size_append] at hzz hz4
          rw [e1, ByteArray.size_append] at hz4
          have a1 := add_run s n (by omega)
          have a2 := add_run (s ++ n) ⟨#[58]⟩ (by rw [ByteArray.size_append]; show _ + 1 ≤ _; omega)
          have a3 := add_run (s ++ n ++ ⟨#[58]⟩) d hzz
          have HF := Lib.hid hfin.symm
          clear hfin hsn2 hsn hlk hq hb hk0 hzz hz4 hz e1
          go_wp2
          go_roundw
          case rel => exact ⟨k + 1, _, by omega, rfl, by go_num, hx, HF⟩
          case measure => simp [RowKit.intOf]; omega
      · have hsn2 : bs (refP true (L.take (k + 1))) = s ++ ⟨#[32, 45, 62, 32]⟩ ++ bs (refT (n, d)) := by
          rw [hsn, hb.out]
          rw [if_neg (by
            intro h
            have h2 : (L.take k).length = 0 := by rw [List.isEmpty_iff.1 h]; rfl
            rw [List.length_take] at h2
            omega), show (⟨#[32, 45, 62, 32]⟩ : ByteArray) = bs (arrow true) from rfl, bs_app, bs_app]
        have g0 : decide (0 < k) = true := decide_eq_true (by omega)
        have g0' : 0 < k := by omega
        by_cases hz : d.size = 0
        · rw [decide_eq_true hz] at hz0
          have hfin : bs (refP true (L.take (k + 1))) = (s ++ ⟨#[32, 45, 62, 32]⟩) ++ n := by
            rw [hsn2]; unfold refT; dsimp only; rw [if_pos hz, List.append_nil, bs_data]
          have hzz : ((s ++ ⟨#[32, 45, 62, 32]⟩) ++ n).size ≤ 140737488355328 := by rw [← hfin, bs_size]; exact hlk
          rw [ByteArray.size_append] at hzz
          have hzy : s.size + (4 : Nat) ≤ 140737488355328 := by
            have e4 : (s ++ ⟨#[32, 45, 62, 32]⟩).size = s.size + 4 := by rw [ByteArray.size_append]; rfl
            omega
          have a0 := add_run s ⟨#[32, 45, 62, 32]⟩ hzy
          have a1 := add_run (s ++ ⟨#[32, 45, 62, 32]⟩) n hzz
          have HF := Lib.hid hfin.symm
          clear hfin hsn2 hsn hlk hq hb hk0 hzz hz
          go_wp2
          go_roundw
          case rel => exact ⟨k + 1, _, by omega, rfl, by go_num, hx, HF⟩
          case measure => simp [RowKit.intOf]; omega
        · rw [decide_eq_false hz] at hz0
          have hfin : bs (refP true (L.take (k + 1))) = (s ++ ⟨#[32, 45, 62, 32]⟩) ++ n ++ ⟨#[58]⟩ ++ d := by
            have e : bs (refT (n, d)) = n ++ ⟨#[58]⟩ ++ d := by
              unfold refT; dsimp only; rw [if_neg hz]
              conv => rhs; rw [← bs_data n, ← bs_data d]
              rw [show (⟨#[58]⟩ : ByteArray) = bs [58] from rfl, bs_app, bs_app]; simp
            rw [hsn2, e, ← ByteArray.append_assoc, ← ByteArray.append_assoc]
          have hzz : ((s ++ ⟨#[32, 45, 62, 32]⟩) ++ n ++ ⟨#[58]⟩ ++ d).size ≤ 140737488355328 := by rw [← hfin, bs_size]; exact hlk
          have e1 : ∀ x : ByteArray, (x ++ ⟨#[58]⟩).size = x.size + 1 := fun x => by rw [ByteArray.size_append]; rfl
          have hz4 := hzz
          rw [ByteArray.size_append] at hzz hz4
          rw [e1, ByteArray.size_append] at hz4
          have hzy : s.size + (4 : Nat) ≤ 140737488355328 := by
            have e4 : (s ++ ⟨#[32, 45, 62, 32]⟩).size = s.size + 4 := by rw [ByteArray.size_append]; rfl
            omega
          have a0 := add_run s ⟨#[32, 45, 62, 32]⟩ hzy
          have a1 := add_run (s ++ ⟨#[32, 45, 62, 32]⟩) n (by omega)
          have a2 := add_run ((s ++ ⟨#[32, 45, 62, 32]⟩) ++ n) ⟨#[58]⟩ (by rw [ByteArray.size_append]; show _ + 1 ≤ _; omega)
          have a3 := add_run ((s ++ ⟨#[32, 45, 62, 32]⟩) ++ n ++ ⟨#[58]⟩) d hzz
          have HF := Lib.hid hfin.symm
          clear hfin hsn2 hsn hlk hq hb hk0 hzz hz4 hz e1
          go_wp2
          go_roundw
          case rel => exact ⟨k + 1, _, by omega, rfl, by go_num, hx, HF⟩
          case measure => simp [RowKit.intOf]; omega
    · have hf : s = V := by rw [hb.out, HV.out, List.take_of_length_le (by rw [← HN.out]; omega)]
      have HF := Lib.hid hf
      clear hb hf
      go_wp2
      go_returns
      rw [← HF.out]
      exact ⟨rfl, hx⟩
set_option maxHeartbeats 4000000 in
set_option maxRecDepth 100000 in
theorem refsR_false (a : Option Addr) (L : List Two) (cap : Nat) (w : World) (h : TwoIn w a L) (hL : L.length ≤ 2000000) (hlen : (refP false L).length ≤ 140737488355328) :
    Calls Tryz.prog 76 #[.slice a L.length cap, .bool false] w fun e w' => e = .returned (.string (bs (refP false L))) ∧ Ext w w' := by
  obtain ⟨V, hV⟩ : ∃ V : ByteArray, V = bs (refP false L) := ⟨_, rfl⟩
  rw [← hV]
  have hle : ∀ k, (refP false (L.take k)).length ≤ 140737488355328 := fun k => Nat.le_trans (refP_le false L k) hlen
  obtain ⟨N, hN⟩ : ∃ N, N = L.length := ⟨_, rfl⟩
  rw [← hN] at hL ⊢
  have HV := Lib.hid hV; have HLE := Lib.hid hle
  have HN := Lib.hid hN; have HI := Lib.hid h
  have HZ : Hid (bs (refP false (L.take 0)) = ⟨#[]⟩) := Lib.hid rfl
  clear hle hV hN h hlen
  go_enter Tryz.func76, Tryz.ntmps76
  go_wp2
  go_loopw [5, 6] (fun s' i' wr => ∃ (k : Nat) (s : ByteArray), k ≤ N ∧ s' = .string s ∧ i' = .int .i64 k ∧ Ext w wr ∧ Hid (s = bs (refP false (L.take k)))) (fun _ i' _ => N - (RowKit.intOf i').toNat)
  case atStart => exact ⟨0, _, by omega, rfl, rfl, Ext.refl _, Lib.hid HZ.out.symm⟩
  case round =>
    obtain ⟨k, s, hk, rfl, rfl, hx, hb⟩ := hrel
    clear HZ
    by_cases hlt : k < N
    · have hkl : k < L.length := by rw [← HN.out]; exact hlt
      obtain ⟨g, o, rfl, c0, c1⟩ := (HI.out.ext hx) k hkl
      have hsn : refP false (L.take (k + 1)) = if (L.take k).isEmpty = true then refT L[k] else refP false (L.take k) ++ arrow false ++ refT L[k] := by
        rw [List.take_succ_eq_append_getElem hkl, refP_snoc]
      have hlk := HLE.out (k + 1)
      obtain ⟨n, d, hq⟩ : ∃ n d, L[k] = (n, d) := ⟨_, _, rfl⟩
      rw [hq] at c0 c1 hsn
      have hz0 := @size0 d
      by_cases hk0 : k = 0
      · have hsn2 : bs (refP false (L.take (k + 1))) = s ++ bs (refT (n, d)) := by
          rw [hsn, hb.out]
          subst hk0
          rw [if_pos (by simp), show refP false (L.take 0) = [] from rfl, bs_app]; rfl
        have g0 : decide (0 < k) = false := decide_eq_false (by omega)
        have g0' : ¬ 0 < k := by omega
        by_cases hz : d.size = 0
        · rw [decide_eq_true hz] at hz0
          have hfin : bs (refP false (L.take (k + 1))) = s ++ n := by
            rw [hsn2]; unfold refT; dsimp only; rw [if_pos hz, List.append_nil, bs_data]
          have hzz : (s ++ n).size ≤ 140737488355328 := by rw [← hfin, bs_size]; exact hlk
          rw [ByteArray.size_append] at hzz
          have a1 := add_run s n hzz
          have HF := Lib.hid hfin.symm
          clear hfin hsn2 hsn hlk hq hb hk0 hzz hz
          go_wp2
          go_roundw
          case rel => exact ⟨k + 1, _, by omega, rfl, by go_num, hx, HF⟩
          case measure => simp [RowKit.intOf]; omega
        · rw [decide_eq_false hz] at hz0
          have hfin : bs (refP false (L.take (k + 1))) = s ++ n ++ ⟨#[58]⟩ ++ d := by
            have e : bs (refT (n, d)) = n ++ ⟨#[58]⟩ ++ d := by
              unfold refT; dsimp only; rw [if_neg hz]
              conv => rhs; rw [← bs_data n, ← bs_data d]
              rw [show (⟨#[58]⟩ : ByteArray) = bs [58] from rfl, bs_app, bs_app]; simp
            rw [hsn2, e, ← ByteArray.append_assoc, ← ByteArray.append_assoc]
          have hzz : (s ++ n ++ ⟨#[58]⟩ ++ d).size ≤ 140737488355328 := by rw [← hfin, bs_size]; exact hlk
          have e1 : ∀ x : ByteArray, (x ++ ⟨#[58]⟩).size = x.size + 1 := fun x => by rw [ByteArray.size_append]; rfl
          have hz4 := hzz
          rw [ByteArray.size_append] at hzz hz4
          rw [e1, ByteArray.size_append] at hz4
          have a1 := add_run s n (by omega)
          have a2 := add_run (s ++ n) ⟨#[58]⟩ (by rw [ByteArray.size_append]; show _ + 1 ≤ _; omega)
          have a3 := add_run (s ++ n ++ ⟨#[58]⟩) d hzz
          have HF := Lib.hid hfin.symm
          clear hfin hsn2 hsn hlk hq hb hk0 hzz hz4 hz e1
          go_wp2
          go_roundw
          case rel => exact ⟨k + 1, _, by omega, rfl, by go_num, hx, HF⟩
          case measure => simp [RowKit.intOf]; omega
      · have hsn2 : bs (refP false (L.take (k + 1))) = s ++ ⟨#[32, 45, 45, 32]⟩ ++ bs (refT (n, d)) := by
          rw [hsn, hb.out]
          rw [if_neg (by
            intro h
            have h2 : (L.take k).length = 0 := by rw [List.isEmpty_iff.1 h]; rfl
            rw [List.length_take] at h2
            omega), show (⟨#[32, 45, 45, 32]⟩ : ByteArray) = bs (arrow false) from rfl, bs_app, bs_app]
        have g0 : decide (0 < k) = true := decide_eq_true (by omega)
        have g0' : 0 < k := by omega
        by_cases hz : d.size = 0
        · rw [decide_eq_true hz] at hz0
          have hfin : bs (refP false (L.take (k + 1))) = (s ++ ⟨#[32, 45, 45, 32]⟩) ++ n := by
            rw [hsn2]; unfold refT; dsimp only; rw [if_pos hz, List.append_nil, bs_data]
          have hzz : ((s ++ ⟨#[32, 45, 45, 32]⟩) ++ n).size ≤ 140737488355328 := by rw [← hfin, bs_size]; exact hlk
          rw [ByteArray.size_append] at hzz
          have hzy : s.size + (4 : Nat) ≤ 140737488355328 := by
            have e4 : (s ++ ⟨#[32, 45, 45, 32]⟩).size = s.size + 4 := by rw [ByteArray.size_append]; rfl
            omega
          have a0 := add_run s ⟨#[32, 45, 45, 32]⟩ hzy
          have a1 := add_run (s ++ ⟨#[32, 45, 45, 32]⟩) n hzz
          have HF := Lib.hid hfin.symm
          clear hfin hsn2 hsn hlk hq hb hk0 hzz hz
          go_wp2
          go_roundw
          case rel => exact ⟨k + 1, _, by omega, rfl, by go_num, hx, HF⟩
          case measure => simp [RowKit.intOf]; omega
        · rw [decide_eq_false hz] at hz0
          have hfin : bs (refP false (L.take (k + 1))) = (s ++ ⟨#[32, 45, 45, 32]⟩) ++ n ++ ⟨#[58]⟩ ++ d := by
            have e : bs (refT (n, d)) = n ++ ⟨#[58]⟩ ++ d := by
              unfold refT; dsimp only; rw [if_neg hz]
              conv => rhs; rw [← bs_data n, ← bs_data d]
              rw [show (⟨#[58]⟩ : ByteArray) = bs [58] from rfl, bs_app, bs_app]; simp
            rw [hsn2, e, ← ByteArray.append_assoc, ← ByteArray.append_assoc]
          have hzz : ((s ++ ⟨#[32, 45, 45, 32]⟩) ++ n ++ ⟨#[58]⟩ ++ d).size ≤ 140737488355328 := by rw [← hfin, bs_size]; exact hlk
          have e1 : ∀ x : ByteArray, (x ++ ⟨#[58]⟩).size = x.size + 1 := fun x => by rw [ByteArray.size_append]; rfl
          have hz4 := hzz
          rw [ByteArray.size_append] at hzz hz4
          rw [e1, ByteArray.size_append] at hz4
          have hzy : s.size + (4 : Nat) ≤ 140737488355328 := by
            have e4 : (s ++ ⟨#[32, 45, 45, 32]⟩).size = s.size + 4 := by rw [ByteArray.size_append]; rfl
            omega
          have a0 := add_run s ⟨#[32, 45, 45, 32]⟩ hzy
          have a1 := add_run (s ++ ⟨#[32, 45, 45, 32]⟩) n (by omega)
          have a2 := add_run ((s ++ ⟨#[32, 45, 45, 32]⟩) ++ n) ⟨#[58]⟩ (by rw [ByteArray.size_append]; show _ + 1 ≤ _; omega)
          have a3 := add_run ((s ++ ⟨#[32, 45, 45, 32]⟩) ++ n ++ ⟨#[58]⟩) d hzz
          have HF := Lib.hid hfin.symm
          clear hfin hsn2 hsn hlk hq hb hk0 hzz hz4 hz e1
          go_wp2
          go_roundw
          case rel => exact ⟨k + 1, _, by omega, rfl, by go_num, hx, HF⟩
          case measure => simp [RowKit.intOf]; omega
    · have hf : s = V := by rw [hb.out, HV.out, List.take_of_length_le (by rw [← HN.out]; omega)]
      have HF := Lib.hid hf
      clear hb hf
      go_wp2
      go_returns
      rw [← HF.out]
      exact ⟨rfl, hx⟩
theorem refsR_any (d : Bool) (a : Option Addr) (L : List Two) (cap : Nat) (w : World) (h : TwoIn w a L) (hL : L.length ≤ 2000000) (hlen : (refP d L).length ≤ 140737488355328) :
    Calls Tryz.prog 76 #[.slice a L.length cap, .bool d] w fun e w' => e = .returned (.string (bs (refP d L))) ∧ Ext w w' := by
  cases d
  · exact refsR_false a L cap w h hL hlen
  · exact refsR_true a L cap w h hL hlen
theorem stm_one (w : World) (k : Int) (nm : ByteArray) (r a b : Option Addr) (R A B rc ac bc : Nat) (d : Nat) (os : Array Obj) :
    let wb := w.alloc (.cells #[.int .i64 k, .string nm, .slice r R rc, .slice a A ac, .slice b B bc] 47)
    (grow (redrawn wb d) os).cell? ⟨w.heap.size, 1, none⟩ = some (.string nm) ∧ (grow (redrawn wb d) os).cell? ⟨w.heap.size, 2, none⟩ = some (.slice r R rc) ∧ (grow (redrawn wb d) os).cell? ⟨w.heap.size, 3, none⟩ = some (.slice a A ac) ∧ (grow (redrawn wb d) os).cell? ⟨w.heap.size, 4, none⟩ = some (.slice b B bc) := by
  intro wb
  exact (stm_cells w k nm r a b R A B rc ac bc _ (below_regrown wb d os)).2
/-- A callee's contract at every later world, met in the region's worlds. -/
theorem regrown_ext {P : Program} {f : FuncId} {args : Array Value} {w wb : World} {T : Value} (hx : Ext w wb) (h : ∀ w', Ext w w' → Calls P f args w' fun e w'' => e = .returned T ∧ Ext w' w'') (d : Nat) (os : Array Obj) :
    Calls P f args (grow (redrawn wb d) os) fun e w'' => e = .returned T ∧ ∃ p : Regrown, w'' = grow (redrawn wb p.d) p.os :=
  Calls.regrown_of (h _ (hx.trans (below_regrown wb d os)))
set_option maxHeartbeats 4000000 in
set_option maxRecDepth 100000 in
theorem stmtR_1 (nm ahead : ByteArray) (r a b : Option Addr) (R A B rc ac bc : Nat) (d : Bool) (w : World) (T1 : ByteArray) (h1 : ∀ w', Ext w w' → Calls Tryz.prog 75 #[.slice a A ac] w' fun e w'' => e = .returned (.string T1) ∧ Ext w' w'') (hsz : ahead.size + nm.size + T1.size + 2 ≤ 140737488355328) :
    Calls Tryz.prog 41 #[.agg #[.int .i64 1, .string nm, .slice r R rc, .slice a A ac, .slice b B bc], .bool d, .string ahead] w fun e w' => e = .returned (.string (ahead ++ nm ++ T1 ++ ⟨#[59, 10]⟩)) ∧ Ext w w' := by
  have hxb : Ext w (w.alloc (.cells #[.int .i64 1, .string nm, .slice r R rc, .slice a A ac, .slice b B bc] 47)) := (Ext.refl _).alloc _
  have hks := stm_one w 1 nm r a b R A B rc ac bc
  dsimp only at hks
  have k0 := fun d os => (hks d os).1
  have k1 := fun d os => (hks d os).2.2.1
  have HX : Hid (∀ d os, Ext w (grow (redrawn (w.alloc (.cells #[.int .i64 1, .string nm, .slice r R rc, .slice a A ac, .slice b B bc] 47)) d) os)) := Lib.hid (fun d os => hxb.trans (below_regrown _ d os))
  have C0 := Lib.hid (fun dd os => regrown_ext hxb h1 dd os)
  have a0 := add_run (ahead) nm (by (repeat rw [ByteArray.size_append]); (try simp only [show (⟨#[59, 10]⟩ : ByteArray).size = 2 from rfl, show (⟨#[32]⟩ : ByteArray).size = 1 from rfl, show (⟨#[115, 101, 116, 32]⟩ : ByteArray).size = 4 from rfl, show (⟨#[32, 61, 32]⟩ : ByteArray).size = 3 from rfl, show (⟨#[99, 108, 117, 115, 116, 101, 114, 32]⟩ : ByteArray).size = 8 from rfl, show (⟨#[32, 123, 10]⟩ : ByteArray).size = 3 from rfl, show (⟨#[32, 32, 32, 32]⟩ : ByteArray).size = 4 from rfl, show (⟨#[125, 10]⟩ : ByteArray).size = 2 from rfl]); omega)
  have a1 := add_run (ahead ++ nm) T1 (by (repeat rw [ByteArray.size_append]); (try simp only [show (⟨#[59, 10]⟩ : ByteArray).size = 2 from rfl, show (⟨#[32]⟩ : ByteArray).size = 1 from rfl, show (⟨#[115, 101, 116, 32]⟩ : ByteArray).size = 4 from rfl, show (⟨#[32, 61, 32]⟩ : ByteArray).size = 3 from rfl, show (⟨#[99, 108, 117, 115, 116, 101, 114, 32]⟩ : ByteArray).size = 8 from rfl, show (⟨#[32, 123, 10]⟩ : ByteArray).size = 3 from rfl, show (⟨#[32, 32, 32, 32]⟩ : ByteArray).size = 4 from rfl, show (⟨#[125, 10]⟩ : ByteArray).size = 2 from rfl]); omega)
  have a2 := add_run (ahead ++ nm ++ T1) ⟨#[59, 10]⟩ (by (repeat rw [ByteArray.size_append]); (try simp only [show (⟨#[59, 10]⟩ : ByteArray).size = 2 from rfl, show (⟨#[32]⟩ : ByteArray).size = 1 from rfl, show (⟨#[115, 101, 116, 32]⟩ : ByteArray).size = 4 from rfl, show (⟨#[32, 61, 32]⟩ : ByteArray).size = 3 from rfl, show (⟨#[99, 108, 117, 115, 116, 101, 114, 32]⟩ : ByteArray).size = 8 from rfl, show (⟨#[32, 123, 10]⟩ : ByteArray).size = 3 from rfl, show (⟨#[32, 32, 32, 32]⟩ : ByteArray).size = 4 from rfl, show (⟨#[125, 10]⟩ : ByteArray).size = 2 from rfl]); omega)
  clear hks hxb hsz h1
  go_enter Tryz.func41, Tryz.ntmps41
  go_wp2_with fail
  refine wp_region_quiet_below (by kernel_rfl) (by kernel_rfl) ?_
  repeat (go_big_quiet_step ((go_at_call 75; exact C0.out _ _)))
  refine wpQuiet_nil ?_
  intro _ hw'
  obtain ⟨⟨dq, osq⟩, hw''⟩ := hw'
  subst hw''
  go_wp2_with fail
  go_returns
  exact ⟨rfl, HX.out _ _⟩
set_option maxHeartbeats 4000000 in
set_option maxRecDepth 100000 in
theorem stmtR_2 (nm ahead : ByteArray) (r a b : Option Addr) (R A B rc ac bc : Nat) (d : Bool) (w : World) (T1 : ByteArray) (h1 : ∀ w', Ext w w' → Calls Tryz.prog 76 #[.slice r R rc, .bool d] w' fun e w'' => e = .returned (.string T1) ∧ Ext w' w'') (T2 : ByteArray) (h2 : ∀ w', Ext w w' → Calls Tryz.prog 75 #[.slice a A ac] w' fun e w'' => e = .returned (.string T2) ∧ Ext w' w'') (hsz : ahead.size + T1.size + T2.size + 2 ≤ 140737488355328) :
    Calls Tryz.prog 41 #[.agg #[.int .i64 2, .string nm, .slice r R rc, .slice a A ac, .slice b B bc], .bool d, .string ahead] w fun e w' => e = .returned (.string (ahead ++ T1 ++ T2 ++ ⟨#[59, 10]⟩)) ∧ Ext w w' := by
  have hxb : Ext w (w.alloc (.cells #[.int .i64 2, .string nm, .slice r R rc, .slice a A ac, .slice b B bc] 47)) := (Ext.refl _).alloc _
  have hks := stm_one w 2 nm r a b R A B rc ac bc
  dsimp only at hks
  have k0 := fun d os => (hks d os).2.1
  have k1 := fun d os => (hks d os).2.2.1
  have HX : Hid (∀ d os, Ext w (grow (redrawn (w.alloc (.cells #[.int .i64 2, .string nm, .slice r R rc, .slice a A ac, .slice b B bc] 47)) d) os)) := Lib.hid (fun d os => hxb.trans (below_regrown _ d os))
  have C0 := Lib.hid (fun dd os => regrown_ext hxb h1 dd os)
  have C1 := Lib.hid (fun dd os => regrown_ext hxb h2 dd os)
  have a0 := add_run (ahead) T1 (by (repeat rw [ByteArray.size_append]); (try simp only [show (⟨#[59, 10]⟩ : ByteArray).size = 2 from rfl, show (⟨#[32]⟩ : ByteArray).size = 1 from rfl, show (⟨#[115, 101, 116, 32]⟩ : ByteArray).size = 4 from rfl, show (⟨#[32, 61, 32]⟩ : ByteArray).size = 3 from rfl, show (⟨#[99, 108, 117, 115, 116, 101, 114, 32]⟩ : ByteArray).size = 8 from rfl, show (⟨#[32, 123, 10]⟩ : ByteArray).size = 3 from rfl, show (⟨#[32, 32, 32, 32]⟩ : ByteArray).size = 4 from rfl, show (⟨#[125, 10]⟩ : ByteArray).size = 2 from rfl]); omega)
  have a1 := add_run (ahead ++ T1) T2 (by (repeat rw [ByteArray.size_append]); (try simp only [show (⟨#[59, 10]⟩ : ByteArray).size = 2 from rfl, show (⟨#[32]⟩ : ByteArray).size = 1 from rfl, show (⟨#[115, 101, 116, 32]⟩ : ByteArray).size = 4 from rfl, show (⟨#[32, 61, 32]⟩ : ByteArray).size = 3 from rfl, show (⟨#[99, 108, 117, 115, 116, 101, 114, 32]⟩ : ByteArray).size = 8 from rfl, show (⟨#[32, 123, 10]⟩ : ByteArray).size = 3 from rfl, show (⟨#[32, 32, 32, 32]⟩ : ByteArray).size = 4 from rfl, show (⟨#[125, 10]⟩ : ByteArray).size = 2 from rfl]); omega)
  have a2 := add_run (ahead ++ T1 ++ T2) ⟨#[59, 10]⟩ (by (repeat rw [ByteArray.size_append]); (try simp only [show (⟨#[59, 10]⟩ : ByteArray).size = 2 from rfl, show (⟨#[32]⟩ : ByteArray).size = 1 from rfl, show (⟨#[115, 101, 116, 32]⟩ : ByteArray).size = 4 from rfl, show (⟨#[32, 61, 32]⟩ : ByteArray).size = 3 from rfl, show (⟨#[99, 108, 117, 115, 116, 101, 114, 32]⟩ : ByteArray).size = 8 from rfl, show (⟨#[32, 123, 10]⟩ : ByteArray).size = 3 from rfl, show (⟨#[32, 32, 32, 32]⟩ : ByteArray).size = 4 from rfl, show (⟨#[125, 10]⟩ : ByteArray).size = 2 from rfl]); omega)
  clear hks hxb hsz h1 h2
  go_enter Tryz.func41, Tryz.ntmps41
  go_wp2_with fail
  refine wp_region_quiet_below (by kernel_rfl) (by kernel_rfl) ?_
  repeat (go_big_quiet_step ((first | (go_at_call 76; exact C0.out _ _) | (go_at_call 75; exact C1.out _ _))))
  refine wpQuiet_nil ?_
  intro _ hw'
  obtain ⟨⟨dq, osq⟩, hw''⟩ := hw'
  subst hw''
  go_wp2_with fail
  go_returns
  exact ⟨rfl, HX.out _ _⟩
set_option maxHeartbeats 4000000 in
set_option maxRecDepth 100000 in
theorem stmtR_3 (nm ahead : ByteArray) (r a b : Option Addr) (R A B rc ac bc : Nat) (d : Bool) (w : World) (T1 : ByteArray) (h1 : ∀ w', Ext w w' → Calls Tryz.prog 26 #[.slice a A ac] w' fun e w'' => e = .returned (.string T1) ∧ Ext w' w'') (h0 : A ≠ 0) (hsz : ahead.size + nm.size + T1.size + 3 ≤ 140737488355328) :
    Calls Tryz.prog 41 #[.agg #[.int .i64 3, .string nm, .slice r R rc, .slice a A ac, .slice b B bc], .bool d, .string ahead] w fun e w' => e = .returned (.string (ahead ++ nm ++ ⟨#[32]⟩ ++ T1 ++ ⟨#[59, 10]⟩)) ∧ Ext w w' := by
  have hxb : Ext w (w.alloc (.cells #[.int .i64 3, .string nm, .slice r R rc, .slice a A ac, .slice b B bc] 47)) := (Ext.refl _).alloc _
  have hks := stm_one w 3 nm r a b R A B rc ac bc
  dsimp only at hks
  have k0 := fun d os => (hks d os).1
  have k1 := fun d os => (hks d os).2.2.1
  have HX : Hid (∀ d os, Ext w (grow (redrawn (w.alloc (.cells #[.int .i64 3, .string nm, .slice r R rc, .slice a A ac, .slice b B bc] 47)) d) os)) := Lib.hid (fun d os => hxb.trans (below_regrown _ d os))
  have C0 := Lib.hid (fun dd os => regrown_ext hxb h1 dd os)
  have a0 := add_run (ahead) nm (by (repeat rw [ByteArray.size_append]); (try simp only [show (⟨#[59, 10]⟩ : ByteArray).size = 2 from rfl, show (⟨#[32]⟩ : ByteArray).size = 1 from rfl, show (⟨#[115, 101, 116, 32]⟩ : ByteArray).size = 4 from rfl, show (⟨#[32, 61, 32]⟩ : ByteArray).size = 3 from rfl, show (⟨#[99, 108, 117, 115, 116, 101, 114, 32]⟩ : ByteArray).size = 8 from rfl, show (⟨#[32, 123, 10]⟩ : ByteArray).size = 3 from rfl, show (⟨#[32, 32, 32, 32]⟩ : ByteArray).size = 4 from rfl, show (⟨#[125, 10]⟩ : ByteArray).size = 2 from rfl]); omega)
  have a1 := add_run (ahead ++ nm) ⟨#[32]⟩ (by (repeat rw [ByteArray.size_append]); (try simp only [show (⟨#[59, 10]⟩ : ByteArray).size = 2 from rfl, show (⟨#[32]⟩ : ByteArray).size = 1 from rfl, show (⟨#[115, 101, 116, 32]⟩ : ByteArray).size = 4 from rfl, show (⟨#[32, 61, 32]⟩ : ByteArray).size = 3 from rfl, show (⟨#[99, 108, 117, 115, 116, 101, 114, 32]⟩ : ByteArray).size = 8 from rfl, show (⟨#[32, 123, 10]⟩ : ByteArray).size = 3 from rfl, show (⟨#[32, 32, 32, 32]⟩ : ByteArray).size = 4 from rfl, show (⟨#[125, 10]⟩ : ByteArray).size = 2 from rfl]); omega)
  have a2 := add_run (ahead ++ nm ++ ⟨#[32]⟩) T1 (by (repeat rw [ByteArray.size_append]); (try simp only [show (⟨#[59, 10]⟩ : ByteArray).size = 2 from rfl, show (⟨#[32]⟩ : ByteArray).size = 1 from rfl, show (⟨#[115, 101, 116, 32]⟩ : ByteArray).size = 4 from rfl, show (⟨#[32, 61, 32]⟩ : ByteArray).size = 3 from rfl, show (⟨#[99, 108, 117, 115, 116, 101, 114, 32]⟩ : ByteArray).size = 8 from rfl, show (⟨#[32, 123, 10]⟩ : ByteArray).size = 3 from rfl, show (⟨#[32, 32, 32, 32]⟩ : ByteArray).size = 4 from rfl, show (⟨#[125, 10]⟩ : ByteArray).size = 2 from rfl]); omega)
  have a3 := add_run (ahead ++ nm ++ ⟨#[32]⟩ ++ T1) ⟨#[59, 10]⟩ (by (repeat rw [ByteArray.size_append]); (try simp only [show (⟨#[59, 10]⟩ : ByteArray).size = 2 from rfl, show (⟨#[32]⟩ : ByteArray).size = 1 from rfl, show (⟨#[115, 101, 116, 32]⟩ : ByteArray).size = 4 from rfl, show (⟨#[32, 61, 32]⟩ : ByteArray).size = 3 from rfl, show (⟨#[99, 108, 117, 115, 116, 101, 114, 32]⟩ : ByteArray).size = 8 from rfl, show (⟨#[32, 123, 10]⟩ : ByteArray).size = 3 from rfl, show (⟨#[32, 32, 32, 32]⟩ : ByteArray).size = 4 from rfl, show (⟨#[125, 10]⟩ : ByteArray).size = 2 from rfl]); omega)
  have a4 := (show ((A : Int) == 0) = false by rw [beq_eq_false_iff_ne]; omega)
  have a5 := (stm_cells w 3 nm r a b R A B rc ac bc _ (Ext.refl _)).2.2.2.1
  clear hks hxb hsz h1 h0
  go_enter Tryz.func41, Tryz.ntmps41
  go_wp2_with fail
  refine wp_region_quiet_below (by kernel_rfl) (by kernel_rfl) ?_
  repeat (go_big_quiet_step ((go_at_call 26; exact C0.out _ _)))
  refine wpQuiet_nil ?_
  intro _ hw'
  obtain ⟨⟨dq, osq⟩, hw''⟩ := hw'
  subst hw''
  go_wp2_with fail
  go_returns
  exact ⟨rfl, HX.out _ _⟩
set_option maxHeartbeats 4000000 in
theorem stmtR_3e (nm ahead : ByteArray) (r a b : Option Addr) (R B rc ac bc : Nat) (d : Bool) (w : World) (hsz : ahead.size + nm.size + 5 ≤ 140737488355328) :
    Calls Tryz.prog 41 #[.agg #[.int .i64 3, .string nm, .slice r R rc, .slice a 0 ac, .slice b B bc], .bool d, .string ahead] w fun e w' => e = .returned (.string (ahead ++ nm ++ ⟨#[32, 91, 93, 59, 10]⟩)) ∧ Ext w w' := by
  have hx := (Ext.refl w).alloc (.cells #[.int .i64 3, .string nm, .slice r R rc, .slice a 0 ac, .slice b B bc] 47)
  have a0 := add_run ahead nm (by omega)
  have a1 := add_run (ahead ++ nm) ⟨#[32, 91, 93, 59, 10]⟩ (by rw [ByteArray.size_append]; show _ + 5 ≤ _; omega)
  clear hsz
  go_enter Tryz.func41, Tryz.ntmps41
  go_wp2
  go_returns
  exact ⟨rfl, hx⟩
set_option maxHeartbeats 4000000 in
set_option maxRecDepth 100000 in
theorem stmtR_4 (nm ahead : ByteArray) (r b : Option Addr) (R B rc ac bc : Nat) (d : Bool) (w : World) (v : ByteArray) (g o : Nat) (hc : w.cell? ⟨g, o + 1, none⟩ = some (.string v)) (T1 : ByteArray) (h1 : ∀ w', Ext w w' → Calls Tryz.prog 44 #[.string v] w' fun e w'' => e = .returned (.string T1) ∧ Ext w' w'') (hsz : ahead.size + nm.size + T1.size + 9 ≤ 140737488355328) :
    Calls Tryz.prog 41 #[.agg #[.int .i64 4, .string nm, .slice r R rc, .slice (some ⟨g, o, none⟩) 1 ac, .slice b B bc], .bool d, .string ahead] w fun e w' => e = .returned (.string (ahead ++ ⟨#[115, 101, 116, 32]⟩ ++ nm ++ ⟨#[32, 61, 32]⟩ ++ T1 ++ ⟨#[59, 10]⟩)) ∧ Ext w w' := by
  have hxb : Ext w (w.alloc (.cells #[.int .i64 4, .string nm, .slice r R rc, .slice (some ⟨g, o, none⟩) 1 ac, .slice b B bc] 47)) := (Ext.refl _).alloc _
  have hks := stm_one w 4 nm r (some ⟨g, o, none⟩) b R 1 B rc ac bc
  dsimp only at hks
  have k0 := fun d os => (hks d os).1
  have k1 := fun d os => (hks d os).2.2.1
  have kc := fun d os => (hxb.trans (below_regrown _ d os)).cell hc
  have HX : Hid (∀ d os, Ext w (grow (redrawn (w.alloc (.cells #[.int .i64 4, .string nm, .slice r R rc, .slice (some ⟨g, o, none⟩) 1 ac, .slice b B bc] 47)) d) os)) := Lib.hid (fun d os => hxb.trans (below_regrown _ d os))
  have C0 := Lib.hid (fun dd os => regrown_ext hxb h1 dd os)
  have a0 := add_run (ahead) ⟨#[115, 101, 116, 32]⟩ (by (repeat rw [ByteArray.size_append]); (try simp only [show (⟨#[59, 10]⟩ : ByteArray).size = 2 from rfl, show (⟨#[32]⟩ : ByteArray).size = 1 from rfl, show (⟨#[115, 101, 116, 32]⟩ : ByteArray).size = 4 from rfl, show (⟨#[32, 61, 32]⟩ : ByteArray).size = 3 from rfl, show (⟨#[99, 108, 117, 115, 116, 101, 114, 32]⟩ : ByteArray).size = 8 from rfl, show (⟨#[32, 123, 10]⟩ : ByteArray).size = 3 from rfl, show (⟨#[32, 32, 32, 32]⟩ : ByteArray).size = 4 from rfl, show (⟨#[125, 10]⟩ : ByteArray).size = 2 from rfl]); omega)
  have a1 := add_run (ahead ++ ⟨#[115, 101, 116, 32]⟩) nm (by (repeat rw [ByteArray.size_append]); (try simp only [show (⟨#[59, 10]⟩ : ByteArray).size = 2 from rfl, show (⟨#[32]⟩ : ByteArray).size = 1 from rfl, show (⟨#[115, 101, 116, 32]⟩ : ByteArray).size = 4 from rfl, show (⟨#[32, 61, 32]⟩ : ByteArray).size = 3 from rfl, show (⟨#[99, 108, 117, 115, 116, 101, 114, 32]⟩ : ByteArray).size = 8 from rfl, show (⟨#[32, 123, 10]⟩ : ByteArray).size = 3 from rfl, show (⟨#[32, 32, 32, 32]⟩ : ByteArray).size = 4 from rfl, show (⟨#[125, 10]⟩ : ByteArray).size = 2 from rfl]); omega)
  have a2 := add_run (ahead ++ ⟨#[115, 101, 116, 32]⟩ ++ nm) ⟨#[32, 61, 32]⟩ (by (repeat rw [ByteArray.size_append]); (try simp only [show (⟨#[59, 10]⟩ : ByteArray).size = 2 from rfl, show (⟨#[32]⟩ : ByteArray).size = 1 from rfl, show (⟨#[115, 101, 116, 32]⟩ : ByteArray).size = 4 from rfl, show (⟨#[32, 61, 32]⟩ : ByteArray).size = 3 from rfl, show (⟨#[99, 108, 117, 115, 116, 101, 114, 32]⟩ : ByteArray).size = 8 from rfl, show (⟨#[32, 123, 10]⟩ : ByteArray).size = 3 from rfl, show (⟨#[32, 32, 32, 32]⟩ : ByteArray).size = 4 from rfl, show (⟨#[125, 10]⟩ : ByteArray).size = 2 from rfl]); omega)
  have a3 := add_run (ahead ++ ⟨#[115, 101, 116, 32]⟩ ++ nm ++ ⟨#[32, 61, 32]⟩) T1 (by (repeat rw [ByteArray.size_append]); (try simp only [show (⟨#[59, 10]⟩ : ByteArray).size = 2 from rfl, show (⟨#[32]⟩ : ByteArray).size = 1 from rfl, show (⟨#[115, 101, 116, 32]⟩ : ByteArray).size = 4 from rfl, show (⟨#[32, 61, 32]⟩ : ByteArray).size = 3 from rfl, show (⟨#[99, 108, 117, 115, 116, 101, 114, 32]⟩ : ByteArray).size = 8 from rfl, show (⟨#[32, 123, 10]⟩ : ByteArray).size = 3 from rfl, show (⟨#[32, 32, 32, 32]⟩ : ByteArray).size = 4 from rfl, show (⟨#[125, 10]⟩ : ByteArray).size = 2 from rfl]); omega)
  have a4 := add_run (ahead ++ ⟨#[115, 101, 116, 32]⟩ ++ nm ++ ⟨#[32, 61, 32]⟩ ++ T1) ⟨#[59, 10]⟩ (by (repeat rw [ByteArray.size_append]); (try simp only [show (⟨#[59, 10]⟩ : ByteArray).size = 2 from rfl, show (⟨#[32]⟩ : ByteArray).size = 1 from rfl, show (⟨#[115, 101, 116, 32]⟩ : ByteArray).size = 4 from rfl, show (⟨#[32, 61, 32]⟩ : ByteArray).size = 3 from rfl, show (⟨#[99, 108, 117, 115, 116, 101, 114, 32]⟩ : ByteArray).size = 8 from rfl, show (⟨#[32, 123, 10]⟩ : ByteArray).size = 3 from rfl, show (⟨#[32, 32, 32, 32]⟩ : ByteArray).size = 4 from rfl, show (⟨#[125, 10]⟩ : ByteArray).size = 2 from rfl]); omega)
  clear hks hxb hsz h1 hc
  go_enter Tryz.func41, Tryz.ntmps41
  go_wp2_with fail
  refine wp_region_quiet_below (by kernel_rfl) (by kernel_rfl) ?_
  repeat (go_big_quiet_step ((go_at_call 44; exact C0.out _ _)))
  refine wpQuiet_nil ?_
  intro _ hw'
  obtain ⟨⟨dq, osq⟩, hw''⟩ := hw'
  subst hw''
  go_wp2_with fail
  go_returns
  exact ⟨rfl, HX.out _ _⟩
set_option maxHeartbeats 4000000 in
set_option maxRecDepth 100000 in
theorem stmtR_5 (nm ahead : ByteArray) (r a b : Option Addr) (R A B rc ac bc : Nat) (d : Bool) (w : World) (T1 : ByteArray) (h1 : ∀ w', Ext w w' → Calls Tryz.prog 24 #[.slice b B bc, .bool d, .string (ahead ++ ⟨#[32, 32, 32, 32]⟩)] w' fun e w'' => e = .returned (.string T1) ∧ Ext w' w'') (hsz : ahead.size + nm.size + T1.size + ahead.size + 20 ≤ 140737488355328) :
    Calls Tryz.prog 41 #[.agg #[.int .i64 5, .string nm, .slice r R rc, .slice a A ac, .slice b B bc], .bool d, .string ahead] w fun e w' => e = .returned (.string (ahead ++ ⟨#[99, 108, 117, 115, 116, 101, 114, 32]⟩ ++ nm ++ ⟨#[32, 123, 10]⟩ ++ T1 ++ ahead ++ ⟨#[125, 10]⟩)) ∧ Ext w w' := by
  have hxb : Ext w (w.alloc (.cells #[.int .i64 5, .string nm, .slice r R rc, .slice a A ac, .slice b B bc] 47)) := (Ext.refl _).alloc _
  have hks := stm_one w 5 nm r a b R A B rc ac bc
  dsimp only at hks
  have k0 := fun d os => (hks d os).1
  have k1 := fun d os => (hks d os).2.2.2
  have HX : Hid (∀ d os, Ext w (grow (redrawn (w.alloc (.cells #[.int .i64 5, .string nm, .slice r R rc, .slice a A ac, .slice b B bc] 47)) d) os)) := Lib.hid (fun d os => hxb.trans (below_regrown _ d os))
  have C0 := Lib.hid (fun dd os => regrown_ext hxb h1 dd os)
  have a0 := add_run (ahead) ⟨#[99, 108, 117, 115, 116, 101, 114, 32]⟩ (by (repeat rw [ByteArray.size_append]); (try simp only [show (⟨#[59, 10]⟩ : ByteArray).size = 2 from rfl, show (⟨#[32]⟩ : ByteArray).size = 1 from rfl, show (⟨#[115, 101, 116, 32]⟩ : ByteArray).size = 4 from rfl, show (⟨#[32, 61, 32]⟩ : ByteArray).size = 3 from rfl, show (⟨#[99, 108, 117, 115, 116, 101, 114, 32]⟩ : ByteArray).size = 8 from rfl, show (⟨#[32, 123, 10]⟩ : ByteArray).size = 3 from rfl, show (⟨#[32, 32, 32, 32]⟩ : ByteArray).size = 4 from rfl, show (⟨#[125, 10]⟩ : ByteArray).size = 2 from rfl]); omega)
  have a1 := add_run (ahead ++ ⟨#[99, 108, 117, 115, 116, 101, 114, 32]⟩) nm (by (repeat rw [ByteArray.size_append]); (try simp only [show (⟨#[59, 10]⟩ : ByteArray).size = 2 from rfl, show (⟨#[32]⟩ : ByteArray).size = 1 from rfl, show (⟨#[115, 101, 116, 32]⟩ : ByteArray).size = 4 from rfl, show (⟨#[32, 61, 32]⟩ : ByteArray).size = 3 from rfl, show (⟨#[99, 108, 117, 115, 116, 101, 114, 32]⟩ : ByteArray).size = 8 from rfl, show (⟨#[32, 123, 10]⟩ : ByteArray).size = 3 from rfl, show (⟨#[32, 32, 32, 32]⟩ : ByteArray).size = 4 from rfl, show (⟨#[125, 10]⟩ : ByteArray).size = 2 from rfl]); omega)
  have a2 := add_run (ahead ++ ⟨#[99, 108, 117, 115, 116, 101, 114, 32]⟩ ++ nm) ⟨#[32, 123, 10]⟩ (by (repeat rw [ByteArray.size_append]); (try simp only [show (⟨#[59, 10]⟩ : ByteArray).size = 2 from rfl, show (⟨#[32]⟩ : ByteArray).size = 1 from rfl, show (⟨#[115, 101, 116, 32]⟩ : ByteArray).size = 4 from rfl, show (⟨#[32, 61, 32]⟩ : ByteArray).size = 3 from rfl, show (⟨#[99, 108, 117, 115, 116, 101, 114, 32]⟩ : ByteArray).size = 8 from rfl, show (⟨#[32, 123, 10]⟩ : ByteArray).size = 3 from rfl, show (⟨#[32, 32, 32, 32]⟩ : ByteArray).size = 4 from rfl, show (⟨#[125, 10]⟩ : ByteArray).size = 2 from rfl]); omega)
  have a3 := add_run (ahead ++ ⟨#[99, 108, 117, 115, 116, 101, 114, 32]⟩ ++ nm ++ ⟨#[32, 123, 10]⟩) T1 (by (repeat rw [ByteArray.size_append]); (try simp only [show (⟨#[59, 10]⟩ : ByteArray).size = 2 from rfl, show (⟨#[32]⟩ : ByteArray).size = 1 from rfl, show (⟨#[115, 101, 116, 32]⟩ : ByteArray).size = 4 from rfl, show (⟨#[32, 61, 32]⟩ : ByteArray).size = 3 from rfl, show (⟨#[99, 108, 117, 115, 116, 101, 114, 32]⟩ : ByteArray).size = 8 from rfl, show (⟨#[32, 123, 10]⟩ : ByteArray).size = 3 from rfl, show (⟨#[32, 32, 32, 32]⟩ : ByteArray).size = 4 from rfl, show (⟨#[125, 10]⟩ : ByteArray).size = 2 from rfl]); omega)
  have a4 := add_run (ahead ++ ⟨#[99, 108, 117, 115, 116, 101, 114, 32]⟩ ++ nm ++ ⟨#[32, 123, 10]⟩ ++ T1) ahead (by (repeat rw [ByteArray.size_append]); (try simp only [show (⟨#[59, 10]⟩ : ByteArray).size = 2 from rfl, show (⟨#[32]⟩ : ByteArray).size = 1 from rfl, show (⟨#[115, 101, 116, 32]⟩ : ByteArray).size = 4 from rfl, show (⟨#[32, 61, 32]⟩ : ByteArray).size = 3 from rfl, show (⟨#[99, 108, 117, 115, 116, 101, 114, 32]⟩ : ByteArray).size = 8 from rfl, show (⟨#[32, 123, 10]⟩ : ByteArray).size = 3 from rfl, show (⟨#[32, 32, 32, 32]⟩ : ByteArray).size = 4 from rfl, show (⟨#[125, 10]⟩ : ByteArray).size = 2 from rfl]); omega)
  have a5 := add_run (ahead ++ ⟨#[99, 108, 117, 115, 116, 101, 114, 32]⟩ ++ nm ++ ⟨#[32, 123, 10]⟩ ++ T1 ++ ahead) ⟨#[125, 10]⟩ (by (repeat rw [ByteArray.size_append]); (try simp only [show (⟨#[59, 10]⟩ : ByteArray).size = 2 from rfl, show (⟨#[32]⟩ : ByteArray).size = 1 from rfl, show (⟨#[115, 101, 116, 32]⟩ : ByteArray).size = 4 from rfl, show (⟨#[32, 61, 32]⟩ : ByteArray).size = 3 from rfl, show (⟨#[99, 108, 117, 115, 116, 101, 114, 32]⟩ : ByteArray).size = 8 from rfl, show (⟨#[32, 123, 10]⟩ : ByteArray).size = 3 from rfl, show (⟨#[32, 32, 32, 32]⟩ : ByteArray).size = 4 from rfl, show (⟨#[125, 10]⟩ : ByteArray).size = 2 from rfl]); omega)
  have a6 := add_run ahead ⟨#[32, 32, 32, 32]⟩ (by (repeat rw [ByteArray.size_append]); (try simp only [show (⟨#[59, 10]⟩ : ByteArray).size = 2 from rfl, show (⟨#[32]⟩ : ByteArray).size = 1 from rfl, show (⟨#[115, 101, 116, 32]⟩ : ByteArray).size = 4 from rfl, show (⟨#[32, 61, 32]⟩ : ByteArray).size = 3 from rfl, show (⟨#[99, 108, 117, 115, 116, 101, 114, 32]⟩ : ByteArray).size = 8 from rfl, show (⟨#[32, 123, 10]⟩ : ByteArray).size = 3 from rfl, show (⟨#[32, 32, 32, 32]⟩ : ByteArray).size = 4 from rfl, show (⟨#[125, 10]⟩ : ByteArray).size = 2 from rfl]); omega)
  clear hks hxb hsz h1
  go_enter Tryz.func41, Tryz.ntmps41
  go_wp2_with fail
  refine wp_region_quiet_below (by kernel_rfl) (by kernel_rfl) ?_
  repeat (go_big_quiet_step ((go_at_call 24; exact C0.out _ _)))
  refine wpQuiet_nil ?_
  intro _ hw'
  obtain ⟨⟨dq, osq⟩, hw''⟩ := hw'
  subst hw''
  go_wp2_with fail
  go_returns
  exact ⟨rfl, HX.out _ _⟩
end Go.Proofs.YtnjnfkfmkbnkhaaGreatDoor.Tr

/- What form and named of the tree return, the rest. -/
namespace Go.Proofs.YtnjnfkfmkbnkhaaGreatDoor.Tr
open Go.RowKit Go.Sort Go.Lib Go.Shelf Fx Lx

set_option maxHeartbeats 4000000 in
theorem form_else (k : Int) (nm : ByteArray) (r a b : Option Addr) (R A B rc ac bc : Nat) (w : World) (h1 : k ≠ 1) (h2 : k ≠ 2) (h3 : k ≠ 3) (h4 : k ≠ 4) (h5 : k ≠ 5) :
    Calls Tryz.prog 65 #[.agg #[.int .i64 k, .string nm, .slice r R rc, .slice a A ac, .slice b B bc]] w fun e w' => e = .returned (.int .i64 1) ∧ Ext w w' := by
  obtain ⟨f1, f1'⟩ := ne_facts h1
  obtain ⟨f2, f2'⟩ := ne_facts h2
  obtain ⟨f3, f3'⟩ := ne_facts h3
  obtain ⟨f4, f4'⟩ := ne_facts h4
  obtain ⟨f5, f5'⟩ := ne_facts h5
  clear h1 h2 h3 h4 h5
  go_enter Tryz.func65, Tryz.ntmps65
  go_wp2
  go_ret
  exact ⟨rfl, (Ext.refl _).alloc _⟩
theorem named_any (k : Int) (w : World) : Calls Tryz.prog 66 #[.int .i64 k] w fun e w' => e = .returned (.bool (decide (k = 1 ∨ k = 4 ∨ k = 5))) ∧ w = w' := by
  by_cases h1 : k = 1
  · subst h1
    go_enter Tryz.func66, Tryz.ntmps66
    go_wp2
    go_ret
    exact ⟨rfl, rfl⟩
  by_cases h4 : k = 4
  · subst h4
    go_enter Tryz.func66, Tryz.ntmps66
    go_wp2
    go_ret
    exact ⟨rfl, rfl⟩
  by_cases h5 : k = 5
  · subst h5
    go_enter Tryz.func66, Tryz.ntmps66
    go_wp2
    go_ret
    exact ⟨rfl, rfl⟩
  rw [decide_eq_false (by omega)]
  obtain ⟨f1, f1'⟩ := ne_facts h1
  obtain ⟨f4, f4'⟩ := ne_facts h4
  obtain ⟨f5, f5'⟩ := ne_facts h5
  clear h1 h4 h5
  go_enter Tryz.func66, Tryz.ntmps66
  go_wp2
  go_ret
  exact ⟨rfl, rfl⟩
theorem litEq (n : ByteArray) (l : List UInt8) : (n.toList == l) = decide (n.data.toList = l) := by
  rw [ByteArray.toList_eq, Bool.eq_iff_iff, beq_iff_eq, decide_eq_true_eq]
set_option maxHeartbeats 4000000 in
theorem form_default (nm : ByteArray) (r a b : Option Addr) (R A B rc ac bc : Nat) (w : World) :
    Calls Tryz.prog 65 #[.agg #[.int .i64 3, .string nm, .slice r R rc, .slice a A ac, .slice b B bc]] w fun e w' => e = .returned (.int .i64 (if (decide (R = 0) && decide (B = 0) && (decide (nm.data.toList = [110, 111, 100, 101]) || decide (nm.data.toList = [101, 100, 103, 101]))) = true then 0 else 1)) ∧ Ext w w' := by
  by_cases hR : R = 0
  · by_cases hB : B = 0
    · subst hR; subst hB
      have n1 := litEq nm [110, 111, 100, 101]
      have n2 := litEq nm [101, 100, 103, 101]
      cases q1 : decide (nm.data.toList = [110, 111, 100, 101])
      · rw [q1] at n1
        clear q1
        cases q2 : decide (nm.data.toList = [101, 100, 103, 101])
        · rw [q2] at n2
          clear q2
          go_enter Tryz.func65, Tryz.ntmps65
          go_wp2
          go_ret
          exact ⟨rfl, (Ext.refl _).alloc _⟩
        · rw [q2] at n2
          clear q2
          go_enter Tryz.func65, Tryz.ntmps65
          go_wp2
          go_ret
          exact ⟨rfl, (Ext.refl _).alloc _⟩
      · rw [q1] at n1
        clear q1 n2
        go_enter Tryz.func65, Tryz.ntmps65
        go_wp2
        go_ret
        exact ⟨rfl, (Ext.refl _).alloc _⟩
    · subst hR
      have f1 : ((B : Int) == 0) = false := by simpa using hB
      rw [decide_eq_false hB]
      clear hB
      go_enter Tryz.func65, Tryz.ntmps65
      go_wp2
      go_ret
      exact ⟨rfl, (Ext.refl _).alloc _⟩
  · have f1 : ((R : Int) == 0) = false := by simpa using hR
    rw [decide_eq_false hR]
    clear hR
    go_enter Tryz.func65, Tryz.ntmps65
    go_wp2
    go_ret
    exact ⟨rfl, (Ext.refl _).alloc _⟩
set_option maxHeartbeats 4000000 in
theorem form_set (nm : ByteArray) (r a b : Option Addr) (R B rc ac bc : Nat) (al : List Two) (w : World) (h : TwoIn w a al) :
    Calls Tryz.prog 65 #[.agg #[.int .i64 4, .string nm, .slice r R rc, .slice a al.length ac, .slice b B bc]] w fun e w' => e = .returned (.int .i64 (if (decide (R = 0) && decide (B = 0) && setB al) = true then 0 else 1)) ∧ Ext w w' := by
  by_cases hR : R = 0
  · by_cases hB : B = 0
    · subst hR; subst hB
      by_cases h1 : al.length = 1
      · obtain ⟨⟨k, v⟩, rfl⟩ : ∃ q, al = [q] := by
          match al, h1 with
          | [q], _ => exact ⟨q, rfl⟩
        obtain ⟨g, o, rfl, c0, c1⟩ := h 0 (by simp)
        simp only [Nat.zero_mul, Nat.add_zero, List.getElem_cons_zero] at c0 c1
        have d0 : ∀ o', (w.alloc o').cell? ⟨g, o, none⟩ = some (.string k) := fun o' => ((Ext.refl w).alloc o').cell c0
        have d1 : ∀ o', (w.alloc o').cell? ⟨g, o + 1, none⟩ = some (.string v) := fun o' => ((Ext.refl w).alloc o').cell c1
        clear h h1 c1
        have n1 := @size0 k
        rw [show setB [(k, v)] = decide (k.size = 0) from rfl]
        cases q1 : decide (k.size = 0)
        · rw [q1] at n1
          clear q1
          simp only [List.length_cons, List.length_nil, Nat.zero_add]
          go_enter Tryz.func65, Tryz.ntmps65
          go_wp2
          go_ret
          exact ⟨rfl, (Ext.refl _).alloc _⟩
        · rw [q1] at n1
          clear q1
          simp only [List.length_cons, List.length_nil, Nat.zero_add]
          go_enter Tryz.func65, Tryz.ntmps65
          go_wp2
          go_ret
          exact ⟨rfl, (Ext.refl _).alloc _⟩
      · have hm : setB al = false := by
          unfold setB
          match al, h1 with
          | [], _ => rfl
          | [q], h1 => exact absurd rfl h1
          | _ :: _ :: _, _ => rfl
        rw [hm]
        have f1 : ((al.length : Int) == 1) = false := by
          rw [beq_eq_false_iff_ne]; omega
        clear hm h1 h
        generalize al.length = A at *
        go_enter Tryz.func65, Tryz.ntmps65
        go_wp2
        go_ret
        exact ⟨rfl, (Ext.refl _).alloc _⟩
    · subst hR
      have f1 : ((B : Int) == 0) = false := by simpa using hB
      rw [decide_eq_false hB]
      clear hB h
      generalize al.length = A at *
      go_enter Tryz.func65, Tryz.ntmps65
      go_wp2
      go_ret
      exact ⟨rfl, (Ext.refl _).alloc _⟩
  · have f1 : ((R : Int) == 0) = false := by simpa using hR
    rw [decide_eq_false hR]
    clear hR h
    generalize al.length = A at *
    go_enter Tryz.func65, Tryz.ntmps65
    go_wp2
    go_ret
    exact ⟨rfl, (Ext.refl _).alloc _⟩
theorem isE {α : Type} (L : List α) : L.isEmpty = decide (L.length = 0) := by cases L <;> rfl
theorem formB_mk (k : Int) (nm : ByteArray) (rs al : List Two) (body : List Stm) : formB (.mk k nm rs al body) =
    if k = 1 then decide (rs.length = 0) && decide (body.length = 0)
    else if k = 2 then decide (nm.size = 0) && decide (body.length = 0) && decide (2 ≤ rs.length)
    else if k = 3 then decide (rs.length = 0) && decide (body.length = 0) && (decide (nm.data.toList = [110, 111, 100, 101]) || decide (nm.data.toList = [101, 100, 103, 101]))
    else if k = 4 then decide (rs.length = 0) && decide (body.length = 0) && setB al
    else if k = 5 then decide (rs.length = 0) && decide (al.length = 0)
    else false := by
  rw [← isE, ← isE, ← isE]; rfl
/-- The program's form. -/
theorem form_any (k : Int) (nm : ByteArray) (rs al : List Two) (body : List Stm) (r a b : Option Addr) (rc ac bc : Nat) (w : World) (h : TwoIn w a al) :
    Calls Tryz.prog 65 #[.agg #[.int .i64 k, .string nm, .slice r rs.length rc, .slice a al.length ac, .slice b body.length bc]] w fun e w' => e = .returned (.int .i64 (if formB (.mk k nm rs al body) = true then 0 else 1)) ∧ Ext w w' := by
  rw [formB_mk]
  by_cases h1 : k = 1
  · rw [if_pos h1]; subst h1; exact form_node nm r a b _ _ _ rc ac bc w
  rw [if_neg h1]
  by_cases h2 : k = 2
  · rw [if_pos h2]; subst h2; exact form_edge nm r a b _ _ _ rc ac bc w
  rw [if_neg h2]
  by_cases h3 : k = 3
  · rw [if_pos h3]; subst h3; exact form_default nm r a b _ _ _ rc ac bc w
  rw [if_neg h3]
  by_cases h4 : k = 4
  · rw [if_pos h4]; subst h4; exact form_set nm r a b _ _ rc ac bc al w h
  rw [if_neg h4]
  by_cases h5 : k = 5
  · rw [if_pos h5]; subst h5; exact form_cluster nm r a b _ _ _ rc ac bc w
  rw [if_neg h5]
  exact form_else k nm r a b _ _ _ rc ac bc w h1 h2 h3 h4 h5
end Go.Proofs.YtnjnfkfmkbnkhaaGreatDoor.Tr
