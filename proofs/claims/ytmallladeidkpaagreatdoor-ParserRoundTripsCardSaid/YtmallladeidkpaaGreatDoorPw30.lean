/- Packed texts: TreLisR, TreStmR -/
import Derived.Test.YtmallladeidkpaaGreatDoorPw29
import Derived.Test.YtmallladeidkpaaGreatDoorPw12
import Derived.Deep.QuietTactic
import Derived.BigQuiet
import Derived.Lib.QuietBelow
import Derived.Test.YtmallladeidkpaaGreatDoorPw16
set_option linter.unusedVariables false
set_option linter.unusedSimpArgs false
/- What the document's list, after and refs return. -/
namespace Go.Proofs.YtmallladeidkpaaGreatDoor.Tr
open Go.RowKit Go.Sort Go.Lib Go.Shelf Fx Lx

abbrev bs (l : List UInt8) : ByteArray := ⟨l.toArray⟩
theorem bs_app (a b : List UInt8) : bs a ++ bs b = bs (a ++ b) := by
  apply ByteArray.ext; simp [ByteArray.data_append]
theorem bs_data (s : ByteArray) : bs s.data.toList = s := by cases s; simp
theorem bs_size (l : List UInt8) : (bs l).size = l.length := by simp [ByteArray.size]
theorem add_run (a b : ByteArray) (h : a.size + b.size ≤ 140737488355328) : ∀ w, (Op.stringOp .add a b).run Tryz.prog w = .ok (.string (a ++ b)) w := fun w => run_string_add_sum w _ _ (Nat.le_trans h (by decide))
/-- The text of a list, as the document has it. -/
def listRT (a : List Two) : List UInt8 := if a.isEmpty = true then [] else listedT a
/-- The list's text up to a place. -/
def listP (a : List Two) : List UInt8 := 91 :: sepT [44, 32] (a.map attrT)
theorem listP_snoc (a : List Two) (q : Two) : listP (a ++ [q]) = if a.isEmpty = true then 91 :: attrT q else listP a ++ [44, 32] ++ attrT q := by
  unfold listP
  rw [List.map_append, List.map_cons, List.map_nil, sepT_snoc]
  cases a <;> simp
theorem sepT_prefix (sep : List UInt8) (M : List (List UInt8)) : ∀ L : List (List UInt8), (sepT sep L).length ≤ (sepT sep (L ++ M)).length
  | [] => by simp [sepT]
  | [x] => by
    cases M with
    | nil => exact Nat.le_refl _
    | cons y r => show x.length ≤ (x ++ sep ++ sepT sep (y :: r)).length; rw [List.length_append, List.length_append]; omega
  | x :: y :: r => by
    have := sepT_prefix sep M (y :: r)
    show (x ++ sep ++ sepT sep (y :: r)).length ≤ (x ++ sep ++ sepT sep (y :: r ++ M)).length
    simp only [List.length_append] at this ⊢
    omega
set_option maxHeartbeats 4000000 in
set_option maxRecDepth 100000 in
theorem listR_any (a : Option Addr) (L : List Two) (cap : Nat) (w : World) (h : TwoIn w a L) (hL : L.length ≤ 2000000) (hs : ∀ q ∈ L, q.2.size < 4294967281) (hlen : (listedT L).length ≤ 140737488355328) :
    Calls Tryz.prog 27 #[.slice a L.length cap] w fun e w' => e = .returned (.string (bs (listRT L))) ∧ Ext w w' := by
  by_cases h0 : L = []
  · subst h0
    clear h hs hlen hL
    go_enter Tryz.func27, Tryz.ntmps27
    go_wp2
    go_returns
    exact ⟨rfl, Ext.refl _⟩
  have hp0 : 0 < L.length := List.length_pos_iff.2 h0
  obtain ⟨V, hV⟩ : ∃ V : ByteArray, V = bs (listRT L) := ⟨_, rfl⟩
  rw [← hV]
  have hVV : V = bs (listP L) ++ ⟨#[93]⟩ := by
    rw [hV, show (⟨#[93]⟩ : ByteArray) = bs [93] from rfl, bs_app]
    unfold listRT listedT listP
    rw [if_neg (by simpa using h0)]
    rfl
  have hle : ∀ k, (listP (L.take k)).length ≤ 140737488355327 := fun k => by
    have := sepT_prefix [44, 32] ((L.drop k).map attrT) ((L.take k).map attrT)
    rw [← List.map_append, List.take_append_drop] at this
    unfold listP
    unfold listedT at hlen
    simp only [List.length_cons, List.length_append, List.length_nil] at hlen ⊢
    omega
  obtain ⟨N, hN⟩ : ∃ N, N = L.length := ⟨_, rfl⟩
  have f1 : ((N : Int) == 0) = false := by rw [beq_eq_false_iff_ne]; omega
  rw [← hN] at hL ⊢
  have HV := Lib.hid hVV; have HLE := Lib.hid hle
  have HN := Lib.hid hN; have HI := Lib.hid h; have HS := Lib.hid hs
  have HZ : Hid (bs (listP (L.take 0)) = ⟨#[91]⟩) := Lib.hid rfl
  clear hVV hle hV hN h hs hlen h0 hp0
  go_enter Tryz.func27, Tryz.ntmps27
  go_wp2
  go_loopw [3, 4] (fun s' i' wr => ∃ (k : Nat) (s : ByteArray), k ≤ N ∧ s' = .string s ∧ i' = .int .i64 k ∧ Ext w wr ∧ Hid (s = bs (listP (L.take k)))) (fun _ i' _ => N - (RowKit.intOf i').toNat)
  case atStart => exact ⟨0, _, by omega, rfl, rfl, Ext.refl _, Lib.hid HZ.out.symm⟩
  case round =>
    obtain ⟨k, s, hk, rfl, rfl, hx, hb⟩ := hrel
    clear HZ
    by_cases hlt : k < N
    · have hkl : k < L.length := by rw [← HN.out]; exact hlt
      obtain ⟨g, o, rfl, c0, c1⟩ := (HI.out.ext hx) k hkl
      have hs2 := HS.out _ (List.getElem_mem hkl)
      have hsn : listP (L.take (k + 1)) = if (L.take k).isEmpty = true then 91 :: attrT L[k] else listP (L.take k) ++ [44, 32] ++ attrT L[k] := by
        rw [List.take_succ_eq_append_getElem hkl, listP_snoc]
      have hlk := HLE.out (k + 1)
      obtain ⟨n, d, hq⟩ : ∃ n d, L[k] = (n, d) := ⟨_, _, rfl⟩
      rw [hq] at c0 c1 hs2 hsn
      obtain ⟨T, hT⟩ : ∃ T : ByteArray, T = bs (valueT d) := ⟨_, rfl⟩
      have hval : ∀ w', Calls Tryz.prog 44 #[.string d] w' fun e w'' => e = .returned (.string T) ∧ w' = w'' := fun w' => by rw [hT]; exact valueR_any d w' hs2
      have cV : ∀ dd os, Calls Tryz.prog 44 #[.string d] (grow (redrawn wr dd) os) fun e w'' => e = .returned (.string T) ∧ ∃ p : Regrown, w'' = grow (redrawn wr p.d) p.os :=
        fun dd os => Calls.regrown_of ((hval _).mono fun e w' ⟨he, hw⟩ => ⟨he, hw ▸ Ext.refl _⟩)
      have k0 := cell_regrown c0; have k1 := cell_regrown c1
      have CV := Lib.hid cV
      have hx2 : ∀ d2 os, Ext w (grow (redrawn wr d2) os) := fun d2 os => hx.trans (below_regrown _ d2 os)
      have HX2 := Lib.hid hx2
      by_cases hk0 : k = 0
      · have hfin : bs (listP (L.take (k + 1))) = s ++ n ++ ⟨#[61]⟩ ++ T := by
          rw [hsn, hb.out, hT]
          subst hk0
          rw [if_pos (by simp)]
          unfold attrT
          rw [show listP (L.take 0) = [91] from rfl, show (⟨#[61]⟩ : ByteArray) = bs [61] from rfl]
          conv => rhs; rw [← bs_data n]
          rw [bs_app, bs_app, bs_app]
          simp
        have hz : s.size + n.size + 1 + T.size ≤ 140737488355328 := by
          have h : (bs (listP (L.take (k + 1)))).size = (s ++ n ++ (⟨#[61]⟩ : ByteArray) ++ T).size := by rw [hfin]
          rw [bs_size] at h
          simp only [ByteArray.size_append] at h
          have e1 : (⟨#[61]⟩ : ByteArray).size = 1 := rfl
          omega
        have a1 := add_run s n (by omega)
        have a2 := add_run (s ++ n) ⟨#[61]⟩ (by rw [ByteArray.size_append]; show _ + 1 ≤ _; omega)
        have a3 := add_run (s ++ n ++ ⟨#[61]⟩) T (by rw [ByteArray.size_append, ByteArray.size_append]; show _ + 1 + _ ≤ _; omega)
        have HF := Lib.hid hfin.symm
        have g0 : decide (0 < k) = false := decide_eq_false (by omega)
        have g0' : ¬ 0 < k := by omega
        clear hfin hz hsn hlk hq hT hval cV hx2 hb hs2 c0 c1 hk0
        go_wp2_with fail
        refine wp_region_quiet_below (by kernel_rfl) (by kernel_rfl) ?_
        repeat (go_big_quiet_step ((go_at_call 44; exact CV.out _ _)))
        refine wpQuiet_nil ?_
        intro _ hw'
        obtain ⟨⟨dq, osq⟩, hw''⟩ := hw'
        subst hw''
        go_wp2_with fail
        go_roundw
        case rel => exact ⟨k + 1, _, by omega, rfl, by go_num, HX2.out _ _, HF⟩
        case measure => simp [RowKit.intOf]; omega
      · have hfin : bs (listP (L.take (k + 1))) = s ++ ⟨#[44, 32]⟩ ++ n ++ ⟨#[61]⟩ ++ T := by
          rw [hsn, hb.out, hT]
          rw [if_neg (by
            intro h
            have h2 : (L.take k).length = 0 := by rw [List.isEmpty_iff.1 h]; rfl
            rw [List.length_take] at h2
            omega)]
          unfold attrT
          rw [show (⟨#[61]⟩ : ByteArray) = bs [61] from rfl, show (⟨#[44, 32]⟩ : ByteArray) = bs [44, 32] from rfl]
          conv => rhs; rw [← bs_data n]
          rw [bs_app, bs_app, bs_app, bs_app]
          simp
        have hz : s.size + 2 + n.size + 1 + T.size ≤ 140737488355328 := by
          have h : (bs (listP (L.take (k + 1)))).size = (s ++ (⟨#[44, 32]⟩ : ByteArray) ++ n ++ (⟨#[61]⟩ : ByteArray) ++ T).size := by rw [hfin]
          rw [bs_size] at h
          simp only [ByteArray.size_append] at h
          have e1 : (⟨#[61]⟩ : ByteArray).size = 1 := rfl
          have e2 : (⟨#[44, 32]⟩ : ByteArray).size = 2 := rfl
          omega
        have a0 := add_run s ⟨#[44, 32]⟩ (by show _ + 2 ≤ _; omega)
        have a1 := add_run (s ++ ⟨#[44, 32]⟩) n (by rw [ByteArray.size_append]; show _ + 2 + _ ≤ _; omega)
        have a2 := add_run (s ++ ⟨#[44, 32]⟩ ++ n) ⟨#[61]⟩ (by rw [ByteArray.size_append, ByteArray.size_append]; show _ + 2 + _ + 1 ≤ _; omega)
        have a3 := add_run (s ++ ⟨#[44, 32]⟩ ++ n ++ ⟨#[61]⟩) T (by rw [ByteArray.size_append, ByteArray.size_append, ByteArray.size_append]; show _ + 2 + _ + 1 + _ ≤ _; omega)
        have HF := Lib.hid hfin.symm
        have g0 : 0 < k := by omega
        have g0' : decide (0 < k) = true := decide_eq_true (by omega)
        clear hfin hz hsn hlk hq hT hval cV hx2 hb hs2 c0 c1 hk0
        go_wp2_with fail
        refine wp_region_quiet_below (by kernel_rfl) (by kernel_rfl) ?_
        repeat (go_big_quiet_step ((go_at_call 44; exact CV.out _ _)))
        refine wpQuiet_nil ?_
        intro _ hw'
        obtain ⟨⟨dq, osq⟩, hw''⟩ := hw'
        subst hw''
        go_wp2_with fail
        go_roundw
        case rel => exact ⟨k + 1, _, by omega, rfl, by go_num, HX2.out _ _, HF⟩
        case measure => simp [RowKit.intOf]; omega
    · have hf : s = bs (listP L) := by rw [hb.out, List.take_of_length_le (by rw [← HN.out]; omega)]
      have a1 := add_run s ⟨#[93]⟩ (by have := HLE.out k; rw [hb.out, bs_size]; show _ + 1 ≤ _; omega)
      have HF : Hid (s ++ ⟨#[93]⟩ = V) := Lib.hid (by rw [HV.out, hf])
      clear hb hf
      go_wp2
      go_returns
      rw [← HF.out]
      exact ⟨rfl, hx⟩
end Go.Proofs.YtmallladeidkpaaGreatDoor.Tr

/- What the document's after and refs return, and its stmt, kind by kind. -/
namespace Go.Proofs.YtmallladeidkpaaGreatDoor.Tr
open Go.RowKit Go.Sort Go.Lib Go.Shelf Fx Lx

def afterT (a : List Two) : List UInt8 := if a.isEmpty = true then [] else 32 :: listedT a
theorem tailT_after (a : List Two) : tailT a = afterT a ++ [59] := by
  unfold tailT afterT
  by_cases h : a.isEmpty = true
  · rw [if_pos h, if_pos h]; rfl
  · rw [if_neg h, if_neg h]; rfl
set_option maxHeartbeats 4000000 in
theorem afterR_any (a : Option Addr) (L : List Two) (cap : Nat) (w : World) (h : TwoIn w a L) (hL : L.length ≤ 2000000) (hs : ∀ q ∈ L, q.2.size < 4294967281) (hlen : (listedT L).length < 140737488355328) :
    Calls Tryz.prog 45 #[.slice a L.length cap] w fun e w' => e = .returned (.string (bs (afterT L))) ∧ Ext w w' := by
  by_cases h0 : L = []
  · subst h0
    clear h hs hlen hL
    go_enter Tryz.func45, Tryz.ntmps45
    go_wp2
    go_returns
    exact ⟨rfl, Ext.refl _⟩
  · have hp0 : 0 < L.length := List.length_pos_iff.2 h0
    have hl := listR_any a L cap w h hL hs (Nat.le_of_lt hlen)
    have e1 : L.isEmpty = false := by simpa using h0
    have e2 : listRT L = listedT L := by unfold listRT; rw [e1, if_neg (by decide)]
    have e3 : bs (afterT L) = ⟨#[32]⟩ ++ bs (listedT L) := by
      rw [show (⟨#[32]⟩ : ByteArray) = bs [32] from rfl, bs_app]; unfold afterT; rw [e1, if_neg (by decide)]; rfl
    rw [e2] at hl
    rw [e3]
    have a1 := add_run ⟨#[32]⟩ (bs (listedT L)) (by have hb := bs_size (listedT L); show 1 + _ ≤ _; omega)
    generalize bs (listedT L) = T at *
    have f1 : ((L.length : Int) == 0) = false := by rw [beq_eq_false_iff_ne]; omega
    generalize L.length = N at *
    have HL := Lib.hid hl
    clear hl h hs hlen hL h0 e1 e2 e3 hp0
    go_enter Tryz.func45, Tryz.ntmps45
    go_wp2_with (go_at_call 27; refine HL.out.mono ?_; rintro e w1 ⟨rfl, x1⟩)
    go_returns
    exact ⟨rfl, x1⟩
def refP (d : Bool) (L : List Two) : List UInt8 := sepT (arrow d) (L.map refT)
theorem refP_snoc (d : Bool) (a : List Two) (q : Two) : refP d (a ++ [q]) = if a.isEmpty = true then refT q else refP d a ++ arrow d ++ refT q := by
  unfold refP
  rw [List.map_append, List.map_cons, List.map_nil, sepT_snoc]
  cases a <;> simp
theorem refP_le (d : Bool) (L : List Two) (k : Nat) : (refP d (L.take k)).length ≤ (refP d L).length := by
  have := sepT_prefix (arrow d) ((L.drop k).map refT) ((L.take k).map refT)
  rw [← List.map_append, List.take_append_drop] at this
  exact this
set_option maxHeartbeats 4000000 in
set_option maxRecDepth 100000 in
theorem refsR_true (a : Option Addr) (L : List Two) (cap : Nat) (w : World) (h : TwoIn w a L) (hL : L.length ≤ 2000000) (hlen : (refP true L).length ≤ 140737488355328) :
    Calls Tryz.prog 46 #[.slice a L.length cap, .bool true] w fun e w' => e = .returned (.string (bs (refP true L))) ∧ Ext w w' := by
  obtain ⟨V, hV⟩ : ∃ V : ByteArray, V = bs (refP true L) := ⟨_, rfl⟩
  rw [← hV]
  have hle : ∀ k, (refP true (L.take k)).length ≤ 140737488355328 := fun k => Nat.le_trans (refP_le true L k) hlen
  obtain ⟨N, hN⟩ : ∃ N, N = L.length := ⟨_, rfl⟩
  rw [← hN] at hL ⊢
  have HV := Lib.hid hV; have HLE := Lib.hid hle
  have HN := Lib.hid hN; have HI := Lib.hid h
  have HZ : Hid (bs (refP true (L.take 0)) = ⟨#[]⟩) := Lib.hid rfl
  clear hle hV hN h hlen
  go_enter Tryz.func46, Tryz.ntmps46
  go_wp2
  go_loopw [5, 6] (fun s' i' wr => ∃ (k : Nat) (s : ByteArray), k ≤ N ∧ s' = .string s ∧ i' = .int .i64 k ∧ Ext w wr ∧ Hid (s = bs (refP true (L.take k)))) (fun _ i' _ => N - (RowKit.intOf i').toNat)
  case atStart => exact ⟨0, _, by omega, rfl, rfl, Ext.refl _, Lib.hid HZ.out.symm⟩
  case round =>
    obtain ⟨k, s, hk, rfl, rfl, hx, hb⟩ := hrel
    clear HZ
    by_cases hlt : k < N
    · have hkl : k < L.length := by rw [← HN.out]; exact hlt
      obtain ⟨g, o, rfl, c0, c1⟩ := (HI.out.ext hx) k hkl
      have hsn : refP true (L.take (k + 1)) = if (L.take k).isEmpty = true then refT L[k] else refP true (L.take k) ++ arrow true ++ refT L[k] := by
        rw [List.take_succ_eq_append_getElem hkl, refP_snoc]
      have hlk := HLE.out (k + 1)
      obtain ⟨n, d, hq⟩ : ∃ n d, L[k] = (n, d) := ⟨_, _, rfl⟩
      rw [hq] at c0 c1 hsn
      have hz0 := @size0 d
      by_cases hk0 : k = 0
      · have hsn2 : bs (refP true (L.take (k + 1))) = s ++ bs (refT (n, d)) := by
          rw [hsn, hb.out]
          subst hk0
          rw [if_pos (by simp), show refP true (L.take 0) = [] from rfl, bs_app]; rfl
        have g0 : decide (0 < k) = false := decide_eq_false (by omega)
        have g0' : ¬ 0 < k := by omega
        by_cases hz : d.size = 0
        · rw [decide_eq_true hz] at hz0
          have hfin : bs (refP true (L.take (k + 1))) = s ++ n := by
            rw [hsn2]; unfold refT; dsimp only; rw [if_pos hz, List.append_nil, bs_data]
          have hzz : (s ++ n).size ≤ 140737488355328 := by rw [← hfin, bs_size]; exact hlk
          rw [ByteArray.size_append] at hzz
          have a1 := add_run s n hzz
          have HF := Lib.hid hfin.symm
          clear hfin hsn2 hsn hlk hq hb hk0 hzz hz
          go_wp2
          go_roundw
          case rel => exact ⟨k + 1, _, by omega, rfl, by go_num, hx, HF⟩
          case measure => simp [RowKit.intOf]; omega
        · rw [decide_eq_false hz] at hz0
          have hfin : bs (refP true (L.take (k + 1))) = s ++ n ++ ⟨#[58]⟩ ++ d := by
            have e : bs (refT (n, d)) = n ++ ⟨#[58]⟩ ++ d := by
              unfold refT; dsimp only; rw [if_neg hz]
              conv => rhs; rw [← bs_data n, ← bs_data d]
              rw [show (⟨#[58]⟩ : ByteArray) = bs [58] from rfl, bs_app, bs_app]; simp
            rw [hsn2, e, ← ByteArray.append_assoc, ← ByteArray.append_assoc]
          have hzz : (s ++ n ++ ⟨#[58]⟩ ++ d).size ≤ 140737488355328 := by rw [← hfin, bs_size]; exact hlk
          have e1 : ∀ x : ByteArray, (x ++ ⟨#[58]⟩).size = x.size + 1 := fun x => by rw [ByteArray.size_append]; rfl
          have hz4 := hzz
          rw [ByteArray.size_append] at hzz hz4
          rw [e1, ByteArray.size_append] at hz4
          have a1 := add_run s n (by omega)
          have a2 := add_run (s ++ n) ⟨#[58]⟩ (by rw [ByteArray.size_append]; show _ + 1 ≤ _; omega)
          have a3 := add_run (s ++ n ++ ⟨#[58]⟩) d hzz
          have HF := Lib.hid hfin.symm
          clear hfin hsn2 hsn hlk hq hb hk0 hzz hz4 hz e1
          go_wp2
          go_roundw
          case rel => exact ⟨k + 1, _, by omega, rfl, by go_num, hx, HF⟩
          case measure => simp [RowKit.intOf]; omega
      · have hsn2 : bs (refP true (L.take (k + 1))) = s ++ ⟨#[32, 45, 62, 32]⟩ ++ bs (refT (n, d)) := by
          rw [hsn, hb.out]
          rw [if_neg (by
            intro h
            have h2 : (L.take k).length = 0 := by rw [List.isEmpty_iff.1 h]; rfl
            rw [List.length_take] at h2
            omega), show (⟨#[32, 45, 62, 32]⟩ : ByteArray) = bs (arrow true) from rfl, bs_app, bs_app]
        have g0 : decide (0 < k) = true := decide_eq_true (by omega)
        have g0' : 0 < k := by omega
        by_cases hz : d.size = 0
        · rw [decide_eq_true hz] at hz0
          have hfin : bs (refP true (L.take (k + 1))) = (s ++ ⟨#[32, 45, 62, 32]⟩) ++ n := by
            rw [hsn2]; unfold refT; dsimp only; rw [if_pos hz, List.append_nil, bs_data]
          have hzz : ((s ++ ⟨#[32, 45, 62, 32]⟩) ++ n).size ≤ 140737488355328 := by rw [← hfin, bs_size]; exact hlk
          rw [ByteArray.size_append] at hzz
          have hzy : s.size + (4 : Nat) ≤ 140737488355328 := by
            have e4 : (s ++ ⟨#[32, 45, 62, 32]⟩).size = s.size + 4 := by rw [ByteArray.size_append]; rfl
            omega
          have a0 := add_run s ⟨#[32, 45, 62, 32]⟩ hzy
          have a1 := add_run (s ++ ⟨#[32, 45, 62, 32]⟩) n hzz
          have HF := Lib.hid hfin.symm
          clear hfin hsn2 hsn hlk hq hb hk0 hzz hz
          go_wp2
          go_roundw
          case rel => exact ⟨k + 1, _, by omega, rfl, by go_num, hx, HF⟩
          case measure => simp [RowKit.intOf]; omega
        · rw [decide_eq_false hz] at hz0
          have hfin : bs (refP true (L.take (k + 1))) = (s ++ ⟨#[32, 45, 62, 32]⟩) ++ n ++ ⟨#[58]⟩ ++ d := by
            have e : bs (refT (n, d)) = n ++ ⟨#[58]⟩ ++ d := by
              unfold refT; dsimp only; rw [if_neg hz]
              conv => rhs; rw [← bs_data n, ← bs_data d]
              rw [show (⟨#[58]⟩ : ByteArray) = bs [58] from rfl, bs_app, bs_app]; simp
            rw [hsn2, e, ← ByteArray.append_assoc, ← ByteArray.append_assoc]
          have hzz : ((s ++ ⟨#[32, 45, 62, 32]⟩) ++ n ++ ⟨#[58]⟩ ++ d).size ≤ 140737488355328 := by rw [← hfin, bs_size]; exact hlk
          have e1 : ∀ x : ByteArray, (x ++ ⟨#[58]⟩).size = x.size + 1 := fun x => by rw [ByteArray.size_append]; rfl
          have hz4 := hzz
          rw [ByteArray.size_append] at hzz hz4
          rw [e1, ByteArray.size_append] at hz4
          have hzy : s.size + (4 : Nat) ≤ 140737488355328 := by
            have e4 : (s ++ ⟨#[32, 45, 62, 32]⟩).size = s.size + 4 := by rw [ByteArray.size_append]; rfl
            omega
          have a0 := add_run s ⟨#[32, 45, 62, 32]⟩ hzy
          have a1 := add_run (s ++ ⟨#[32, 45, 62, 32]⟩) n (by omega)
          have a2 := add_run ((s ++ ⟨#[32, 45, 62, 32]⟩) ++ n) ⟨#[58]⟩ (by rw [ByteArray.size_append]; show _ + 1 ≤ _; omega)
          have a3 := add_run ((s ++ ⟨#[32, 45, 62, 32]⟩) ++ n ++ ⟨#[58]⟩) d hzz
          have HF := Lib.hid hfin.symm
          clear hfin hsn2 hsn hlk hq hb hk0 hzz hz4 hz e1
          go_wp2
          go_roundw
          case rel => exact ⟨k + 1, _, by omega, rfl, by go_num, hx, HF⟩
          case measure => simp [RowKit.intOf]; omega
    · have hf : s = V := by rw [hb.out, HV.out, List.take_of_length_le (by rw [← HN.out]; omega)]
      have HF := Lib.hid hf
      clear hb hf
      go_wp2
      go_returns
      rw [← HF.out]
      exact ⟨rfl, hx⟩
set_option maxHeartbeats 4000000 in
set_option maxRecDepth 100000 in
theorem refsR_false (a : Option Addr) (L : List Two) (cap : Nat) (w : World) (h : TwoIn w a L) (hL : L.length ≤ 2000000) (hlen : (refP false L).length ≤ 140737488355328) :
    Calls Tryz.prog 46 #[.slice a L.length cap, .bool false] w fun e w' => e = .returned (.string (bs (refP false L))) ∧ Ext w w' := by
  obtain ⟨V, hV⟩ : ∃ V : ByteArray, V = bs (refP false L) := ⟨_, rfl⟩
  rw [← hV]
  have hle : ∀ k, (refP false (L.take k)).length ≤ 140737488355328 := fun k => Nat.le_trans (refP_le false L k) hlen
  obtain ⟨N, hN⟩ : ∃ N, N = L.length := ⟨_, rfl⟩
  rw [← hN] at hL ⊢
  have HV := Lib.hid hV; have HLE := Lib.hid hle
  have HN := Lib.hid hN; have HI := Lib.hid h
  have HZ : Hid (bs (refP false (L.take 0)) = ⟨#[]⟩) := Lib.hid rfl
  clear hle hV hN h hlen
  go_enter Tryz.func46, Tryz.ntmps46
  go_wp2
  go_loopw [5, 6] (fun s' i' wr => ∃ (k : Nat) (s : ByteArray), k ≤ N ∧ s' = .string s ∧ i' = .int .i64 k ∧ Ext w wr ∧ Hid (s = bs (refP false (L.take k)))) (fun _ i' _ => N - (RowKit.intOf i').toNat)
  case atStart => exact ⟨0, _, by omega, rfl, rfl, Ext.refl _, Lib.hid HZ.out.symm⟩
  case round =>
    obtain ⟨k, s, hk, rfl, rfl, hx, hb⟩ := hrel
    clear HZ
    by_cases hlt : k < N
    · have hkl : k < L.length := by rw [← HN.out]; exact hlt
      obtain ⟨g, o, rfl, c0, c1⟩ := (HI.out.ext hx) k hkl
      have hsn : refP false (L.take (k + 1)) = if (L.take k).isEmpty = true then refT L[k] else refP false (L.take k) ++ arrow false ++ refT L[k] := by
        rw [List.take_succ_eq_append_getElem hkl, refP_snoc]
      have hlk := HLE.out (k + 1)
      obtain ⟨n, d, hq⟩ : ∃ n d, L[k] = (n, d) := ⟨_, _, rfl⟩
      rw [hq] at c0 c1 hsn
      have hz0 := @size0 d
      by_cases hk0 : k = 0
      · have hsn2 : bs (refP false (L.take (k + 1))) = s ++ bs (refT (n, d)) := by
          rw [hsn, hb.out]
          subst hk0
          rw [if_pos (by simp), show refP false (L.take 0) = [] from rfl, bs_app]; rfl
        have g0 : decide (0 < k) = false := decide_eq_false (by omega)
        have g0' : ¬ 0 < k := by omega
        by_cases hz : d.size = 0
        · rw [decide_eq_true hz] at hz0
          have hfin : bs (refP false (L.take (k + 1))) = s ++ n := by
            rw [hsn2]; unfold refT; dsimp only; rw [if_pos hz, List.append_nil, bs_data]
          have hzz : (s ++ n).size ≤ 140737488355328 := by rw [← hfin, bs_size]; exact hlk
          rw [ByteArray.size_append] at hzz
          have a1 := add_run s n hzz
          have HF := Lib.hid hfin.symm
          clear hfin hsn2 hsn hlk hq hb hk0 hzz hz
          go_wp2
          go_roundw
          case rel => exact ⟨k + 1, _, by omega, rfl, by go_num, hx, HF⟩
          case measure => simp [RowKit.intOf]; omega
        · rw [decide_eq_false hz] at hz0
          have hfin : bs (refP false (L.take (k + 1))) = s ++ n ++ ⟨#[58]⟩ ++ d := by
            have e : bs (refT (n, d)) = n ++ ⟨#[58]⟩ ++ d := by
              unfold refT; dsimp only; rw [if_neg hz]
              conv => rhs; rw [← bs_data n, ← bs_data d]
              rw [show (⟨#[58]⟩ : ByteArray) = bs [58] from rfl, bs_app, bs_app]; simp
            rw [hsn2, e, ← ByteArray.append_assoc, ← ByteArray.append_assoc]
          have hzz : (s ++ n ++ ⟨#[58]⟩ ++ d).size ≤ 140737488355328 := by rw [← hfin, bs_size]; exact hlk
          have e1 : ∀ x : ByteArray, (x ++ ⟨#[58]⟩).size = x.size + 1 := fun x => by rw [ByteArray.size_append]; rfl
          have hz4 := hzz
          rw [ByteArray.size_append] at hzz hz4
          rw [e1, ByteArray.size_append] at hz4
          have a1 := add_run s n (by omega)
          have a2 := add_run (s ++ n) ⟨#[58]⟩ (by rw [ByteArray.size_append]; show _ + 1 ≤ _; omega)
          have a3 := add_run (s ++ n ++ ⟨#[58]⟩) d hzz
          have HF := Lib.hid hfin.symm
          clear hfin hsn2 hsn hlk hq hb hk0 hzz hz4 hz e1
          go_wp2
          go_roundw
          case rel => exact ⟨k + 1, _, by omega, rfl, by go_num, hx, HF⟩
          case measure => simp [RowKit.intOf]; omega
      · have hsn2 : bs (refP false (L.take (k + 1))) = s ++ ⟨#[32, 45, 45, 32]⟩ ++ bs (refT (n, d)) := by
          rw [hsn, hb.out]
          rw [if_neg (by
            intro h
            have h2 : (L.take k).length = 0 := by rw [List.isEmpty_iff.1 h]; rfl
            rw [List.length_take] at h2
            omega), show (⟨#[32, 45, 45, 32]⟩ : ByteArray) = bs (arrow false) from rfl, bs_app, bs_app]
        have g0 : decide (0 < k) = true := decide_eq_true (by omega)
        have g0' : 0 < k := by omega
        by_cases hz : d.size = 0
        · rw [decide_eq_true hz] at hz0
          have hfin : bs (refP false (L.take (k + 1))) = (s ++ ⟨#[32, 45, 45, 32]⟩) ++ n := by
            rw [hsn2]; unfold refT; dsimp only; rw [if_pos hz, List.append_nil, bs_data]
          have hzz : ((s ++ ⟨#[32, 45, 45, 32]⟩) ++ n).size ≤ 140737488355328 := by rw [← hfin, bs_size]; exact hlk
          rw [ByteArray.size_append] at hzz
          have hzy : s.size + (4 : Nat) ≤ 140737488355328 := by
            have e4 : (s ++ ⟨#[32, 45, 45, 32]⟩).size = s.size + 4 := by rw [ByteArray.size_append]; rfl
            omega
          have a0 := add_run s ⟨#[32, 45, 45, 32]⟩ hzy
          have a1 := add_run (s ++ ⟨#[32, 45, 45, 32]⟩) n hzz
          have HF := Lib.hid hfin.symm
          clear hfin hsn2 hsn hlk hq hb hk0 hzz hz
          go_wp2
          go_roundw
          case rel => exact ⟨k + 1, _, by omega, rfl, by go_num, hx, HF⟩
          case measure => simp [RowKit.intOf]; omega
        · rw [decide_eq_false hz] at hz0
          have hfin : bs (refP false (L.take (k + 1))) = (s ++ ⟨#[32, 45, 45, 32]⟩) ++ n ++ ⟨#[58]⟩ ++ d := by
            have e : bs (refT (n, d)) = n ++ ⟨#[58]⟩ ++ d := by
              unfold refT; dsimp only; rw [if_neg hz]
              conv => rhs; rw [← bs_data n, ← bs_data d]
              rw [show (⟨#[58]⟩ : ByteArray) = bs [58] from rfl, bs_app, bs_app]; simp
            rw [hsn2, e, ← ByteArray.append_assoc, ← ByteArray.append_assoc]
          have hzz : ((s ++ ⟨#[32, 45, 45, 32]⟩) ++ n ++ ⟨#[58]⟩ ++ d).size ≤ 140737488355328 := by rw [← hfin, bs_size]; exact hlk
          have e1 : ∀ x : ByteArray, (x ++ ⟨#[58]⟩).size = x.size + 1 := fun x => by rw [ByteArray.size_append]; rfl
          have hz4 := hzz
          rw [ByteArray.size_append] at hzz hz4
          rw [e1, ByteArray.size_append] at hz4
          have hzy : s.size + (4 : Nat) ≤ 140737488355328 := by
            have e4 : (s ++ ⟨#[32, 45, 45, 32]⟩).size = s.size + 4 := by rw [ByteArray.size_append]; rfl
            omega
          have a0 := add_run s ⟨#[32, 45, 45, 32]⟩ hzy
          have a1 := add_run (s ++ ⟨#[32, 45, 45, 32]⟩) n (by omega)
          have a2 := add_run ((s ++ ⟨#[32, 45, 45, 32]⟩) ++ n) ⟨#[58]⟩ (by rw [ByteArray.size_append]; show _ + 1 ≤ _; omega)
          have a3 := add_run ((s ++ ⟨#[32, 45, 45, 32]⟩) ++ n ++ ⟨#[58]⟩) d hzz
          have HF := Lib.hid hfin.symm
          clear hfin hsn2 hsn hlk hq hb hk0 hzz hz4 hz e1
          go_wp2
          go_roundw
          case rel => exact ⟨k + 1, _, by omega, rfl, by go_num, hx, HF⟩
          case measure => simp [RowKit.intOf]; omega
    · have hf : s = V := by rw [hb.out, HV.out, List.take_of_length_le (by rw [← HN.out]; omega)]
      have HF := Lib.hid hf
      clear hb hf
      go_wp2
      go_returns
      rw [← HF.out]
      exact ⟨rfl, hx⟩
theorem refsR_any (d : Bool) (a : Option Addr) (L : List Two) (cap : Nat) (w : World) (h : TwoIn w a L) (hL : L.length ≤ 2000000) (hlen : (refP d L).length ≤ 140737488355328) :
    Calls Tryz.prog 46 #[.slice a L.length cap, .bool d] w fun e w' => e = .returned (.string (bs (refP d L))) ∧ Ext w w' := by
  cases d
  · exact refsR_false a L cap w h hL hlen
  · exact refsR_true a L cap w h hL hlen
theorem stm_one (w : World) (k : Int) (nm : ByteArray) (r a b : Option Addr) (R A B rc ac bc : Nat) (d : Nat) (os : Array Obj) :
    let wb := w.alloc (.cells #[.int .i64 k, .string nm, .slice r R rc, .slice a A ac, .slice b B bc] 44)
    (grow (redrawn wb d) os).cell? ⟨w.heap.size, 1, none⟩ = some (.string nm) ∧ (grow (redrawn wb d) os).cell? ⟨w.heap.size, 2, none⟩ = some (.slice r R rc) ∧ (grow (redrawn wb d) os).cell? ⟨w.heap.size, 3, none⟩ = some (.slice a A ac) ∧ (grow (redrawn wb d) os).cell? ⟨w.heap.size, 4, none⟩ = some (.slice b B bc) := by
  intro wb
  exact (stm_cells w k nm r a b R A B rc ac bc _ (below_regrown wb d os)).2
/-- A callee's contract at every later world, met in the region's worlds. -/
theorem regrown_ext {P : Program} {f : FuncId} {args : Array Value} {w wb : World} {T : Value} (hx : Ext w wb) (h : ∀ w', Ext w w' → Calls P f args w' fun e w'' => e = .returned T ∧ Ext w' w'') (d : Nat) (os : Array Obj) :
    Calls P f args (grow (redrawn wb d) os) fun e w'' => e = .returned T ∧ ∃ p : Regrown, w'' = grow (redrawn wb p.d) p.os :=
  Calls.regrown_of (h _ (hx.trans (below_regrown wb d os)))
set_option maxHeartbeats 4000000 in
set_option maxRecDepth 100000 in
theorem stmtR_1 (nm ahead : ByteArray) (r a b : Option Addr) (R A B rc ac bc : Nat) (d : Bool) (w : World) (T1 : ByteArray) (h1 : ∀ w', Ext w w' → Calls Tryz.prog 45 #[.slice a A ac] w' fun e w'' => e = .returned (.string T1) ∧ Ext w' w'') (hsz : ahead.size + nm.size + T1.size + 2 ≤ 140737488355328) :
    Calls Tryz.prog 30 #[.agg #[.int .i64 1, .string nm, .slice r R rc, .slice a A ac, .slice b B bc], .bool d, .string ahead] w fun e w' => e = .returned (.string (ahead ++ nm ++ T1 ++ ⟨#[59, 10]⟩)) ∧ Ext w w' := by
  have hxb : Ext w (w.alloc (.cells #[.int .i64 1, .string nm, .slice r R rc, .slice a A ac, .slice b B bc] 44)) := (Ext.refl _).alloc _
  have hks := stm_one w 1 nm r a b R A B rc ac bc
  dsimp only at hks
  have k0 := fun d os => (hks d os).1
  have k1 := fun d os => (hks d os).2.2.1
  have HX : Hid (∀ d os, Ext w (grow (redrawn (w.alloc (.cells #[.int .i64 1, .string nm, .slice r R rc, .slice a A ac, .slice b B bc] 44)) d) os)) := Lib.hid (fun d os => hxb.trans (below_regrown _ d os))
  have C0 := Lib.hid (fun dd os => regrown_ext hxb h1 dd os)
  have a0 := add_run (ahead) nm (by (repeat rw [ByteArray.size_append]); (try simp only [show (⟨#[59, 10]⟩ : ByteArray).size = 2 from rfl, show (⟨#[32]⟩ : ByteArray).size = 1 from rfl, show (⟨#[115, 101, 116, 32]⟩ : ByteArray).size = 4 from rfl, show (⟨#[32, 61, 32]⟩ : ByteArray).size = 3 from rfl, show (⟨#[99, 108, 117, 115, 116, 101, 114, 32]⟩ : ByteArray).size = 8 from rfl, show (⟨#[32, 123, 10]⟩ : ByteArray).size = 3 from rfl, show (⟨#[32, 32, 32, 32]⟩ : ByteArray).size = 4 from rfl, show (⟨#[125, 10]⟩ : ByteArray).size = 2 from rfl]); omega)
  have a1 := add_run (ahead ++ nm) T1 (by (repeat rw [ByteArray.size_append]); (try simp only [show (⟨#[59, 10]⟩ : ByteArray).size = 2 from rfl, show (⟨#[32]⟩ : ByteArray).size = 1 from rfl, show (⟨#[115, 101, 116, 32]⟩ : ByteArray).size = 4 from rfl, show (⟨#[32, 61, 32]⟩ : ByteArray).size = 3 from rfl, show (⟨#[99, 108, 117, 115, 116, 101, 114, 32]⟩ : ByteArray).size = 8 from rfl, show (⟨#[32, 123, 10]⟩ : ByteArray).size = 3 from rfl, show (⟨#[32, 32, 32, 32]⟩ : ByteArray).size = 4 from rfl, show (⟨#[125, 10]⟩ : ByteArray).size = 2 from rfl]); omega)
  have a2 := add_run (ahead ++ nm ++ T1) ⟨#[59, 10]⟩ (by (repeat rw [ByteArray.size_append]); (try simp only [show (⟨#[59, 10]⟩ : ByteArray).size = 2 from rfl, show (⟨#[32]⟩ : ByteArray).size = 1 from rfl, show (⟨#[115, 101, 116, 32]⟩ : ByteArray).size = 4 from rfl, show (⟨#[32, 61, 32]⟩ : ByteArray).size = 3 from rfl, show (⟨#[99, 108, 117, 115, 116, 101, 114, 32]⟩ : ByteArray).size = 8 from rfl, show (⟨#[32, 123, 10]⟩ : ByteArray).size = 3 from rfl, show (⟨#[32, 32, 32, 32]⟩ : ByteArray).size = 4 from rfl, show (⟨#[125, 10]⟩ : ByteArray).size = 2 from rfl]); omega)
  clear hks hxb hsz h1
  go_enter Tryz.func30, Tryz.ntmps30
  go_wp2_with fail
  refine wp_region_quiet_below (by kernel_rfl) (by kernel_rfl) ?_
  repeat (go_big_quiet_step ((go_at_call 45; exact C0.out _ _)))
  refine wpQuiet_nil ?_
  intro _ hw'
  obtain ⟨⟨dq, osq⟩, hw''⟩ := hw'
  subst hw''
  go_wp2_with fail
  go_returns
  exact ⟨rfl, HX.out _ _⟩
set_option maxHeartbeats 4000000 in
set_option maxRecDepth 100000 in
theorem stmtR_2 (nm ahead : ByteArray) (r a b : Option Addr) (R A B rc ac bc : Nat) (d : Bool) (w : World) (T1 : ByteArray) (h1 : ∀ w', Ext w w' → Calls Tryz.prog 46 #[.slice r R rc, .bool d] w' fun e w'' => e = .returned (.string T1) ∧ Ext w' w'') (T2 : ByteArray) (h2 : ∀ w', Ext w w' → Calls Tryz.prog 45 #[.slice a A ac] w' fun e w'' => e = .returned (.string T2) ∧ Ext w' w'') (hsz : ahead.size + T1.size + T2.size + 2 ≤ 140737488355328) :
    Calls Tryz.prog 30 #[.agg #[.int .i64 2, .string nm, .slice r R rc, .slice a A ac, .slice b B bc], .bool d, .string ahead] w fun e w' => e = .returned (.string (ahead ++ T1 ++ T2 ++ ⟨#[59, 10]⟩)) ∧ Ext w w' := by
  have hxb : Ext w (w.alloc (.cells #[.int .i64 2, .string nm, .slice r R rc, .slice a A ac, .slice b B bc] 44)) := (Ext.refl _).alloc _
  have hks := stm_one w 2 nm r a b R A B rc ac bc
  dsimp only at hks
  have k0 := fun d os => (hks d os).2.1
  have k1 := fun d os => (hks d os).2.2.1
  have HX : Hid (∀ d os, Ext w (grow (redrawn (w.alloc (.cells #[.int .i64 2, .string nm, .slice r R rc, .slice a A ac, .slice b B bc] 44)) d) os)) := Lib.hid (fun d os => hxb.trans (below_regrown _ d os))
  have C0 := Lib.hid (fun dd os => regrown_ext hxb h1 dd os)
  have C1 := Lib.hid (fun dd os => regrown_ext hxb h2 dd os)
  have a0 := add_run (ahead) T1 (by (repeat rw [ByteArray.size_append]); (try simp only [show (⟨#[59, 10]⟩ : ByteArray).size = 2 from rfl, show (⟨#[32]⟩ : ByteArray).size = 1 from rfl, show (⟨#[115, 101, 116, 32]⟩ : ByteArray).size = 4 from rfl, show (⟨#[32, 61, 32]⟩ : ByteArray).size = 3 from rfl, show (⟨#[99, 108, 117, 115, 116, 101, 114, 32]⟩ : ByteArray).size = 8 from rfl, show (⟨#[32, 123, 10]⟩ : ByteArray).size = 3 from rfl, show (⟨#[32, 32, 32, 32]⟩ : ByteArray).size = 4 from rfl, show (⟨#[125, 10]⟩ : ByteArray).size = 2 from rfl]); omega)
  have a1 := add_run (ahead ++ T1) T2 (by (repeat rw [ByteArray.size_append]); (try simp only [show (⟨#[59, 10]⟩ : ByteArray).size = 2 from rfl, show (⟨#[32]⟩ : ByteArray).size = 1 from rfl, show (⟨#[115, 101, 116, 32]⟩ : ByteArray).size = 4 from rfl, show (⟨#[32, 61, 32]⟩ : ByteArray).size = 3 from rfl, show (⟨#[99, 108, 117, 115, 116, 101, 114, 32]⟩ : ByteArray).size = 8 from rfl, show (⟨#[32, 123, 10]⟩ : ByteArray).size = 3 from rfl, show (⟨#[32, 32, 32, 32]⟩ : ByteArray).size = 4 from rfl, show (⟨#[125, 10]⟩ : ByteArray).size = 2 from rfl]); omega)
  have a2 := add_run (ahead ++ T1 ++ T2) ⟨#[59, 10]⟩ (by (repeat rw [ByteArray.size_append]); (try simp only [show (⟨#[59, 10]⟩ : ByteArray).size = 2 from rfl, show (⟨#[32]⟩ : ByteArray).size = 1 from rfl, show (⟨#[115, 101, 116, 32]⟩ : ByteArray).size = 4 from rfl, show (⟨#[32, 61, 32]⟩ : ByteArray).size = 3 from rfl, show (⟨#[99, 108, 117, 115, 116, 101, 114, 32]⟩ : ByteArray).size = 8 from rfl, show (⟨#[32, 123, 10]⟩ : ByteArray).size = 3 from rfl, show (⟨#[32, 32, 32, 32]⟩ : ByteArray).size = 4 from rfl, show (⟨#[125, 10]⟩ : ByteArray).size = 2 from rfl]); omega)
  clear hks hxb hsz h1 h2
  go_enter Tryz.func30, Tryz.ntmps30
  go_wp2_with fail
  refine wp_region_quiet_below (by kernel_rfl) (by kernel_rfl) ?_
  repeat (go_big_quiet_step ((first | (go_at_call 46; exact C0.out _ _) | (go_at_call 45; exact C1.out _ _))))
  refine wpQuiet_nil ?_
  intro _ hw'
  obtain ⟨⟨dq, osq⟩, hw''⟩ := hw'
  subst hw''
  go_wp2_with fail
  go_returns
  exact ⟨rfl, HX.out _ _⟩
set_option maxHeartbeats 4000000 in
set_option maxRecDepth 100000 in
theorem stmtR_3 (nm ahead : ByteArray) (r a b : Option Addr) (R A B rc ac bc : Nat) (d : Bool) (w : World) (T1 : ByteArray) (h1 : ∀ w', Ext w w' → Calls Tryz.prog 27 #[.slice a A ac] w' fun e w'' => e = .returned (.string T1) ∧ Ext w' w'') (h0 : A ≠ 0) (hsz : ahead.size + nm.size + T1.size + 3 ≤ 140737488355328) :
    Calls Tryz.prog 30 #[.agg #[.int .i64 3, .string nm, .slice r R rc, .slice a A ac, .slice b B bc], .bool d, .string ahead] w fun e w' => e = .returned (.string (ahead ++ nm ++ ⟨#[32]⟩ ++ T1 ++ ⟨#[59, 10]⟩)) ∧ Ext w w' := by
  have hxb : Ext w (w.alloc (.cells #[.int .i64 3, .string nm, .slice r R rc, .slice a A ac, .slice b B bc] 44)) := (Ext.refl _).alloc _
  have hks := stm_one w 3 nm r a b R A B rc ac bc
  dsimp only at hks
  have k0 := fun d os => (hks d os).1
  have k1 := fun d os => (hks d os).2.2.1
  have HX : Hid (∀ d os, Ext w (grow (redrawn (w.alloc (.cells #[.int .i64 3, .string nm, .slice r R rc, .slice a A ac, .slice b B bc] 44)) d) os)) := Lib.hid (fun d os => hxb.trans (below_regrown _ d os))
  have C0 := Lib.hid (fun dd os => regrown_ext hxb h1 dd os)
  have a0 := add_run (ahead) nm (by (repeat rw [ByteArray.size_append]); (try simp only [show (⟨#[59, 10]⟩ : ByteArray).size = 2 from rfl, show (⟨#[32]⟩ : ByteArray).size = 1 from rfl, show (⟨#[115, 101, 116, 32]⟩ : ByteArray).size = 4 from rfl, show (⟨#[32, 61, 32]⟩ : ByteArray).size = 3 from rfl, show (⟨#[99, 108, 117, 115, 116, 101, 114, 32]⟩ : ByteArray).size = 8 from rfl, show (⟨#[32, 123, 10]⟩ : ByteArray).size = 3 from rfl, show (⟨#[32, 32, 32, 32]⟩ : ByteArray).size = 4 from rfl, show (⟨#[125, 10]⟩ : ByteArray).size = 2 from rfl]); omega)
  have a1 := add_run (ahead ++ nm) ⟨#[32]⟩ (by (repeat rw [ByteArray.size_append]); (try simp only [show (⟨#[59, 10]⟩ : ByteArray).size = 2 from rfl, show (⟨#[32]⟩ : ByteArray).size = 1 from rfl, show (⟨#[115, 101, 116, 32]⟩ : ByteArray).size = 4 from rfl, show (⟨#[32, 61, 32]⟩ : ByteArray).size = 3 from rfl, show (⟨#[99, 108, 117, 115, 116, 101, 114, 32]⟩ : ByteArray).size = 8 from rfl, show (⟨#[32, 123, 10]⟩ : ByteArray).size = 3 from rfl, show (⟨#[32, 32, 32, 32]⟩ : ByteArray).size = 4 from rfl, show (⟨#[125, 10]⟩ : ByteArray).size = 2 from rfl]); omega)
  have a2 := add_run (ahead ++ nm ++ ⟨#[32]⟩) T1 (by (repeat rw [ByteArray.size_append]); (try simp only [show (⟨#[59, 10]⟩ : ByteArray).size = 2 from rfl, show (⟨#[32]⟩ : ByteArray).size = 1 from rfl, show (⟨#[115, 101, 116, 32]⟩ : ByteArray).size = 4 from rfl, show (⟨#[32, 61, 32]⟩ : ByteArray).size = 3 from rfl, show (⟨#[99, 108, 117, 115, 116, 101, 114, 32]⟩ : ByteArray).size = 8 from rfl, show (⟨#[32, 123, 10]⟩ : ByteArray).size = 3 from rfl, show (⟨#[32, 32, 32, 32]⟩ : ByteArray).size = 4 from rfl, show (⟨#[125, 10]⟩ : ByteArray).size = 2 from rfl]); omega)
  have a3 := add_run (ahead ++ nm ++ ⟨#[32]⟩ ++ T1) ⟨#[59, 10]⟩ (by (repeat rw [ByteArray.size_append]); (try simp only [show (⟨#[59, 10]⟩ : ByteArray).size = 2 from rfl, show (⟨#[32]⟩ : ByteArray).size = 1 from rfl, show (⟨#[115, 101, 116, 32]⟩ : ByteArray).size = 4 from rfl, show (⟨#[32, 61, 32]⟩ : ByteArray).size = 3 from rfl, show (⟨#[99, 108, 117, 115, 116, 101, 114, 32]⟩ : ByteArray).size = 8 from rfl, show (⟨#[32, 123, 10]⟩ : ByteArray).size = 3 from rfl, show (⟨#[32, 32, 32, 32]⟩ : ByteArray).size = 4 from rfl, show (⟨#[125, 10]⟩ : ByteArray).size = 2 from rfl]); omega)
  have a4 := (show ((A : Int) == 0) = false by rw [beq_eq_false_iff_ne]; omega)
  have a5 := (stm_cells w 3 nm r a b R A B rc ac bc _ (Ext.refl _)).2.2.2.1
  clear hks hxb hsz h1 h0
  go_enter Tryz.func30, Tryz.ntmps30
  go_wp2_with fail
  refine wp_region_quiet_below (by kernel_rfl) (by kernel_rfl) ?_
  repeat (go_big_quiet_step ((go_at_call 27; exact C0.out _ _)))
  refine wpQuiet_nil ?_
  intro _ hw'
  obtain ⟨⟨dq, osq⟩, hw''⟩ := hw'
  subst hw''
  go_wp2_with fail
  go_returns
  exact ⟨rfl, HX.out _ _⟩
set_option maxHeartbeats 4000000 in
theorem stmtR_3e (nm ahead : ByteArray) (r a b : Option Addr) (R B rc ac bc : Nat) (d : Bool) (w : World) (hsz : ahead.size + nm.size + 5 ≤ 140737488355328) :
    Calls Tryz.prog 30 #[.agg #[.int .i64 3, .string nm, .slice r R rc, .slice a 0 ac, .slice b B bc], .bool d, .string ahead] w fun e w' => e = .returned (.string (ahead ++ nm ++ ⟨#[32, 91, 93, 59, 10]⟩)) ∧ Ext w w' := by
  have hx := (Ext.refl w).alloc (.cells #[.int .i64 3, .string nm, .slice r R rc, .slice a 0 ac, .slice b B bc] 44)
  have a0 := add_run ahead nm (by omega)
  have a1 := add_run (ahead ++ nm) ⟨#[32, 91, 93, 59, 10]⟩ (by rw [ByteArray.size_append]; show _ + 5 ≤ _; omega)
  clear hsz
  go_enter Tryz.func30, Tryz.ntmps30
  go_wp2
  go_returns
  exact ⟨rfl, hx⟩
set_option maxHeartbeats 4000000 in
set_option maxRecDepth 100000 in
theorem stmtR_4 (nm ahead : ByteArray) (r b : Option Addr) (R B rc ac bc : Nat) (d : Bool) (w : World) (v : ByteArray) (g o : Nat) (hc : w.cell? ⟨g, o + 1, none⟩ = some (.string v)) (T1 : ByteArray) (h1 : ∀ w', Ext w w' → Calls Tryz.prog 44 #[.string v] w' fun e w'' => e = .returned (.string T1) ∧ Ext w' w'') (hsz : ahead.size + nm.size + T1.size + 9 ≤ 140737488355328) :
    Calls Tryz.prog 30 #[.agg #[.int .i64 4, .string nm, .slice r R rc, .slice (some ⟨g, o, none⟩) 1 ac, .slice b B bc], .bool d, .string ahead] w fun e w' => e = .returned (.string (ahead ++ ⟨#[115, 101, 116, 32]⟩ ++ nm ++ ⟨#[32, 61, 32]⟩ ++ T1 ++ ⟨#[59, 10]⟩)) ∧ Ext w w' := by
  have hxb : Ext w (w.alloc (.cells #[.int .i64 4, .string nm, .slice r R rc, .slice (some ⟨g, o, none⟩) 1 ac, .slice b B bc] 44)) := (Ext.refl _).alloc _
  have hks := stm_one w 4 nm r (some ⟨g, o, none⟩) b R 1 B rc ac bc
  dsimp only at hks
  have k0 := fun d os => (hks d os).1
  have k1 := fun d os => (hks d os).2.2.1
  have kc := fun d os => (hxb.trans (below_regrown _ d os)).cell hc
  have HX : Hid (∀ d os, Ext w (grow (redrawn (w.alloc (.cells #[.int .i64 4, .string nm, .slice r R rc, .slice (some ⟨g, o, none⟩) 1 ac, .slice b B bc] 44)) d) os)) := Lib.hid (fun d os => hxb.trans (below_regrown _ d os))
  have C0 := Lib.hid (fun dd os => regrown_ext hxb h1 dd os)
  have a0 := add_run (ahead) ⟨#[115, 101, 116, 32]⟩ (by (repeat rw [ByteArray.size_append]); (try simp only [show (⟨#[59, 10]⟩ : ByteArray).size = 2 from rfl, show (⟨#[32]⟩ : ByteArray).size = 1 from rfl, show (⟨#[115, 101, 116, 32]⟩ : ByteArray).size = 4 from rfl, show (⟨#[32, 61, 32]⟩ : ByteArray).size = 3 from rfl, show (⟨#[99, 108, 117, 115, 116, 101, 114, 32]⟩ : ByteArray).size = 8 from rfl, show (⟨#[32, 123, 10]⟩ : ByteArray).size = 3 from rfl, show (⟨#[32, 32, 32, 32]⟩ : ByteArray).size = 4 from rfl, show (⟨#[125, 10]⟩ : ByteArray).size = 2 from rfl]); omega)
  have a1 := add_run (ahead ++ ⟨#[115, 101, 116, 32]⟩) nm (by (repeat rw [ByteArray.size_append]); (try simp only [show (⟨#[59, 10]⟩ : ByteArray).size = 2 from rfl, show (⟨#[32]⟩ : ByteArray).size = 1 from rfl, show (⟨#[115, 101, 116, 32]⟩ : ByteArray).size = 4 from rfl, show (⟨#[32, 61, 32]⟩ : ByteArray).size = 3 from rfl, show (⟨#[99, 108, 117, 115, 116, 101, 114, 32]⟩ : ByteArray).size = 8 from rfl, show (⟨#[32, 123, 10]⟩ : ByteArray).size = 3 from rfl, show (⟨#[32, 32, 32, 32]⟩ : ByteArray).size = 4 from rfl, show (⟨#[125, 10]⟩ : ByteArray).size = 2 from rfl]); omega)
  have a2 := add_run (ahead ++ ⟨#[115, 101, 116, 32]⟩ ++ nm) ⟨#[32, 61, 32]⟩ (by (repeat rw [ByteArray.size_append]); (try simp only [show (⟨#[59, 10]⟩ : ByteArray).size = 2 from rfl, show (⟨#[32]⟩ : ByteArray).size = 1 from rfl, show (⟨#[115, 101, 116, 32]⟩ : ByteArray).size = 4 from rfl, show (⟨#[32, 61, 32]⟩ : ByteArray).size = 3 from rfl, show (⟨#[99, 108, 117, 115, 116, 101, 114, 32]⟩ : ByteArray).size = 8 from rfl, show (⟨#[32, 123, 10]⟩ : ByteArray).size = 3 from rfl, show (⟨#[32, 32, 32, 32]⟩ : ByteArray).size = 4 from rfl, show (⟨#[125, 10]⟩ : ByteArray).size = 2 from rfl]); omega)
  have a3 := add_run (ahead ++ ⟨#[115, 101, 116, 32]⟩ ++ nm ++ ⟨#[32, 61, 32]⟩) T1 (by (repeat rw [ByteArray.size_append]); (try simp only [show (⟨#[59, 10]⟩ : ByteArray).size = 2 from rfl, show (⟨#[32]⟩ : ByteArray).size = 1 from rfl, show (⟨#[115, 101, 116, 32]⟩ : ByteArray).size = 4 from rfl, show (⟨#[32, 61, 32]⟩ : ByteArray).size = 3 from rfl, show (⟨#[99, 108, 117, 115, 116, 101, 114, 32]⟩ : ByteArray).size = 8 from rfl, show (⟨#[32, 123, 10]⟩ : ByteArray).size = 3 from rfl, show (⟨#[32, 32, 32, 32]⟩ : ByteArray).size = 4 from rfl, show (⟨#[125, 10]⟩ : ByteArray).size = 2 from rfl]); omega)
  have a4 := add_run (ahead ++ ⟨#[115, 101, 116, 32]⟩ ++ nm ++ ⟨#[32, 61, 32]⟩ ++ T1) ⟨#[59, 10]⟩ (by (repeat rw [ByteArray.size_append]); (try simp only [show (⟨#[59, 10]⟩ : ByteArray).size = 2 from rfl, show (⟨#[32]⟩ : ByteArray).size = 1 from rfl, show (⟨#[115, 101, 116, 32]⟩ : ByteArray).size = 4 from rfl, show (⟨#[32, 61, 32]⟩ : ByteArray).size = 3 from rfl, show (⟨#[99, 108, 117, 115, 116, 101, 114, 32]⟩ : ByteArray).size = 8 from rfl, show (⟨#[32, 123, 10]⟩ : ByteArray).size = 3 from rfl, show (⟨#[32, 32, 32, 32]⟩ : ByteArray).size = 4 from rfl, show (⟨#[125, 10]⟩ : ByteArray).size = 2 from rfl]); omega)
  clear hks hxb hsz h1 hc
  go_enter Tryz.func30, Tryz.ntmps30
  go_wp2_with fail
  refine wp_region_quiet_below (by kernel_rfl) (by kernel_rfl) ?_
  repeat (go_big_quiet_step ((go_at_call 44; exact C0.out _ _)))
  refine wpQuiet_nil ?_
  intro _ hw'
  obtain ⟨⟨dq, osq⟩, hw''⟩ := hw'
  subst hw''
  go_wp2_with fail
  go_returns
  exact ⟨rfl, HX.out _ _⟩
set_option maxHeartbeats 4000000 in
set_option maxRecDepth 100000 in
theorem stmtR_5 (nm ahead : ByteArray) (r a b : Option Addr) (R A B rc ac bc : Nat) (d : Bool) (w : World) (T1 : ByteArray) (h1 : ∀ w', Ext w w' → Calls Tryz.prog 19 #[.slice b B bc, .bool d, .string (ahead ++ ⟨#[32, 32, 32, 32]⟩)] w' fun e w'' => e = .returned (.string T1) ∧ Ext w' w'') (hsz : ahead.size + nm.size + T1.size + ahead.size + 20 ≤ 140737488355328) :
    Calls Tryz.prog 30 #[.agg #[.int .i64 5, .string nm, .slice r R rc, .slice a A ac, .slice b B bc], .bool d, .string ahead] w fun e w' => e = .returned (.string (ahead ++ ⟨#[99, 108, 117, 115, 116, 101, 114, 32]⟩ ++ nm ++ ⟨#[32, 123, 10]⟩ ++ T1 ++ ahead ++ ⟨#[125, 10]⟩)) ∧ Ext w w' := by
  have hxb : Ext w (w.alloc (.cells #[.int .i64 5, .string nm, .slice r R rc, .slice a A ac, .slice b B bc] 44)) := (Ext.refl _).alloc _
  have hks := stm_one w 5 nm r a b R A B rc ac bc
  dsimp only at hks
  have k0 := fun d os => (hks d os).1
  have k1 := fun d os => (hks d os).2.2.2
  have HX : Hid (∀ d os, Ext w (grow (redrawn (w.alloc (.cells #[.int .i64 5, .string nm, .slice r R rc, .slice a A ac, .slice b B bc] 44)) d) os)) := Lib.hid (fun d os => hxb.trans (below_regrown _ d os))
  have C0 := Lib.hid (fun dd os => regrown_ext hxb h1 dd os)
  have a0 := add_run (ahead) ⟨#[99, 108, 117, 115, 116, 101, 114, 32]⟩ (by (repeat rw [ByteArray.size_append]); (try simp only [show (⟨#[59, 10]⟩ : ByteArray).size = 2 from rfl, show (⟨#[32]⟩ : ByteArray).size = 1 from rfl, show (⟨#[115, 101, 116, 32]⟩ : ByteArray).size = 4 from rfl, show (⟨#[32, 61, 32]⟩ : ByteArray).size = 3 from rfl, show (⟨#[99, 108, 117, 115, 116, 101, 114, 32]⟩ : ByteArray).size = 8 from rfl, show (⟨#[32, 123, 10]⟩ : ByteArray).size = 3 from rfl, show (⟨#[32, 32, 32, 32]⟩ : ByteArray).size = 4 from rfl, show (⟨#[125, 10]⟩ : ByteArray).size = 2 from rfl]); omega)
  have a1 := add_run (ahead ++ ⟨#[99, 108, 117, 115, 116, 101, 114, 32]⟩) nm (by (repeat rw [ByteArray.size_append]); (try simp only [show (⟨#[59, 10]⟩ : ByteArray).size = 2 from rfl, show (⟨#[32]⟩ : ByteArray).size = 1 from rfl, show (⟨#[115, 101, 116, 32]⟩ : ByteArray).size = 4 from rfl, show (⟨#[32, 61, 32]⟩ : ByteArray).size = 3 from rfl, show (⟨#[99, 108, 117, 115, 116, 101, 114, 32]⟩ : ByteArray).size = 8 from rfl, show (⟨#[32, 123, 10]⟩ : ByteArray).size = 3 from rfl, show (⟨#[32, 32, 32, 32]⟩ : ByteArray).size = 4 from rfl, show (⟨#[125, 10]⟩ : ByteArray).size = 2 from rfl]); omega)
  have a2 := add_run (ahead ++ ⟨#[99, 108, 117, 115, 116, 101, 114, 32]⟩ ++ nm) ⟨#[32, 123, 10]⟩ (by (repeat rw [ByteArray.size_append]); (try simp only [show (⟨#[59, 10]⟩ : ByteArray).size = 2 from rfl, show (⟨#[32]⟩ : ByteArray).size = 1 from rfl, show (⟨#[115, 101, 116, 32]⟩ : ByteArray).size = 4 from rfl, show (⟨#[32, 61, 32]⟩ : ByteArray).size = 3 from rfl, show (⟨#[99, 108, 117, 115, 116, 101, 114, 32]⟩ : ByteArray).size = 8 from rfl, show (⟨#[32, 123, 10]⟩ : ByteArray).size = 3 from rfl, show (⟨#[32, 32, 32, 32]⟩ : ByteArray).size = 4 from rfl, show (⟨#[125, 10]⟩ : ByteArray).size = 2 from rfl]); omega)
  have a3 := add_run (ahead ++ ⟨#[99, 108, 117, 115, 116, 101, 114, 32]⟩ ++ nm ++ ⟨#[32, 123, 10]⟩) T1 (by (repeat rw [ByteArray.size_append]); (try simp only [show (⟨#[59, 10]⟩ : ByteArray).size = 2 from rfl, show (⟨#[32]⟩ : ByteArray).size = 1 from rfl, show (⟨#[115, 101, 116, 32]⟩ : ByteArray).size = 4 from rfl, show (⟨#[32, 61, 32]⟩ : ByteArray).size = 3 from rfl, show (⟨#[99, 108, 117, 115, 116, 101, 114, 32]⟩ : ByteArray).size = 8 from rfl, show (⟨#[32, 123, 10]⟩ : ByteArray).size = 3 from rfl, show (⟨#[32, 32, 32, 32]⟩ : ByteArray).size = 4 from rfl, show (⟨#[125, 10]⟩ : ByteArray).size = 2 from rfl]); omega)
  have a4 := add_run (ahead ++ ⟨#[99, 108, 117, 115, 116, 101, 114, 32]⟩ ++ nm ++ ⟨#[32, 123, 10]⟩ ++ T1) ahead (by (repeat rw [ByteArray.size_append]); (try simp only [show (⟨#[59, 10]⟩ : ByteArray).size = 2 from rfl, show (⟨#[32]⟩ : ByteArray).size = 1 from rfl, show (⟨#[115, 101, 116, 32]⟩ : ByteArray).size = 4 from rfl, show (⟨#[32, 61, 32]⟩ : ByteArray).size = 3 from rfl, show (⟨#[99, 108, 117, 115, 116, 101, 114, 32]⟩ : ByteArray).size = 8 from rfl, show (⟨#[32, 123, 10]⟩ : ByteArray).size = 3 from rfl, show (⟨#[32, 32, 32, 32]⟩ : ByteArray).size = 4 from rfl, show (⟨#[125, 10]⟩ : ByteArray).size = 2 from rfl]); omega)
  have a5 := add_run (ahead ++ ⟨#[99, 108, 117, 115, 116, 101, 114, 32]⟩ ++ nm ++ ⟨#[32, 123, 10]⟩ ++ T1 ++ ahead) ⟨#[125, 10]⟩ (by (repeat rw [ByteArray.size_append]); (try simp only [show (⟨#[59, 10]⟩ : ByteArray).size = 2 from rfl, show (⟨#[32]⟩ : ByteArray).size = 1 from rfl, show (⟨#[115, 101, 116, 32]⟩ : ByteArray).size = 4 from rfl, show (⟨#[32, 61, 32]⟩ : ByteArray).size = 3 from rfl, show (⟨#[99, 108, 117, 115, 116, 101, 114, 32]⟩ : ByteArray).size = 8 from rfl, show (⟨#[32, 123, 10]⟩ : ByteArray).size = 3 from rfl, show (⟨#[32, 32, 32, 32]⟩ : ByteArray).size = 4 from rfl, show (⟨#[125, 10]⟩ : ByteArray).size = 2 from rfl]); omega)
  have a6 := add_run ahead ⟨#[32, 32, 32, 32]⟩ (by (repeat rw [ByteArray.size_append]); (try simp only [show (⟨#[59, 10]⟩ : ByteArray).size = 2 from rfl, show (⟨#[32]⟩ : ByteArray).size = 1 from rfl, show (⟨#[115, 101, 116, 32]⟩ : ByteArray).size = 4 from rfl, show (⟨#[32, 61, 32]⟩ : ByteArray).size = 3 from rfl, show (⟨#[99, 108, 117, 115, 116, 101, 114, 32]⟩ : ByteArray).size = 8 from rfl, show (⟨#[32, 123, 10]⟩ : ByteArray).size = 3 from rfl, show (⟨#[32, 32, 32, 32]⟩ : ByteArray).size = 4 from rfl, show (⟨#[125, 10]⟩ : ByteArray).size = 2 from rfl]); omega)
  clear hks hxb hsz h1
  go_enter Tryz.func30, Tryz.ntmps30
  go_wp2_with fail
  refine wp_region_quiet_below (by kernel_rfl) (by kernel_rfl) ?_
  repeat (go_big_quiet_step ((go_at_call 19; exact C0.out _ _)))
  refine wpQuiet_nil ?_
  intro _ hw'
  obtain ⟨⟨dq, osq⟩, hw''⟩ := hw'
  subst hw''
  go_wp2_with fail
  go_returns
  exact ⟨rfl, HX.out _ _⟩
end Go.Proofs.YtmallladeidkpaaGreatDoor.Tr
