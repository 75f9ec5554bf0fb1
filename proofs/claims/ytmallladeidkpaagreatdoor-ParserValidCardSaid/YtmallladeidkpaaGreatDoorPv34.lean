/- Packed texts: TreLisR, ParValid, FixPost -/
import Derived.Test.YtmallladeidkpaaGreatDoorPv33
import Derived.Test.YtmallladeidkpaaGreatDoorPv13
import Derived.Deep.QuietTactic
import Derived.BigQuiet
import Derived.Lib.QuietBelow
import Derived.Test.YtmallladeidkpaaGreatDoorPv26
import Derived.Test.YtmallladeidkpaaGreatDoorPv29
import Derived.Test.YtmallladeidkpaaGreatDoorPv01
import Derived.ProofKit
set_option linter.unusedVariables false
set_option linter.unusedSimpArgs false
/- What the document's list, after and refs return. -/
namespace Go.Proofs.YtmallladeidkpaaGreatDoor.Tr
open Go.RowKit Go.Sort Go.Lib Go.Shelf Fx Lx

abbrev bs (l : List UInt8) : ByteArray := ⟨l.toArray⟩
theorem bs_app (a b : List UInt8) : bs a ++ bs b = bs (a ++ b) := by
  apply ByteArray.ext; simp [ByteArray.data_append]
theorem bs_data (s : ByteArray) : bs s.data.toList = s := by cases s; simp
theorem bs_size (l : List UInt8) : (bs l).size = l.length := by simp [ByteArray.size]
theorem add_run (a b : ByteArray) (h : a.size + b.size ≤ 140737488355328) : ∀ w, (Op.stringOp .add a b).run Tryz.prog w = .ok (.string (a ++ b)) w := fun w => run_string_add_sum w _ _ (Nat.le_trans h (by decide))
/-- The text of a list, as the document has it. -/
def listRT (a : List Two) : List UInt8 := if a.isEmpty = true then [] else listedT a
/-- The list's text up to a place. -/
def listP (a : List Two) : List UInt8 := 91 :: sepT [44, 32] (a.map attrT)
theorem listP_snoc (a : List Two) (q : Two) : listP (a ++ [q]) = if a.isEmpty = true then 91 :: attrT q else listP a ++ [44, 32] ++ attrT q := by
  unfold listP
  rw [List.map_append, List.map_cons, List.map_nil, sepT_snoc]
  cases a <;> simp
theorem sepT_prefix (sep : List UInt8) (M : List (List UInt8)) : ∀ L : List (List UInt8), (sepT sep L).length ≤ (sepT sep (L ++ M)).length
  | [] => by simp [sepT]
  | [x] => by
    cases M with
    | nil => exact Nat.le_refl _
    | cons y r => show x.length ≤ (x ++ sep ++ sepT sep (y :: r)).length; rw [List.length_append, List.length_append]; omega
  | x :: y :: r => by
    have := sepT_prefix sep M (y :: r)
    show (x ++ sep ++ sepT sep (y :: r)).length ≤ (x ++ sep ++ sepT sep (y :: r ++ M)).length
    simp only [List.length_append] at this ⊢
    omega
set_option maxHeartbeats 4000000 in
set_option maxRecDepth 100000 in
theorem listR_any (a : Option Addr) (L : List Two) (cap : Nat) (w : World) (h : TwoIn w a L) (hL : L.length ≤ 2000000) (hs : ∀ q ∈ L, q.2.size < 4294967281) (hlen : (listedT L).length ≤ 140737488355328) :
    Calls Tryz.prog 27 #[.slice a L.length cap] w fun e w' => e = .returned (.string (bs (listRT L))) ∧ Ext w w' := by
  by_cases h0 : L = []
  · subst h0
    clear h hs hlen hL
    go_enter Tryz.func27, Tryz.ntmps27
    go_wp2
    go_returns
    exact ⟨rfl, Ext.refl _⟩
  have hp0 : 0 < L.length := List.length_pos_iff.2 h0
  obtain ⟨V, hV⟩ : ∃ V : ByteArray, V = bs (listRT L) := ⟨_, rfl⟩
  rw [← hV]
  have hVV : V = bs (listP L) ++ ⟨#[93]⟩ := by
    rw [hV, show (⟨#[93]⟩ : ByteArray) = bs [93] from rfl, bs_app]
    unfold listRT listedT listP
    rw [if_neg (by simpa using h0)]
    rfl
  have hle : ∀ k, (listP (L.take k)).length ≤ 140737488355327 := fun k => by
    have := sepT_prefix [44, 32] ((L.drop k).map attrT) ((L.take k).map attrT)
    rw [← List.map_append, List.take_append_drop] at this
    unfold listP
    unfold listedT at hlen
    simp only [List.length_cons, List.length_append, List.length_nil] at hlen ⊢
    omega
  obtain ⟨N, hN⟩ : ∃ N, N = L.length := ⟨_, rfl⟩
  have f1 : ((N : Int) == 0) = false := by rw [beq_eq_false_iff_ne]; omega
  rw [← hN] at hL ⊢
  have HV := Lib.hid hVV; have HLE := Lib.hid hle
  have HN := Lib.hid hN; have HI := Lib.hid h; have HS := Lib.hid hs
  have HZ : Hid (bs (listP (L.take 0)) = ⟨#[91]⟩) := Lib.hid rfl
  clear hVV hle hV hN h hs hlen h0 hp0
  go_enter Tryz.func27, Tryz.ntmps27
  go_wp2
  go_loopw [3, 4] (fun s' i' wr => ∃ (k : Nat) (s : ByteArray), k ≤ N ∧ s' = .string s ∧ i' = .int .i64 k ∧ Ext w wr ∧ Hid (s = bs (listP (L.take k)))) (fun _ i' _ => N - (RowKit.intOf i').toNat)
  case atStart => exact ⟨0, _, by omega, rfl, rfl, Ext.refl _, Lib.hid HZ.out.symm⟩
  case round =>
    obtain ⟨k, s, hk, rfl, rfl, hx, hb⟩ := hrel
    clear HZ
    by_cases hlt : k < N
    · have hkl : k < L.length := by rw [← HN.out]; exact hlt
      obtain ⟨g, o, rfl, c0, c1⟩ := (HI.out.ext hx) k hkl
      have hs2 := HS.out _ (List.getElem_mem hkl)
      have hsn : listP (L.take (k + 1)) = if (L.take k).isEmpty = true then 91 :: attrT L[k] else listP (L.take k) ++ [44, 32] ++ attrT L[k] := by
        rw [List.take_succ_eq_append_getElem hkl, listP_snoc]
      have hlk := HLE.out (k + 1)
      obtain ⟨n, d, hq⟩ : ∃ n d, L[k] = (n, d) := ⟨_, _, rfl⟩
      rw [hq] at c0 c1 hs2 hsn
      obtain ⟨T, hT⟩ : ∃ T : ByteArray, T = bs (valueT d) := ⟨_, rfl⟩
      have hval : ∀ w', Calls Tryz.prog 44 #[.string d] w' fun e w'' => e = .returned (.string T) ∧ w' = w'' := fun w' => by rw [hT]; exact valueR_any d w' hs2
      have cV : ∀ dd os, Calls Tryz.prog 44 #[.string d] (grow (redrawn wr dd) os) fun e w'' => e = .returned (.string T) ∧ ∃ p : Regrown, w'' = grow (redrawn wr p.d) p.os :=
        fun dd os => Calls.regrown_of ((hval _).mono fun e w' ⟨he, hw⟩ => ⟨he, hw ▸ Ext.refl _⟩)
      have k0 := cell_regrown c0; have k1 := cell_regrown c1
      have CV := Lib.hid cV
      have hx2 : ∀ d2 os, Ext w (grow (redrawn wr d2) os) := fun d2 os => hx.trans (below_regrown _ d2 os)
      have HX2 := Lib.hid hx2
      by_cases hk0 : k = 0
      · have hfin : bs (listP (L.take (k + 1))) = s ++ n ++ ⟨#[61]⟩ ++ T := by
          rw [hsn, hb.out, hT]
          subst hk0
          rw [if_pos (by simp)]
          unfold attrT
          rw [show listP (L.take 0) = [91] from rfl, show (⟨#[61]⟩ : ByteArray) = bs [61] from rfl]
          conv => rhs; rw [← bs_data n]
          rw [bs_app, bs_app, bs_app]
          simp
        have hz : s.size + n.size + 1 + T.size ≤ 140737488355328 := by
          have h : (bs (listP (L.take (k + 1)))).size = (s ++ n ++ (⟨#[61]⟩ : ByteArray) ++ T).size := by rw [hfin]
          rw [bs_size] at h
          simp only [ByteArray.size_append] at h
          have e1 : (⟨#[61]⟩ : ByteArray).size = 1 := rfl
          omega
        have a1 := add_run s n (by omega)
        have a2 := add_run (s ++ n) ⟨#[61]⟩ (by rw [ByteArray.size_append]; show _ + 1 ≤ _; omega)
        have a3 := add_run (s ++ n ++ ⟨#[61]⟩) T (by rw [ByteArray.size_append, ByteArray.size_append]; show _ + 1 + _ ≤ _; omega)
        have HF := Lib.hid hfin.symm
        have g0 : decide (0 < k) = false := decide_eq_false (by omega)
        have g0' : ¬ 0 < k := by omega
        clear hfin hz hsn hlk hq hT hval cV hx2 hb hs2 c0 c1 hk0
        go_wp2_with fail
        refine wp_region_quiet_below (by kernel_rfl) (by kernel_rfl) ?_
        repeat (go_big_quiet_step ((go_at_call 44; exact CV.out _ _)))
        refine wpQuiet_nil ?_
        intro _ hw'
        obtain ⟨⟨dq, osq⟩, hw''⟩ := hw'
        subst hw''
        go_wp2_with fail
        go_roundw
        case rel => exact ⟨k + 1, _, by omega, rfl, by go_num, HX2.out _ _, HF⟩
        case measure => simp [RowKit.intOf]; omega
      · have hfin : bs (listP (L.take (k + 1))) = s ++ ⟨#[44, 32]⟩ ++ n ++ ⟨#[61]⟩ ++ T := by
          rw [hsn, hb.out, hT]
          rw [if_neg (by
            intro h
            have h2 : (L.take k).length = 0 := by rw [List.isEmpty_iff.1 h]; rfl
            rw [List.length_take] at h2
            omega)]
          unfold attrT
          rw [show (⟨#[61]⟩ : ByteArray) = bs [61] from rfl, show (⟨#[44, 32]⟩ : ByteArray) = bs [44, 32] from rfl]
          conv => rhs; rw [← bs_data n]
          rw [bs_app, bs_app, bs_app, bs_app]
          simp
        have hz : s.size + 2 + n.size + 1 + T.size ≤ 140737488355328 := by
          have h : (bs (listP (L.take (k + 1)))).size = (s ++ (⟨#[44, 32]⟩ : ByteArray) ++ n ++ (⟨#[61]⟩ : ByteArray) ++ T).size := by rw [hfin]
          rw [bs_size] at h
          simp only [ByteArray.size_append] at h
          have e1 : (⟨#[61]⟩ : ByteArray).size = 1 := rfl
          have e2 : (⟨#[44, 32]⟩ : ByteArray).size = 2 := rfl
          omega
        have a0 := add_run s ⟨#[44, 32]⟩ (by show _ + 2 ≤ _; omega)
        have a1 := add_run (s ++ ⟨#[44, 32]⟩) n (by rw [ByteArray.size_append]; show _ + 2 + _ ≤ _; omega)
        have a2 := add_run (s ++ ⟨#[44, 32]⟩ ++ n) ⟨#[61]⟩ (by rw [ByteArray.size_append, ByteArray.size_append]; show _ + 2 + _ + 1 ≤ _; omega)
        have a3 := add_run (s ++ ⟨#[44, 32]⟩ ++ n ++ ⟨#[61]⟩) T (by rw [ByteArray.size_append, ByteArray.size_append, ByteArray.size_append]; show _ + 2 + _ + 1 + _ ≤ _; omega)
        have HF := Lib.hid hfin.symm
        have g0 : 0 < k := by omega
        have g0' : decide (0 < k) = true := decide_eq_true (by omega)
        clear hfin hz hsn hlk hq hT hval cV hx2 hb hs2 c0 c1 hk0
        go_wp2_with fail
        refine wp_region_quiet_below (by kernel_rfl) (by kernel_rfl) ?_
        repeat (go_big_quiet_step ((go_at_call 44; exact CV.out _ _)))
        refine wpQuiet_nil ?_
        intro _ hw'
        obtain ⟨⟨dq, osq⟩, hw''⟩ := hw'
        subst hw''
        go_wp2_with fail
        go_roundw
        case rel => exact ⟨k + 1, _, by omega, rfl, by go_num, HX2.out _ _, HF⟩
        case measure => simp [RowKit.intOf]; omega
    · have hf : s = bs (listP L) := by rw [hb.out, List.take_of_length_le (by rw [← HN.out]; omega)]
      have a1 := add_run s ⟨#[93]⟩ (by have := HLE.out k; rw [hb.out, bs_size]; show _ + 1 ≤ _; omega)
      have HF : Hid (s ++ ⟨#[93]⟩ = V) := Lib.hid (by rw [HV.out, hf])
      clear hb hf
      go_wp2
      go_returns
      rw [← HF.out]
      exact ⟨rfl, hx⟩
end Go.Proofs.YtmallladeidkpaaGreatDoor.Tr

/- The law of ParserValid, walked. -/
namespace Go.Proofs.YtmallladeidkpaaGreatDoor.Pa
open Go.RowKit Go.Sort Go.Lib Go.Shelf Fx Lx Tr

theorem src_nz (s : List UInt8) : NZ (pSrc s) := by
  unfold pSrc
  exact NZ.bind (runT_err (nz_tree _ _ _ (Nat.le_refl _))) fun t r _ => NZ.ite (fun _ => NZ.ok) (fun h => NZ.err h)
/-- A tree that was handed back, as the document's functions take it. -/
theorem TreeV.parts {m : Nat} {t : Bool × ByteArray × List Stm} {u : Value} {w : World} (h : TreeV (m ≤ ·) t u w) : ∃ b cap, u = .agg #[.string t.2.1, .bool t.1, .slice b t.2.2.length cap] ∧ StmsAt w.heap.size w b t.2.2 := by
  obtain ⟨b, cap, rfl, hsp, _⟩ := h
  exact ⟨b, cap, rfl, StmsP.at (ok := (· < w.heap.size)) (fun g hg => hg) _ b (StmsP.keep (fun g _ _ => rfl) (fun g _ hl => hl) _ b hsp)⟩
set_option maxHeartbeats 4000000 in
set_option maxRecDepth 100000 in
theorem valid_walk (s : ByteArray) (w : World) (hsm : s.size ≤ maxLen) (he : Env w) :
    Calls Tryz.prog 4 #[.string s] w fun e w' => e = .returned (.bool true) ∧ Ext w w' := by
  unfold maxLen at hsm
  have hawk := fun w' (x : Ext w w') => awake_any w' (he.ext x)
  have HAWK := Lib.hid hawk
  clear hawk
  by_cases h3 : 3000 < s.size
  · have g1 : (3000 : Int) < s.size := by omega
    clear h3
    go_enter Tryz.func4, Tryz.ntmps4
    go_wp2_with (go_at_call 8; refine (HAWK.out _ (Ext.refl _)).mono ?_; rintro e w1 ⟨rfl, x1⟩)
    go_returns
    exact ⟨rfl, x1⟩
  have g1 : ¬ (3000 : Int) < s.size := by omega
  obtain ⟨s2, hs2⟩ : ∃ s2 : ByteArray, s2 = ⟨#[35, 32, 123, 10]⟩ ++ s ++ ⟨#[10, 9, 35, 32, 125]⟩ := ⟨_, rfl⟩
  have e4 : (⟨#[35, 32, 123, 10]⟩ : ByteArray).size = 4 := rfl
  have e5 : (⟨#[10, 9, 35, 32, 125]⟩ : ByteArray).size = 5 := rfl
  have a1 := add_run ⟨#[35, 32, 123, 10]⟩ s (by omega)
  have a2 := add_run (⟨#[35, 32, 123, 10]⟩ ++ s) ⟨#[10, 9, 35, 32, 125]⟩ (by rw [ByteArray.size_append]; omega)
  rw [← hs2] at a2
  have hsz : s2.size ≤ 9223372036854775807 := by rw [hs2, ByteArray.size_append, ByteArray.size_append]; omega
  have hl2 : s2.data.toList = [35, 32, 123, 10] ++ (s.data.toList ++ 10 :: suf) := by
    rw [hs2]; simp [ByteArray.data_append, suf]
  have hwr := src_wrap s.data.toList (by rw [← size_len]; omega)
  rw [← hl2] at hwr
  have hp1 := parse_any s w (by omega) he
  have hp2 := fun w' (x : Ext w w') => parse_any s2 w' hsz (he.ext x)
  have hnz := src_nz s.data.toList
  clear h3 hl2 hs2 hsz e4 e5
  rcases hq : pSrc s.data.toList with ⟨⟨d, nm, L⟩, r⟩ | ⟨n, er⟩ <;> rw [hq] at hwr hp1 hnz
  · have hwr : pSrc s2.data.toList = .ok (d, nm, L) [] := hwr
    rw [hwr] at hp2
    obtain ⟨hv0, hsml⟩ := src_valid hq
    dsimp only at hv0 hsml
    have hval := fun (b : Option Addr) (c m : Nat) w' (hm : m ≤ w'.heap.size) (hst : StmsAt m w' b L) => validR_any nm d b L c m w' hm hst (by omega) (by omega)
    rw [hv0] at hval
    have hsam := fun (b b2 : Option Addr) (c c2 m : Nat) w' (hm : m ≤ w'.heap.size) (hst : StmsAt m w' b L) (hst2 : StmsAt m w' b2 L) => sameT_any nm d L b b2 c c2 m w' (by omega) hm hst hst2
    have HP1 := Lib.hid hp1; have HP2 := Lib.hid hp2; have HVAL := Lib.hid hval; have HSAM := Lib.hid hsam
    clear hwr hp1 hp2 hnz hq hv0 hsml hval hsam he
    go_enter Tryz.func4, Tryz.ntmps4
    go_upto_region 5 with (first
      | (go_at_call 10; refine (HP2.out _ (X1.out.trans ((Ext.refl _).alloc _))).mono ?_; rintro e w2 ⟨⟨_, rfl, hu2⟩, x2⟩; obtain ⟨b2, c2, rfl, hst2⟩ := hu2.parts; have HST2 := Lib.hid hst2; have X2 := Lib.hid x2; dsimp only; clear hu2 hst2 x2)
      | (go_at_call 10; refine HP1.out.mono ?_; rintro e w1 ⟨⟨_, rfl, hu1⟩, x1⟩; obtain ⟨b1, c1, rfl, hst1⟩ := hu1.parts; have HST1 := Lib.hid hst1; have X1 := Lib.hid x1; dsimp only; clear hu1 hst1 x1))
    have hx2 := X2.out
    obtain ⟨W2, hW2⟩ : ∃ W2, W2 = w2.alloc (.cells #[.string nm, .bool d, .slice b2 L.length c2] 24) := ⟨_, rfl⟩
    have hxx : Ext w2 W2 := by rw [hW2]; exact (Ext.refl w2).alloc _
    have hcl1 := fun w' (x : Ext W2 w') => tree_cells w1 nm d b1 L.length c1 w' ((hx2.trans hxx).trans x)
    have hcl2 := fun w' (x : Ext W2 w') => tree_cells w2 nm d b2 L.length c2 w' (by rw [hW2] at x; exact x)
    have hlb1 : w1.heap.size ≤ w2.heap.size := by have := hx2.size; rw [World.size_alloc] at this; omega
    have hx12 : Ext w1 w2 := ((Ext.refl w1).alloc _).trans hx2
    have hlb2 : w2.heap.size ≤ W2.heap.size := hxx.size
    have hst1 := fun w' (x : Ext W2 w') => StmsAt.mono hlb1 L (StmsAt.below (hx12.trans (hxx.trans x)) L HST1.out)
    have hst2 := fun w' (x : Ext W2 w') => StmsAt.below (hxx.trans x) L HST2.out
    rw [← hW2]
    obtain ⟨m0, m1, m2⟩ := hcl1 _ (Ext.refl _)
    have XW := Lib.hid ((X1.out.trans hx12).trans hxx)
    have HC1 := Lib.hid hcl1; have HC2 := Lib.hid hcl2; have HS1 := Lib.hid hst1; have HS2 := Lib.hid hst2
    clear hx2 hxx hcl1 hcl2 hx12 hst1 hst2 hW2 HST1 HST2 HP1 HP2 X1 X2
    generalize L.length = N at *
    go_wp2_with (first
      | (go_at_call 7; refine (HVAL.out b1 c1 w2.heap.size _ hlb2 (HS1.out _ (Ext.refl _))).mono ?_; rintro e w3 ⟨rfl, x3⟩; obtain ⟨m0, m1, m2⟩ := HC1.out _ x3; obtain ⟨n0, n1, n2⟩ := HC2.out _ x3)
      | (go_at_call 11; refine (HSAM.out b1 b2 c1 c2 w2.heap.size w3 (Nat.le_trans hlb2 x3.size) (HS1.out _ x3) (HS2.out _ x3)).mono ?_; rintro e w4 ⟨rfl, x4⟩; have x34 := Lib.hid (x3.trans x4))
      | (go_at_call 8; refine (HAWK.out _ (XW.out.trans x34.out)).mono ?_; rintro e w5 ⟨rfl, x5⟩))
    go_returns
    exact ⟨rfl, (XW.out.trans x34.out).trans x5⟩
  · have hne := hnz n er rfl
    obtain ⟨k, hk, hkn⟩ := hwr
    rw [hk] at hp2
    have hln := src_line hq
    have HP1 := Lib.hid hp1; have HP2 := Lib.hid hp2
    clear hp1 hp2 hnz hq hk he
    go_enter Tryz.func4, Tryz.ntmps4
    go_upto_region 6 with (first
      | (go_at_call 10; refine (HP2.out _ (X1.out.trans ((Ext.refl _).alloc _))).mono ?_; rintro e w2 ⟨rfl, x2⟩; have X2 := Lib.hid x2; clear x2)
      | (go_at_call 10; refine HP1.out.mono ?_; rintro e w1 ⟨rfl, x1⟩; have X1 := Lib.hid x1; clear x1))
    have hx2 := X2.out
    obtain ⟨W2, hW2⟩ : ∃ W2, W2 = w2.alloc (.cells #[.string ⟨#[]⟩, .bool false, .slice none 0 0] 24) := ⟨_, rfl⟩
    have hxx : Ext w2 W2 := by rw [hW2]; exact (Ext.refl w2).alloc _
    obtain ⟨m0, m1, m2⟩ := tree_cells w1 ⟨#[]⟩ false none 0 0 W2 (hx2.trans hxx)
    rw [← hW2]
    have XW := Lib.hid ((X1.out.trans (((Ext.refl w1).alloc _).trans hx2)).trans hxx)
    clear hx2 hxx hW2 HP1 HP2 X1 X2
    rcases hkn with rfl | rfl | ⟨rfl, rfl⟩
    all_goals
      go_wp2_with (go_at_call 8; refine (HAWK.out _ XW.out).mono ?_; rintro e w5 ⟨rfl, x5⟩)
      go_returns
      exact ⟨rfl, XW.out.trans x5⟩
end Go.Proofs.YtmallladeidkpaaGreatDoor.Pa

/- From a walk that leaves all old memory as it was to what a row asks behind the call. -/
namespace Go.Proofs.YtmallladeidkpaaGreatDoor.Fx
open Go.ChangeShapes Go.WideShapes Go.ChangeAt Go.RowKit
section
variable {H : Type} {enc : TypeId × Value → H} {P : Program}
theorem post_ext {f : Func} {s : ChangeSpec} {apart fresh handsOn again : Bool} {W W' : World} {args : Array Value} {v : Value} {ds gs : List (DataW H)} {places pa pv : List MemPlace}
    (hW : DataW.Whole enc P f.params.toList s.vars apart W args.toList ds gs places)
    (results : ∀ (b : Nat) (sp : Nat → Bool) (hd : Bool), DataW.TrodAll enc P W' b sp hd f.resultTypes.toList (v.resultList f.resultTypes.size) (s.fn H (ds ++ gs)).results [])
    (arguments : ∀ sp : Nat → Bool, (∀ x ∈ places, sp x.block = true) → DataW.TrodAll enc P W' 0 sp true f.params.toList args.toList (s.fn H (ds ++ gs)).args pa)
    (variables : ∀ sp : Nat → Bool, (∀ x ∈ places, sp x.block = true) → DataW.TrodVars enc P W' sp s.vars (s.fn H (ds ++ gs)).vars pv)
    (split : places = pa ++ pv) (ext : Ext W W')
    (ok : ∀ (j : Nat) (t : TypeId) (r : Value), f.resultTypes[j]? = some t → (v.resultList f.resultTypes.size)[j]? = some r → Value.okWide P W' .any 0 t r) :
    s.post enc P f apart fresh handsOn again W args v W' := by
  subst split
  have low : ∀ x ∈ pa ++ pv, x.block < W.heap.size := fun x hx => hW.lt x hx
  have mark : ∀ x ∈ pa ++ pv, (fun b => decide (b < W.heap.size)) x.block = true := fun x hx => decide_eq_true (low x hx)
  have whole := hW
  obtain ⟨_, _, _, _, _, cold, once⟩ := hW
  refine ⟨ds, gs, pa ++ pv, [], pa, pv, whole, results _ _ _, arguments _ mark, variables _ mark, World.keptBut_mono (fun x hx => ⟨hx, by simpa using hx⟩) (Below.frame ext (· ∈ pa ++ pv)), fun _ => ⟨ok, _, _, [] ++ pa ++ pv, ⟨[] ++ pa, pv, trodAll_append (arguments _ fun _ _ => rfl) (results _ _ _), variables _ fun _ _ => rfl, rfl, fun b off hb => ?_, fun ha => ?_⟩, fun x hx _ => ?_⟩⟩
  · have at' : MemPlace.cell b off ∈ pa ++ pv := by simpa using hb
    rw [Below.frozen ext (low _ at')]
    exact cold b off at'
  · have := once ha; simpa using this
  · simpa using hx
end
end Go.Proofs.YtmallladeidkpaaGreatDoor.Fx
