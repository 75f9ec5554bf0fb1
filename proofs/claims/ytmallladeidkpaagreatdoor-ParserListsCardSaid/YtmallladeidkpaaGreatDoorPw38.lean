/- Packed texts: ParTrip, ParList, FixPost -/
import Derived.Test.YtmallladeidkpaaGreatDoorPw35
import Derived.Test.YtmallladeidkpaaGreatDoorPw36
import Derived.Test.YtmallladeidkpaaGreatDoorPw37
import Derived.Test.YtmallladeidkpaaGreatDoorPw34
import Derived.Test.YtmallladeidkpaaGreatDoorPw02
import Derived.ProofKit
set_option linter.unusedVariables false
set_option linter.unusedSimpArgs false
/- The law of ParserRoundTrips, walked. -/
namespace Go.Proofs.YtmallladeidkpaaGreatDoor.Pa
open Go.RowKit Go.Sort Go.Lib Go.Shelf Fx Lx Tr

set_option maxHeartbeats 4000000 in
set_option maxRecDepth 100000 in
theorem trip_walk (nm : ByteArray) (dir : Bool) (b : Option Addr) (L : List Stm) (cap : Nat) (w : World) (h : StmsAt w.heap.size w b L) (hlen : L.length ≤ maxLen) (hbig : BigL L) (hnm : nm.size ≤ reachN) (he : Env w) :
    Calls Tryz.prog 3 #[.agg #[.string nm, .bool dir, .slice b L.length cap]] w fun e w' => e = .returned (.bool true) ∧ Ext w w' := by
  unfold reachN at hnm
  have hx0 : Ext w (w.alloc (.cells #[.string nm, .bool dir, .slice b L.length cap] 24)) := (Ext.refl _).alloc _
  have hawk := fun w' (x : Ext w w') => awake_any w' (he.ext x)
  have hcl := tree_cells w nm dir b L.length cap
  have hfew : ∀ w', Ext w w' → Calls Tryz.prog 6 #[.slice b L.length cap, .int .i64 0] w' fun e w'' => e = .returned (.bool (fewB 0 L)) ∧ Ext w' w'' := fun w' x => few_any (sizeL L) L b cap w.heap.size 0 w' (Nat.le_refl _) hlen (by omega) x.size (StmsAt.below x L h)
  have HAWK := Lib.hid hawk; have HFEW := Lib.hid hfew; have HCL := Lib.hid hcl
  obtain ⟨m0, m1, m2⟩ := hcl _ (Ext.refl _)
  clear hawk hfew hcl
  cases hf : fewB 0 L
  · rw [hf] at HFEW
    clear h hlen hbig hnm he hf
    generalize L.length = N at *
    go_enter Tryz.func3, Tryz.ntmps3
    go_wp2_with (first
      | (go_at_call 6; refine (HFEW.out _ hx0).mono ?_; rintro e w1 ⟨rfl, x1⟩)
      | (go_at_call 8; refine (HAWK.out _ (hx0.trans x1)).mono ?_; rintro e w2 ⟨rfl, x2⟩))
    go_returns
    exact ⟨rfl, (hx0.trans x1).trans x2⟩
  rw [hf] at HFEW
  have hval := fun w' (x : Ext w w') => validR_big nm dir b L cap w.heap.size w' x.size (StmsAt.below x L h) (few_flat hf).1 hbig (by omega)
  by_cases hv : validE nm L = 0
  · rw [hv] at hval
    obtain ⟨hn16, hsz⟩ := few_valid hv hf
    have hpr := fun w' (x : Ext w w') => printR_dir nm dir b L cap w.heap.size w' x.size (StmsAt.below x L h) hsz (by omega) (printT_len dir nm L (by omega) hsz) hv
    have hsrc := src_print dir nm L hv
    obtain ⟨P, hP⟩ : ∃ P, P = bs (printT dir nm L) := ⟨_, rfl⟩
    have hPl : P.data.toList = printT dir nm L := by rw [hP]
    rw [← hP] at hpr
    rw [← hPl] at hsrc
    have HVAL := Lib.hid hval; have HPR := Lib.hid hpr
    clear hval hpr hP hPl
    by_cases hbg : 16384 < P.size
    · have g1 : (16384 : Int) < P.size := by omega
      clear h hlen hbig hnm he hf hsrc hv hn16 hsz hbg
      generalize L.length = N at *
      go_enter Tryz.func3, Tryz.ntmps3
      go_wp2_with (first
        | (go_at_call 6; refine (HFEW.out _ hx0).mono ?_; rintro e w1 ⟨rfl, x1⟩; obtain ⟨m0, m1, m2⟩ := HCL.out _ x1)
        | (go_at_call 7; refine (HVAL.out _ (hx0.trans x1)).mono ?_; rintro e w2 ⟨rfl, x2⟩; have x12 := x1.trans x2; obtain ⟨m0, m1, m2⟩ := HCL.out _ x12)
        | (go_at_call 9; refine (HPR.out _ (hx0.trans x12)).mono ?_; rintro e w3 ⟨rfl, x3⟩; have x13 := x12.trans x3)
        | (go_at_call 8; refine (HAWK.out _ (hx0.trans x13)).mono ?_; rintro e w4 ⟨rfl, x4⟩))
      go_returns
      exact ⟨rfl, (hx0.trans x13).trans x4⟩
    · have g1 : ¬ (16384 : Int) < P.size := by omega
      have hsr := hsrc (by rw [← size_len]; omega)
      have hps := fun w' (x : Ext w w') => parse_any P w' (by omega) (he.ext x)
      rw [hsr] at hps
      have hsm := fun (b2 : Option Addr) (c2 m : Nat) w' (hx : Ext w w') (hm : m ≤ w'.heap.size) (hwm : w.heap.size ≤ m) (hst : StmsAt m w' b2 L) => sameT_any nm dir L b2 b c2 cap m w' hsz hm hst (StmsAt.mono hwm L (StmsAt.below hx L h))
      have HPS := Lib.hid hps; have HSM := Lib.hid hsm
      clear h hlen hbig hnm he hf hsrc hv hn16 hsz hbg hsr hps hsm
      go_enter Tryz.func3, Tryz.ntmps3
      go_upto_region 7 with (first
        | (go_at_call 6; refine (HFEW.out _ hx0).mono ?_; rintro e w1 ⟨rfl, x1⟩; obtain ⟨m0, m1, m2⟩ := HCL.out _ x1)
        | (go_at_call 7; refine (HVAL.out _ (hx0.trans x1)).mono ?_; rintro e w2 ⟨rfl, x2⟩; have x12 := x1.trans x2; obtain ⟨m0, m1, m2⟩ := HCL.out _ x12)
        | (go_at_call 9; refine (HPR.out _ (hx0.trans x12)).mono ?_; rintro e w3 ⟨rfl, x3⟩; have x13 := x12.trans x3)
        | (go_at_call 10; refine (HPS.out _ (hx0.trans x13)).mono ?_; rintro e w4 ⟨⟨_, rfl, hu⟩, x4⟩; obtain ⟨b2, c2, rfl, hst2⟩ := hu.parts; have HST2 := Lib.hid hst2; have x14 := x13.trans x4; dsimp only; clear hu hst2 x4))
      clear m0 m1 m2
      obtain ⟨W2, hW2⟩ : ∃ W2, W2 = w4.alloc (.cells #[.string nm, .bool dir, .slice b2 L.length c2] 24) := ⟨_, rfl⟩
      have hxx : Ext w4 W2 := by rw [hW2]; exact (Ext.refl w4).alloc _
      obtain ⟨m0, m1, m2⟩ := HCL.out W2 (x14.trans hxx)
      obtain ⟨n0, n1, n2⟩ := tree_cells w4 nm dir b2 L.length c2 W2 (by rw [hW2]; exact Ext.refl _)
      have hsame := HSM.out b2 c2 w4.heap.size W2 (hx0.trans (x14.trans hxx)) hxx.size (hx0.trans x14).size (StmsAt.below hxx L HST2.out)
      rw [← hW2]
      have XW := Lib.hid (hx0.trans (x14.trans hxx))
      have HSA := Lib.hid hsame
      clear hsame hxx hW2 HST2
      generalize L.length = N at *
      go_wp2_with (first
        | (go_at_call 11; refine HSA.out.mono ?_; rintro e w5 ⟨rfl, x5⟩)
        | (go_at_call 8; refine (HAWK.out _ (XW.out.trans x5)).mono ?_; rintro e w6 ⟨rfl, x6⟩))
      go_returns
      exact ⟨rfl, (XW.out.trans x5).trans x6⟩
  · generalize validE nm L = E at *
    have HVAL := Lib.hid hval
    clear h hlen hbig hnm he hf hval
    generalize L.length = N at *
    go_enter Tryz.func3, Tryz.ntmps3
    go_wp2_with (first
      | (go_at_call 6; refine (HFEW.out _ hx0).mono ?_; rintro e w1 ⟨rfl, x1⟩; obtain ⟨m0, m1, m2⟩ := HCL.out _ x1)
      | (go_at_call 7; refine (HVAL.out _ (hx0.trans x1)).mono ?_; rintro e w2 ⟨rfl, x2⟩; have x12 := x1.trans x2)
      | (go_at_call 8; refine (HAWK.out _ (hx0.trans x12)).mono ?_; rintro e w3 ⟨rfl, x3⟩))
    go_returns
    exact ⟨rfl, (hx0.trans x12).trans x3⟩
theorem trip_card (v : Value) (w : World) (hv : TreeArg w v) (he : Env w) : Calls Tryz.prog 3 #[v] w fun e w' => e = .returned (.bool true) ∧ Ext w w' := by
  obtain ⟨nm, dir, b, L, cap, rfl, h1, h2, h3, h4⟩ := hv
  exact trip_walk nm dir b L cap w h1 h2 h3 h4 he
end Go.Proofs.YtmallladeidkpaaGreatDoor.Pa

/- The law of ParserLists, walked. -/
namespace Go.Proofs.YtmallladeidkpaaGreatDoor.Pa
open Go.RowKit Go.Sort Go.Lib Go.Shelf Fx Lx Tr

set_option maxHeartbeats 4000000 in
set_option maxRecDepth 100000 in
/-- What the document's One returns. -/
theorem one_any (a : Option Addr) (L : List Two) (cap : Nat) (w : World) (h : TwoAt w.heap.size w a L) (hc : L.length ≤ cap) (hm : cap ≤ maxLen) :
    Calls Tryz.prog 12 #[.slice a L.length cap] w fun e w' => (∃ g, e = .returned (.agg #[.string ⟨#[103]⟩, .bool false, .slice (some ⟨g, 0, none⟩) 1 1]) ∧ StmsAt w'.heap.size w' (some ⟨g, 0, none⟩) (oneL L)) ∧ Ext w w' := by
  obtain ⟨T, hT⟩ : ∃ T : Obj, T = .cells #[.string ⟨#[103]⟩, .bool false, .slice (some ⟨w.heap.size + 1, 0, none⟩) 1 1] 24 := ⟨_, rfl⟩
  have hx0 : Ext w (w.alloc T) := (Ext.refl _).alloc _
  have hone := one_at (w.alloc T) a L cap ((h.below hx0).mono hx0.size) hc hm
  have hx1 := (Ext.refl (w.alloc T)).alloc (.cells #[.int .i64 1, .string ⟨#[97]⟩, .slice none 0 0, .slice a L.length cap, .slice none 0 0] 44)
  have k1 := (hx1.block w.heap.size (by simp)).trans (heap_alloc_new w T)
  rw [World.size_alloc] at hone
  have HONE := Lib.hid hone; have K1 := Lib.hid k1; have HX := Lib.hid (hx0.trans hx1); have HT := Lib.hid hT
  have hwl : w.heap.size < w.heap.size + 1 := by omega
  clear hone k1 hx0 hx1 h hc hm hT
  generalize hN : L.length = N at *
  go_enter Tryz.func12, Tryz.ntmps12
  go_wp2
  rw [← HT.out]
  have K1' := K1.out
  rw [HT.out] at K1'
  refine bodyPost_ret (results_cell_row rfl _ _ w.heap.size 24 #[.string ⟨#[103]⟩, .bool false, .slice (some ⟨w.heap.size + 1, 0, none⟩) 1 1] (0, 0) _ rfl (by rw [HT.out]; exact K1') Tryz.underlying24 rfl size_tree) rfl ?_
  exact ⟨⟨w.heap.size + 1, rfl, StmsAt.mono (by rw [World.size_alloc, World.size_alloc]; exact Nat.le_refl _) _ HONE.out⟩, HX.out⟩
set_option maxHeartbeats 4000000 in
set_option maxRecDepth 100000 in
theorem list_walk (a : Option Addr) (L : List Two) (cap : Nat) (w : World) (h : TwoAt w.heap.size w a L) (hc : L.length ≤ cap) (hm : cap ≤ maxLen) (hs : SmallT L) (he : Env w) :
    Calls Tryz.prog 5 #[.slice a L.length cap] w fun e w' => e = .returned (.bool true) ∧ Ext w w' := by
  have hawk := fun w' (x : Ext w w') => awake_any w' (he.ext x)
  have HAWK := Lib.hid hawk
  clear hawk
  have hmm := hm
  unfold maxLen at hmm
  by_cases h1 : L.length < 1
  · have g1 : (L.length : Int) < 1 := by omega
    clear h hc hm hs he h1
    generalize L.length = N at *
    go_enter Tryz.func5, Tryz.ntmps5
    go_wp2_with (go_at_call 8; refine (HAWK.out _ (Ext.refl _)).mono ?_; rintro e w1 ⟨rfl, x1⟩)
    go_returns
    exact ⟨rfl, x1⟩
  have g1 : ¬ (L.length : Int) < 1 := by omega
  by_cases h2 : 20 < L.length
  · have g2 : (20 : Int) < L.length := by omega
    clear h hc hm hs he h1 h2
    generalize L.length = N at *
    go_enter Tryz.func5, Tryz.ntmps5
    go_wp2_with (go_at_call 8; refine (HAWK.out _ (Ext.refl _)).mono ?_; rintro e w1 ⟨rfl, x1⟩)
    go_returns
    exact ⟨rfl, x1⟩
  have g2 : ¬ (20 : Int) < L.length := by omega
  have hL20 : L.length ≤ 20 := by omega
  have hbig : BigL (oneL L) := fun p hp => by
    unfold oneL at hp
    rw [flatL_cons, flatS_eq] at hp
    simp only [Stm.body, flatL_nil, List.append_nil, List.mem_singleton] at hp
    subst hp
    unfold SmallT reachN at hs
    exact ⟨by show ByteArray.size ⟨#[97]⟩ ≤ _; decide, fun q hq => by have := hs q hq; omega, fun q hq => by cases hq⟩
  have hcnt : (flatL 0 (oneL L)).length ≤ 1099511627776 := by
    unfold oneL
    rw [flatL_cons, flatS_eq]
    simp [Stm.body, flatL_nil]
  have hon := fun w' (x : Ext w w') => one_any a L cap w' ((h.below x).mono x.size) hc hm
  have hval := fun (g : Nat) w' (hst : StmsAt w'.heap.size w' (some ⟨g, 0, none⟩) (oneL L)) => validR_big gN false (some ⟨g, 0, none⟩) (oneL L) 1 w'.heap.size w' (Nat.le_refl _) hst hcnt hbig (by decide)
  unfold gN at hval
  rw [show (oneL L).length = 1 from rfl] at hval
  by_cases hv : validE ⟨#[103]⟩ (oneL L) = 0
  · rw [hv] at hval
    have h0 : L ≠ [] := by rintro rfl; exact h1 (by decide)
    obtain ⟨_, _, _, h4⟩ := valid_ok gN (oneL L) hv
    unfold oneL at h4
    rw [AllL, AllS] at h4
    obtain ⟨_, _, _, hok⟩ := h4.1.1
    have hsz : ∀ q ∈ L, q.1.size ≤ 100 ∧ q.2.size ≤ 100 := fun q hq => by
      obtain ⟨e1, e2, _⟩ := hok q hq
      have := name_len (e1 (show (1 : Int) ≠ 4 by decide))
      omega
    have hat := fun w' (x : Ext w w') => attrsD_any a L cap w' ((h.below x).mono x.size) hc hm hL20 hsz
    have hlen : (attrsT L).length ≤ 16384 := by
      have e1 : sizeTwo L ≤ 100 * L.length := two_le 100 L fun q hq => by
        obtain ⟨e1, e2, _⟩ := hok q hq
        have := name_len (e1 (show (1 : Int) ≠ 4 by decide))
        omega
      have e2 := listedT_len L
      unfold attrsT
      split
      · simp
      · split
        · omega
        · simp
    have hsrc := src_list L h0 hv hlen
    obtain ⟨P, hP⟩ : ∃ P, P = bs (attrsT L) := ⟨_, rfl⟩
    have hPl : P.data.toList = attrsT L := by rw [hP]
    rw [← hP] at hat
    rw [← hPl] at hsrc hlen
    have hps := fun w' (x : Ext w w') => parseA_any P w' (by rw [size_len]; omega) (he.ext x)
    rw [hsrc] at hps
    have hsm := fun (b2 : Option Addr) (c2 : Nat) w' (hx : Ext w w') (h2 : TwoIn w' b2 L) => sameA_any b2 a L c2 cap w' h2 (h.in.ext hx) (by omega)
    have HON := Lib.hid hon; have HVAL := Lib.hid hval; have HAT := Lib.hid hat; have HPS := Lib.hid hps; have HSM := Lib.hid hsm
    clear hon hval hat hps hsm h hc hm hs he h1 h2 hL20 hbig hcnt hv h0 h4 hok hsz hlen hsrc hP hPl
    go_enter Tryz.func5, Tryz.ntmps5
    go_wp2_with (first
      | (go_at_call 12; refine (HON.out _ (Ext.refl _)).mono ?_; rintro e w1 ⟨⟨g, rfl, hst⟩, x1⟩)
      | (go_at_call 7; refine (HVAL.out g _ hst).mono ?_; rintro e w2 ⟨rfl, x2⟩; have x12 := x1.trans x2)
      | (go_at_call 14; refine (HAT.out _ x12).mono ?_; rintro e w3 ⟨rfl, x3⟩; have x13 := x12.trans x3)
      | (go_at_call 13; refine (HPS.out _ x13).mono ?_; rintro e w4 ⟨⟨_, rfl, ⟨b2, c2, rfl, htp, _, _⟩⟩, x4⟩; have x14 := x13.trans x4; have htw := TwoAt.in (TwoP.at (n := w4.heap.size) (ok := (· < w4.heap.size)) (htp.keep (fun g _ _ => rfl) (fun g _ hl => hl)) (fun g hg => hg)))
      | (go_at_call 15; refine (HSM.out _ _ _ x14 htw).mono ?_; rintro e w5 ⟨rfl, x5⟩; have x15 := x14.trans x5)
      | (go_at_call 8; refine (HAWK.out _ x15).mono ?_; rintro e w6 ⟨rfl, x6⟩))
    go_returns
    exact ⟨rfl, x15.trans x6⟩
  · generalize validE ⟨#[103]⟩ (oneL L) = E at *
    have HON := Lib.hid hon; have HVAL := Lib.hid hval
    clear hon hval h hc hm hs he h1 h2 hL20 hbig hcnt
    go_enter Tryz.func5, Tryz.ntmps5
    go_wp2_with (first
      | (go_at_call 12; refine (HON.out _ (Ext.refl _)).mono ?_; rintro e w1 ⟨⟨g, rfl, hst⟩, x1⟩)
      | (go_at_call 7; refine (HVAL.out g _ hst).mono ?_; rintro e w2 ⟨rfl, x2⟩; have x12 := x1.trans x2)
      | (go_at_call 8; refine (HAWK.out _ x12).mono ?_; rintro e w3 ⟨rfl, x3⟩))
    go_returns
    exact ⟨rfl, x12.trans x3⟩
theorem list_card (v : Value) (w : World) (hv : TwosArg w v) (he : Env w) : Calls Tryz.prog 5 #[v] w fun e w' => e = .returned (.bool true) ∧ Ext w w' := by
  obtain ⟨a, L, cap, rfl, h1, h2, h3, h4⟩ := hv
  exact list_walk a L cap w h1 h2 h3 h4 he
end Go.Proofs.YtmallladeidkpaaGreatDoor.Pa

/- From a walk that leaves all old memory as it was to what a row asks behind the call. -/
namespace Go.Proofs.YtmallladeidkpaaGreatDoor.Fx
open Go.ChangeShapes Go.WideShapes Go.ChangeAt Go.RowKit
section
variable {H : Type} {enc : TypeId × Value → H} {P : Program}
theorem post_ext {f : Func} {s : ChangeSpec} {apart fresh handsOn again : Bool} {W W' : World} {args : Array Value} {v : Value} {ds gs : List (DataW H)} {places pa pv : List MemPlace}
    (hW : DataW.Whole enc P f.params.toList s.vars apart W args.toList ds gs places)
    (results : ∀ (b : Nat) (sp : Nat → Bool) (hd : Bool), DataW.TrodAll enc P W' b sp hd f.resultTypes.toList (v.resultList f.resultTypes.size) (s.fn H (ds ++ gs)).results [])
    (arguments : ∀ sp : Nat → Bool, (∀ x ∈ places, sp x.block = true) → DataW.TrodAll enc P W' 0 sp true f.params.toList args.toList (s.fn H (ds ++ gs)).args pa)
    (variables : ∀ sp : Nat → Bool, (∀ x ∈ places, sp x.block = true) → DataW.TrodVars enc P W' sp s.vars (s.fn H (ds ++ gs)).vars pv)
    (split : places = pa ++ pv) (ext : Ext W W')
    (ok : ∀ (j : Nat) (t : TypeId) (r : Value), f.resultTypes[j]? = some t → (v.resultList f.resultTypes.size)[j]? = some r → Value.okWide P W' .any 0 t r) :
    s.post enc P f apart fresh handsOn again W args v W' := by
  subst split
  have low : ∀ x ∈ pa ++ pv, x.block < W.heap.size := fun x hx => hW.lt x hx
  have mark : ∀ x ∈ pa ++ pv, (fun b => decide (b < W.heap.size)) x.block = true := fun x hx => decide_eq_true (low x hx)
  have whole := hW
  obtain ⟨_, _, _, _, _, cold, once⟩ := hW
  refine ⟨ds, gs, pa ++ pv, [], pa, pv, whole, results _ _ _, arguments _ mark, variables _ mark, World.keptBut_mono (fun x hx => ⟨hx, by simpa using hx⟩) (Below.frame ext (· ∈ pa ++ pv)), fun _ => ⟨ok, _, _, [] ++ pa ++ pv, ⟨[] ++ pa, pv, trodAll_append (arguments _ fun _ _ => rfl) (results _ _ _), variables _ fun _ _ => rfl, rfl, fun b off hb => ?_, fun ha => ?_⟩, fun x hx _ => ?_⟩⟩
  · have at' : MemPlace.cell b off ∈ pa ++ pv := by simpa using hb
    rw [Below.frozen ext (low _ at')]
    exact cold b off at'
  · have := once ha; simpa using this
  · simpa using hx
end
end Go.Proofs.YtmallladeidkpaaGreatDoor.Fx
