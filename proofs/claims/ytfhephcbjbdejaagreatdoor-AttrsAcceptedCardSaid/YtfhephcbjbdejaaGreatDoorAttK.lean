/- What awake returns; an argument that is a list of attributes; the laws of Ports, Numbers, Merges, walked. -/
import Derived.Test.YtfhephcbjbdejaaGreatDoorAttH
import Derived.ProofKit
import Derived.Test.YtfhephcbjbdejaaGreatDoorAttJ
import Derived.Test.YtfhephcbjbdejaaGreatDoorAttSame
import Derived.Test.YtfhephcbjbdejaaGreatDoorAttPortsW
import Derived.Test.YtfhephcbjbdejaaGreatDoorAttMem
import Derived.SizedLaws
import Derived.Deep.Slices
import Derived.OpenShut
import Derived.Test.YtfhephcbjbdejaaGreatDoorAttI
import Derived.Test.YtfhephcbjbdejaaGreatDoorAttPortsR
/- The examples of the chapter, as plain functions. -/
namespace Go.Proofs.YtfhephcbjbdejaaGreatDoor.At
open Go.RowKit Go.Sort Go.Lib Go.Shelf Fx Lx

theorem aw1 : portsV ⟨#[105, 110, 32, 116, 111, 112, 44, 32, 111, 117, 116, 32, 98, 111, 116, 116, 111, 109]⟩ = ([(⟨#[105, 110]⟩, 0), (⟨#[111, 117, 116]⟩, 2)], 0) := by kernel_rfl
theorem aw2 : portsV ⟨#[97, 32, 117, 112]⟩ = ([], 4) := by kernel_rfl
theorem aw3 : portsV ⟨#[97, 32, 116, 111, 112, 44, 32, 97, 32, 108, 101, 102, 116]⟩ = ([], 6) := by kernel_rfl
theorem aw4 : checkV 1 ⟨#[119, 105, 100, 116, 104]⟩ ⟨#[49, 50, 46, 53]⟩ = 0 := by kernel_rfl
theorem aw5 : checkV 1 ⟨#[119, 105, 100, 116, 104]⟩ ⟨#[48]⟩ = 7 := by kernel_rfl
theorem aw6 : checkV 3 ⟨#[119, 105, 100, 116, 104]⟩ ⟨#[49]⟩ = 1 := by kernel_rfl
theorem aw7 : numT (ruleT 1 (⟨#[119, 105, 100, 116, 104]⟩ : ByteArray).data.toList) (getT [] ⟨#[119, 105, 100, 116, 104]⟩) = 20000 := by kernel_rfl
theorem aw8 : numT (ruleT 2 (⟨#[119, 101, 105, 103, 104, 116]⟩ : ByteArray).data.toList) (getT [(⟨#[119, 101, 105, 103, 104, 116]⟩, ⟨#[51]⟩)] ⟨#[119, 101, 105, 103, 104, 116]⟩) = 3 := by kernel_rfl
theorem aw9 : mrgT ([((⟨#[98]⟩ : ByteArray), (⟨#[49]⟩ : ByteArray)), (⟨#[97]⟩, ⟨#[50]⟩)] ++ [(⟨#[98]⟩, ⟨#[51]⟩)]) = [(⟨#[97]⟩, ⟨#[50]⟩), (⟨#[98]⟩, ⟨#[51]⟩)] := by kernel_rfl
end Go.Proofs.YtfhephcbjbdejaaGreatDoor.At

/- The chapter's awake returns true. -/
namespace Go.Proofs.YtfhephcbjbdejaaGreatDoor.At
open Go.RowKit Go.Sort Go.Lib Go.Shelf Fx Lx

theorem atr_lit {w : World} {g : Nat} {L : List Atr} {T : TypeId} (h : w.heap[g]? = some (.cells (atrsC L).toArray T (0, 0))) : AtrIn w (some ⟨g, 0, none⟩) L := fun k hk => by
  have hat := atrsC_at L k hk
  refine ⟨g, 0, rfl, ?_, ?_⟩
  · rw [Nat.zero_add]; exact two_cells h _ _ (by simpa using hat.1)
  · rw [Nat.zero_add]; exact two_cells h _ _ (by simpa using hat.2)
theorem prt_lit {w : World} {g : Nat} {L : List Prt} {T : TypeId} (h : w.heap[g]? = some (.cells (prtsC L).toArray T (0, 0))) : PrtIn w (some ⟨g, 0, none⟩) L := fun k hk => by
  have hat := prtsC_at L k hk
  refine ⟨g, 0, rfl, ?_, ?_⟩
  · rw [Nat.zero_add]; exact two_cells h _ _ (by simpa using hat.1)
  · rw [Nat.zero_add]; exact two_cells h _ _ (by simpa using hat.2)
theorem atr_new (w : World) (L : List Atr) (T : TypeId) : AtrIn (w.alloc (.cells (atrsC L).toArray T)) (some ⟨w.heap.size, 0, none⟩) L := atr_lit (World.alloc_heap_new _ _)
theorem prt_new (w : World) (L : List Prt) (T : TypeId) : PrtIn (w.alloc (.cells (prtsC L).toArray T)) (some ⟨w.heap.size, 0, none⟩) L := prt_lit (World.alloc_heap_new _ _)
def awA : List Atr := [(⟨#[98]⟩, ⟨#[49]⟩), (⟨#[97]⟩, ⟨#[50]⟩)]
def awB : List Atr := [(⟨#[98]⟩, ⟨#[51]⟩)]
def awC : List Atr := [(⟨#[97]⟩, ⟨#[50]⟩), (⟨#[98]⟩, ⟨#[51]⟩)]
def awP : List Prt := [(⟨#[105, 110]⟩, 0), (⟨#[111, 117, 116]⟩, 2)]
def awW : List Atr := [(⟨#[119, 101, 105, 103, 104, 116]⟩, ⟨#[51]⟩)]
theorem awM (w : World) : Calls Tryz.prog 14 #[.slice (some ⟨w.heap.size, 0, none⟩) 2 2, .slice (some ⟨w.heap.size + 1, 0, none⟩) 1 1]
    ((w.alloc (.cells #[.string ⟨#[98]⟩, .string ⟨#[49]⟩, .string ⟨#[97]⟩, .string ⟨#[50]⟩] 39)).alloc (.cells #[.string ⟨#[98]⟩, .string ⟨#[51]⟩] 39)) fun e w' =>
      AtrRes awC e w' ∧ Ext ((w.alloc (.cells #[.string ⟨#[98]⟩, .string ⟨#[49]⟩, .string ⟨#[97]⟩, .string ⟨#[50]⟩] 39)).alloc (.cells #[.string ⟨#[98]⟩, .string ⟨#[51]⟩] 39)) w' := by
  have ha := (atr_new w awA 39).ext ((Ext.refl _).alloc (.cells (atrsC awB).toArray 39))
  have hb := atr_new (w.alloc (.cells (atrsC awA).toArray 39)) awB 39
  rw [World.size_alloc] at hb
  have h := mrg_any _ _ awA awB 2 1 _ ha hb (fun e => by cases e) (fun e => by cases e) (by decide) (by decide) (fun q hq => by
    have : q ∈ [((⟨#[98]⟩ : ByteArray), (⟨#[49]⟩ : ByteArray)), (⟨#[97]⟩, ⟨#[50]⟩), (⟨#[98]⟩, ⟨#[51]⟩)] := hq
    simp only [List.mem_cons, List.not_mem_nil, or_false] at this
    unfold maxLen
    rcases this with rfl | rfl | rfl <;> decide)
  rw [show mrgT (awA ++ awB) = awC from aw9] at h
  exact h
theorem awN (w : World) (he : Env w) : Calls Tryz.prog 16 #[.int .i64 2, .slice (some ⟨w.heap.size, 0, none⟩) 1 1, .string ⟨#[119, 101, 105, 103, 104, 116]⟩]
    (w.alloc (.cells #[.string ⟨#[119, 101, 105, 103, 104, 116]⟩, .string ⟨#[51]⟩] 39)) fun e w' => e = .returned (.int .i64 3) ∧ Ext (w.alloc (.cells #[.string ⟨#[119, 101, 105, 103, 104, 116]⟩, .string ⟨#[51]⟩] 39)) w' := by
  have ha := atr_new w awW 39
  have h := num_any 2 _ awW 1 ⟨#[119, 101, 105, 103, 104, 116]⟩ _ ha (by decide) (fun q hq => by
    have : q ∈ [((⟨#[119, 101, 105, 103, 104, 116]⟩ : ByteArray), (⟨#[51]⟩ : ByteArray))] := hq
    simp only [List.mem_cons, List.not_mem_nil, or_false] at this
    subst this; decide) (by unfold maxLen; decide) (he.ext ((Ext.refl _).alloc _))
  rw [show numT (ruleT 2 (⟨#[119, 101, 105, 103, 104, 116]⟩ : ByteArray).data.toList) (getT awW ⟨#[119, 101, 105, 103, 104, 116]⟩) = 3 from aw8] at h
  exact h
theorem awN0 (w : World) (he : Env w) : Calls Tryz.prog 16 #[.int .i64 1, .slice none 0 0, .string ⟨#[119, 105, 100, 116, 104]⟩] w fun e w' => e = .returned (.int .i64 20000) ∧ Ext w w' := by
  have h := num_any 1 none [] 0 ⟨#[119, 105, 100, 116, 104]⟩ w (fun k hk => absurd hk (by simp)) (by simp) (fun q hq => by cases hq) (by unfold maxLen; decide) he
  rw [aw7] at h
  exact h
theorem awEq (w : World) (p : Option Addr) (c : Nat) (h : PrtIn w p awP) : Calls Tryz.prog 20 #[.slice p 2 c, .slice (some ⟨w.heap.size, 0, none⟩) 2 2]
    (w.alloc (.cells #[.string ⟨#[105, 110]⟩, .int .i64 0, .string ⟨#[111, 117, 116]⟩, .int .i64 2] 49)) fun e w' => e = .returned (.bool true) ∧ Ext (w.alloc (.cells #[.string ⟨#[105, 110]⟩, .int .i64 0, .string ⟨#[111, 117, 116]⟩, .int .i64 2] 49)) w' := by
  have hb := prt_new w awP 49
  have h := portsEq_any p _ awP awP c 2 _ (h.ext ((Ext.refl _).alloc _)) hb (by decide) (by decide)
  rw [decide_eq_true rfl] at h
  exact h
theorem awSame (w : World) (p : Option Addr) (c : Nat) (h : AtrIn w p awC) : Calls Tryz.prog 13 #[.slice p 2 c, .slice (some ⟨w.heap.size, 0, none⟩) 2 2]
    (w.alloc (.cells #[.string ⟨#[97]⟩, .string ⟨#[50]⟩, .string ⟨#[98]⟩, .string ⟨#[51]⟩] 39)) fun e w' => e = .returned (.bool true) ∧ Ext (w.alloc (.cells #[.string ⟨#[97]⟩, .string ⟨#[50]⟩, .string ⟨#[98]⟩, .string ⟨#[51]⟩] 39)) w' := by
  have hb := atr_new w awC 39
  have h := sameEq_any p _ awC awC c 2 _ (h.ext ((Ext.refl _).alloc _)) hb (by decide) (by decide)
  rw [decide_eq_true rfl] at h
  exact h
theorem awP1 (w : World) (he : Env w) : Calls Tryz.prog 18 #[.string ⟨#[105, 110, 32, 116, 111, 112, 44, 32, 111, 117, 116, 32, 98, 111, 116, 116, 111, 109]⟩] w fun e w' => (∃ p c, e = .returned (.tuple #[.slice p 2 c, .int .i64 0]) ∧ PrtIn w' p awP) ∧ Ext w w' := by
  have h := ports_any ⟨#[105, 110, 32, 116, 111, 112, 44, 32, 111, 117, 116, 32, 98, 111, 116, 116, 111, 109]⟩ w (by decide) he
  rw [aw1] at h
  refine h.mono ?_
  rintro e w' ⟨⟨v, rfl, ho⟩, x⟩
  obtain ⟨p, c, rfl, hi⟩ := own_prts ho
  exact ⟨⟨p, c, rfl, hi⟩, x⟩
theorem awP2 (w : World) (he : Env w) : Calls Tryz.prog 18 #[.string ⟨#[97, 32, 117, 112]⟩] w fun e w' => (∃ v, e = .returned (.tuple #[v, .int .i64 4])) ∧ Ext w w' := by
  have h := ports_any ⟨#[97, 32, 117, 112]⟩ w (by decide) he
  rw [aw2] at h
  refine h.mono ?_
  rintro e w' ⟨⟨v, rfl, _⟩, x⟩
  exact ⟨⟨v, rfl⟩, x⟩
theorem awP3 (w : World) (he : Env w) : Calls Tryz.prog 18 #[.string ⟨#[97, 32, 116, 111, 112, 44, 32, 97, 32, 108, 101, 102, 116]⟩] w fun e w' => (∃ v, e = .returned (.tuple #[v, .int .i64 6])) ∧ Ext w w' := by
  have h := ports_any ⟨#[97, 32, 116, 111, 112, 44, 32, 97, 32, 108, 101, 102, 116]⟩ w (by decide) he
  rw [aw3] at h
  refine h.mono ?_
  rintro e w' ⟨⟨v, rfl, _⟩, x⟩
  exact ⟨⟨v, rfl⟩, x⟩
theorem awC1 (w : World) (he : Env w) : Calls Tryz.prog 22 #[.int .i64 1, .agg #[.string ⟨#[119, 105, 100, 116, 104]⟩, .string ⟨#[49, 50, 46, 53]⟩]] w fun e w' => e = .returned (.int .i64 0) ∧ Ext w w' := by
  have h := check_any 1 ⟨#[119, 105, 100, 116, 104]⟩ ⟨#[49, 50, 46, 53]⟩ w (by unfold maxLen; decide) (by decide) he
  rw [aw4] at h; exact h
theorem awC2 (w : World) (he : Env w) : Calls Tryz.prog 22 #[.int .i64 1, .agg #[.string ⟨#[119, 105, 100, 116, 104]⟩, .string ⟨#[48]⟩]] w fun e w' => e = .returned (.int .i64 7) ∧ Ext w w' := by
  have h := check_any 1 ⟨#[119, 105, 100, 116, 104]⟩ ⟨#[48]⟩ w (by unfold maxLen; decide) (by decide) he
  rw [aw5] at h; exact h
theorem awC3 (w : World) (he : Env w) : Calls Tryz.prog 22 #[.int .i64 3, .agg #[.string ⟨#[119, 105, 100, 116, 104]⟩, .string ⟨#[49]⟩]] w fun e w' => e = .returned (.int .i64 1) ∧ Ext w w' := by
  have h := check_any 3 ⟨#[119, 105, 100, 116, 104]⟩ ⟨#[49]⟩ w (by unfold maxLen; decide) (by decide) he
  rw [aw6] at h; exact h
set_option maxHeartbeats 4000000 in
set_option maxRecDepth 100000 in
theorem awake_any (w : World) (he : Env w) : Calls Tryz.prog 10 #[] w fun e w' => e = .returned (.bool true) ∧ Ext w w' := by
  have HE := Lib.hid he
  clear he
  go_enter Tryz.func10, Tryz.ntmps10
  go_wp2_with fail
  refine (awP1 _ HE.out).mono ?_
  rintro e w1 ⟨⟨p, c, rfl, hp⟩, x1⟩
  have HP := Lib.hid hp
  have X1 := Lib.hid x1
  clear hp x1
  go_wp2_with fail
  refine (awP2 _ (HE.out.ext X1.out)).mono ?_
  rintro e w2 ⟨⟨v2, rfl⟩, x2⟩
  have X2 := Lib.hid (X1.out.trans x2)
  have HP2 := Lib.hid (HP.out.ext x2)
  clear x2 HP X1
  go_wp2_with fail
  refine (awP3 _ (HE.out.ext X2.out)).mono ?_
  rintro e w3 ⟨⟨v3, rfl⟩, x3⟩
  have X3 := Lib.hid (X2.out.trans x3)
  have HP3 := Lib.hid (HP2.out.ext x3)
  clear x3 HP2 X2
  go_wp2_with fail
  refine (awM _).mono ?_
  rintro e w4 ⟨⟨p4, c4, rfl, hi4, _⟩, x4⟩
  have X4 := Lib.hid (((X3.out.alloc _).alloc _).trans x4)
  have HP4 := Lib.hid (HP3.out.ext ((((Ext.refl _).alloc _).alloc _).trans x4))
  have HI4 := Lib.hid hi4
  clear x4 HP3 X3 hi4
  go_wp2_with fail
  refine (awC1 _ (HE.out.ext X4.out)).mono ?_
  rintro e w5 ⟨rfl, x5⟩
  have X5 := Lib.hid (X4.out.trans x5)
  have HP5 := Lib.hid (HP4.out.ext x5)
  have HI5 := Lib.hid (HI4.out.ext x5)
  clear x5 HP4 X4 HI4
  go_wp2_with fail
  refine (awC2 _ (HE.out.ext X5.out)).mono ?_
  rintro e w6 ⟨rfl, x6⟩
  have X6 := Lib.hid (X5.out.trans x6)
  have HP6 := Lib.hid (HP5.out.ext x6)
  have HI6 := Lib.hid (HI5.out.ext x6)
  clear x6 HP5 X5 HI5
  go_wp2_with fail
  refine (awC3 _ (HE.out.ext X6.out)).mono ?_
  rintro e w7 ⟨rfl, x7⟩
  have X7 := Lib.hid (X6.out.trans x7)
  have HP7 := Lib.hid (HP6.out.ext x7)
  have HI7 := Lib.hid (HI6.out.ext x7)
  clear x7 HP6 X6 HI6
  go_wp2_with fail
  refine (awN0 _ (HE.out.ext X7.out)).mono ?_
  rintro e w8 ⟨rfl, x8⟩
  have X8 := Lib.hid (X7.out.trans x8)
  have HP8 := Lib.hid (HP7.out.ext x8)
  have HI8 := Lib.hid (HI7.out.ext x8)
  clear x8 HP7 X7 HI7
  go_wp2_with fail
  refine (awN _ (HE.out.ext X8.out)).mono ?_
  rintro e w9 ⟨rfl, x9⟩
  have X9 := Lib.hid ((X8.out.alloc _).trans x9)
  have HP9 := Lib.hid (HP8.out.ext (((Ext.refl _).alloc _).trans x9))
  have HI9 := Lib.hid (HI8.out.ext (((Ext.refl _).alloc _).trans x9))
  clear x9 HP8 X8 HI8
  go_wp2_with fail
  refine (awEq _ _ _ HP9.out).mono ?_
  rintro e w10 ⟨rfl, x10⟩
  have X10 := Lib.hid ((X9.out.alloc _).trans x10)
  have HI10 := Lib.hid (HI9.out.ext (((Ext.refl _).alloc _).trans x10))
  clear x10 HP9 X9 HI9
  go_wp2_with fail
  refine (awSame _ _ _ HI10.out).mono ?_
  rintro e w11 ⟨rfl, x11⟩
  have X11 := Lib.hid ((X10.out.alloc _).trans x11)
  clear x11 X10 HI10
  go_wp2_with fail
  go_returns
  exact ⟨rfl, X11.out⟩
end Go.Proofs.YtfhephcbjbdejaaGreatDoor.At

/- An argument that is a list of attributes, opened; the reach of its texts. -/
namespace Go.Proofs.YtfhephcbjbdejaaGreatDoor.At
open Go.RowKit Go.Lib Fx Lx Go.ChangeShapes Go.WideShapes Go.Deep

theorem cS9 : Tryz.prog.cellsOf 9 = 1 := by kernel_rfl
theorem cA39 : Tryz.prog.cellsOf 39 = 2 := by kernel_rfl
theorem add_off2 (g o k j : Nat) : ((⟨g, o, none⟩ : Addr).add (k * 2)).add j = ⟨g, o + k * 2 + j, none⟩ := by
  simp only [Addr.add]
  by_cases h1 : k * 2 = 0
  · rw [h1]; by_cases h2 : j = 0 <;> simp [h2]
  · by_cases h2 : j = 0 <;> simp [h1, h2]
set_option maxRecDepth 100000 in
theorem open_atr {H : Type} {enc : TypeId × Value → H} {W : World} {base : Nat} {sp : Nat → Bool} {held : Bool} {n : Nat} {cs : List Value} {x : DataW H × List MemPlace}
    (h : DataW.trod enc Tryz.prog W base sp held n 39 cs = some x) : ∃ (k v : ByteArray), cs = [.string k, .string v] ∧ x.1 = .agg [.lit (.string k.data.toList), .lit (.string v.data.toList)] := by
  obtain ⟨xs, n', _, rfl, hlen, hxl, hg⟩ := DataW.trod_struct Tryz.underlying39 h
  rw [cA39] at hlen
  have hxl2 : xs.length = 2 := hxl
  clear hxl
  match cs, hlen with
  | [a, b], _ =>
    obtain ⟨y0, y1, rfl⟩ : ∃ y0 y1, xs = [y0, y1] := by
      match xs, hxl2 with
      | [y0, y1], _ => exact ⟨y0, y1, rfl⟩
    have h0 : DataW.trod enc Tryz.prog W base sp held n' 9 [a] = some y0 := by simpa [cS9] using hg 0 _ rfl
    have h1 : DataW.trod enc Tryz.prog W base sp held n' 9 [b] = some y1 := by simpa [cS9] using hg 1 _ rfl
    obtain ⟨k, e0, r0, _⟩ := DataW.trod_string Tryz.underlying9 h0
    obtain ⟨v, e1, r1, _⟩ := DataW.trod_string Tryz.underlying9 h1
    simp only [List.cons.injEq, and_true] at e0 e1
    subst e0; subst e1; subst r0; subst r1
    exact ⟨k, v, rfl, rfl⟩
theorem weightsAll_of {H : Type} {P : Program} {e : TypeId} : ∀ {l : List (DataW H)} {d : DataW H}, d ∈ l → ∀ n ∈ d.weights P e, n ∈ DataW.weightsAll P e l
  | x :: r, d, hd, n, hn => by
    rw [DataW.weightsAll, List.mem_append]
    rcases List.mem_cons.1 hd with rfl | hd
    · exact .inl hn
    · exact .inr (weightsAll_of hd n hn)
/-- The greatest size that the form reaches. -/
def reachN : Nat := 140737488351232
set_option maxRecDepth 100000 in
theorem open_atrs {H : Type} {enc : TypeId × Value → H} {W : World} {base : Nat} {sp : Nat → Bool} {held : Bool} {fuel : Nat} {cs : List Value} {x : DataW H × List MemPlace}
    (h : DataW.trod enc Tryz.prog W base sp held fuel 22 cs = some x) (hz : ∀ m ∈ x.1.weights Tryz.prog 22, m ≤ reachN) :
    ∃ (a : Option Addr) (L : List Atr) (cap : Nat), cs = [.slice a L.length cap] ∧ AtrIn W a L ∧ (∀ q ∈ L, q.1.size ≤ reachN ∧ q.2.size ≤ reachN) ∧ L.length ≤ cap ∧ cap ≤ maxLen ∧ (a = none → cap = 0) := by
  rcases open_slice Tryz.underlying22 h with ⟨rfl, _⟩ | ⟨a, len, cap, m, n, D, Pl, rfl, _, hl, hm, hmm, hxx, hx⟩
  · exact ⟨none, [], 0, rfl, (fun k h => absurd h (Nat.not_lt_zero _)), (fun t ht => by cases ht), Nat.le_refl _, Nat.zero_le _, fun _ => rfl⟩
  · have hlm : len ≤ m := by rw [hmm]; split <;> omega
    rw [cA39] at hx
    have hw : ∀ i, i < len → ∀ z ∈ (D i).weights Tryz.prog 39, z ≤ reachN := fun i hi z hz2 => by
      refine hz z ?_
      rw [hxx]
      have hu : Tryz.prog.underlying 22 = some (.slice 39) := Tryz.underlying22
      rw [DataW.weights]
      simp only [hu, List.mem_cons, List.mem_append]
      exact .inr (.inl (weightsAll_of (List.mem_map.2 ⟨i, List.mem_range.2 hi, rfl⟩) z hz2))
    have hone : ∀ i, i < len → ∃ t : Atr, (t.1.size ≤ reachN ∧ t.2.size ≤ reachN) ∧ ∃ g o, a = ⟨g, o, none⟩ ∧ W.cell? ⟨g, o + i * 2, none⟩ = some (.string t.1) ∧ W.cell? ⟨g, o + i * 2 + 1, none⟩ = some (.string t.2) := fun i hi => by
      obtain ⟨cs', h1, h2⟩ := hx i (by omega)
      obtain ⟨k, v, rfl, hd⟩ := open_atr h2
      obtain ⟨_, _, hc⟩ := World.cells?_some h1
      have c0 := hc 0 (by omega); have c1 := hc 1 (by omega)
      obtain ⟨g, o, spot⟩ := a
      have hspot : spot = none := by
        obtain ⟨cs0, q1, q2⟩ := hx 0 (by omega)
        obtain ⟨k0, v0, rfl, _⟩ := open_atr q2
        obtain ⟨_, _, hc0⟩ := World.cells?_some q1
        have h := World.cell?_spot (show W.cell? _ = some (.string k0) from hc0 0 (by omega))
        simpa [Addr.add] using h
      subst hspot
      rw [add_off2] at c0 c1
      have hws := hw i hi
      have hd' : D i = .agg [.lit (.string k.data.toList), .lit (.string v.data.toList)] := hd
      rw [hd'] at hws
      have hus : ∃ fs, Tryz.prog.underlying 39 = some (.struct fs) ∧ fs.toList.map (·.type) = [9, 9] := ⟨_, Tryz.underlying39, rfl⟩
      obtain ⟨fs, hu, hfs⟩ := hus
      rw [DataW.weights] at hws
      simp only [hu, hfs, DataW.weightsEach, DataW.weights, List.append_nil, List.mem_append, List.mem_singleton] at hws
      have s1 := hws _ (.inl rfl)
      have s2 := hws _ (.inr rfl)
      rw [← size_len] at s1 s2
      exact ⟨⟨k, v⟩, ⟨s1, s2⟩, g, o, rfl, c0, c1⟩
    obtain ⟨F, hF⟩ := choose_lt (α := Atr) hone
    refine ⟨some a, (List.range len).map F, cap, by simp, ?_, ?_, by simp; omega, hm, fun e => by cases e⟩
    · intro k hk
      have hk' : k < len := by simpa using hk
      obtain ⟨_, g, o, rfl, r⟩ := hF k hk'
      exact ⟨g, o, rfl, by simpa using r⟩
    · intro t ht
      obtain ⟨i, hi, rfl⟩ := List.mem_map.1 ht
      exact (hF i (List.mem_range.1 hi)).1
/-- What the walks take of an argument that is a list of attributes. -/
def AtrsArg (w : World) (v : Value) : Prop := ∃ a L cap, v = .slice a (List.length L) cap ∧ AtrIn w a L ∧ (∀ q ∈ L, q.1.size ≤ reachN ∧ q.2.size ≤ reachN) ∧ L.length ≤ cap ∧ cap ≤ maxLen ∧ (a = none → cap = 0)
set_option maxRecDepth 100000 in
theorem atrs_arg {H : Type} {enc : TypeId × Value → H} {W : World} {r : Reach} {b base : Nat} {sp : Nat → Bool} {held : Bool} {v : Value} {d : DataW H} {p : List MemPlace}
    (hv : Value.okWide Tryz.prog W r b 22 v) (h : DataW.Trod enc Tryz.prog W base sp held 22 v d p) (hz : ∀ m ∈ d.weights Tryz.prog 22, m ≤ reachBytes) : AtrsArg W v := by
  obtain ⟨a0, len, cap, rfl⟩ := okWide_slice Tryz.underlying22 hv
  obtain ⟨fuel, hf⟩ := h
  obtain ⟨a, L, c, hc, r⟩ := open_atrs hf hz
  have e : Value.slice a0 len cap = .slice a L.length c := by simpa [Value.cells] using hc
  exact ⟨a, L, c, e, r⟩
end Go.Proofs.YtfhephcbjbdejaaGreatDoor.At

/- The laws of the chapter, walked. -/
namespace Go.Proofs.YtfhephcbjbdejaaGreatDoor.At
open Go.RowKit Go.Sort Go.Lib Go.Shelf Fx Lx

theorem few_facts {L : List Atr} (h : fewB L = true) : L.length ≤ 60 ∧ ∀ q ∈ L, q.1.size ≤ 300 ∧ q.2.size ≤ 300 := by
  unfold fewB at h
  rw [Bool.and_eq_true, decide_eq_true_eq, List.all_eq_true] at h
  refine ⟨h.1, fun q hq => ?_⟩
  have := of_decide_eq_true (h.2 q hq)
  omega
theorem few_arg (a : Option Addr) (L : List Atr) (cap : Nat) (w : World) (h : AtrIn w a L) (hs : ∀ q ∈ L, q.1.size ≤ reachN ∧ q.2.size ≤ reachN) (h1 : L.length ≤ cap) (h2 : cap ≤ maxLen) :
    Calls Tryz.prog 9 #[.slice a L.length cap] w fun e w' => e = .returned (.bool (fewB L)) ∧ Ext w w' := by
  unfold maxLen at h2
  refine few_any a L cap w h (by omega) (fun q hq => ?_)
  have := hs q hq
  unfold reachN at this
  omega
set_option maxHeartbeats 1000000 in
set_option maxRecDepth 100000 in
theorem ports_card (s : ByteArray) (w : World) (hs : s.size ≤ maxLen) (he : Env w) :
    Calls Tryz.prog 5 #[.string s] w fun e w' => e = .returned (.bool true) ∧ Ext w w' := by
  unfold maxLen at hs
  have HE := Lib.hid he
  by_cases h300 : 300 < s.size
  · clear he
    go_enter Tryz.func5, Tryz.ntmps5
    go_wp2_with fail
    refine (awake_any _ HE.out).mono ?_
    rintro e w1 ⟨rfl, x1⟩
    go_wp2_with fail
    go_returns
    exact ⟨rfl, x1⟩
  · have hp := ports_any s w (by omega) he
    have hr := fun w => portsR_any s w (by omega)
    have hlen : (portsV s).1.length ≤ 1000 := by
      unfold portsV
      by_cases c : s.size = 0
      · rw [if_pos c]; simp
      · rw [if_neg c]; have := portsGo_len (parts s) [] (by simp); omega
    obtain ⟨PL, c, hpv⟩ : ∃ PL c, portsV s = (PL, c) := ⟨_, _, rfl⟩
    rw [hpv] at hp hr hlen
    dsimp only at hlen
    have HP := Lib.hid hp
    have HR := Lib.hid hr
    clear he hp hr hpv
    go_enter Tryz.func5, Tryz.ntmps5
    go_wp2_with fail
    refine HP.out.mono ?_
    rintro e w1 ⟨⟨v1, rfl, ho1⟩, x1⟩
    obtain ⟨p1, c1, rfl, hi1⟩ := own_prts ho1
    have HI1 := Lib.hid hi1
    clear ho1 hi1
    dsimp only
    go_wp2_with fail
    refine (HR.out _).mono ?_
    rintro e w2 ⟨⟨v2, rfl, ho2⟩, x2⟩
    obtain ⟨p2, c2, rfl, hi2⟩ := own_prts ho2
    have HI2 := Lib.hid hi2
    clear ho2 hi2
    dsimp only
    go_wp2_with fail
    have hq := portsEq_any p1 p2 PL PL c1 c2 w2 (HI1.out.ext x2) HI2.out (by omega) (by omega)
    rw [decide_eq_true rfl] at hq
    refine hq.mono ?_
    rintro e w3 ⟨rfl, x3⟩
    clear hq
    go_wp2_with fail
    refine (awake_any _ (HE.out.ext ((x1.trans x2).trans x3))).mono ?_
    rintro e w4 ⟨rfl, x4⟩
    go_wp2_with fail
    go_returns
    exact ⟨rfl, ((x1.trans x2).trans x3).trans x4⟩
set_option maxHeartbeats 1000000 in
set_option maxRecDepth 100000 in
theorem numbers_card (kind : Int) (v : Value) (x : ByteArray) (w : World) (_ : (Lit.int .i64 kind).wf = true) (hv : AtrsArg w v) (hx : x.size ≤ maxLen) (he : Env w) :
    Calls Tryz.prog 4 #[.int .i64 kind, v, .string x] w fun e w' => e = .returned (.bool true) ∧ Ext w w' := by
  obtain ⟨a, L, cap, rfl, h, hs, h1, h2, _⟩ := hv
  have hf := few_arg a L cap w h hs h1 h2
  have HE := Lib.hid he
  cases hfb : fewB L
  · rw [hfb] at hf
    have HF := Lib.hid hf
    clear hf hfb h hs h1 h2 hx he
    generalize L.length = N at *
    go_enter Tryz.func4, Tryz.ntmps4
    go_wp2_with fail
    refine HF.out.mono ?_
    rintro e w1 ⟨rfl, x1⟩
    go_wp2_with fail
    refine (awake_any _ (HE.out.ext x1)).mono ?_
    rintro e w2 ⟨rfl, x2⟩
    go_wp2_with fail
    go_returns
    exact ⟨rfl, x1.trans x2⟩
  · rw [hfb] at hf
    obtain ⟨hl, hq⟩ := few_facts hfb
    have HF := Lib.hid hf
    have HI := Lib.hid h
    have hn := fun w' (y : Ext w w') => num_any kind a L cap x w' (h.ext y) (by omega) (fun q hh => by have := hq q hh; omega) hx (he.ext y)
    have hr := fun w' (y : Ext w w') => numR_any kind a L cap x w' (h.ext y) (by omega) (fun q hh => by have := hq q hh; omega)
    rw [num_same] at hn
    generalize numRT (knownT kind x.data.toList) (getT L x) = V at hn hr
    have HNM := Lib.hid hn
    have HRN := Lib.hid hr
    clear hf hfb h hs h1 h2 hx he hl hq hn hr HI
    generalize L.length = N at *
    go_enter Tryz.func4, Tryz.ntmps4
    go_wp2_with fail
    refine HF.out.mono ?_
    rintro e w1 ⟨rfl, x1⟩
    go_wp2_with fail
    refine (HNM.out _ x1).mono ?_
    rintro e w2 ⟨rfl, x2⟩
    have y2 := x1.trans x2
    go_wp2_with fail
    refine (HRN.out _ y2).mono ?_
    rintro e w3 ⟨rfl, x3⟩
    have y3 := y2.trans x3
    go_wp2_with fail
    refine (awake_any _ (HE.out.ext y3)).mono ?_
    rintro e w4 ⟨rfl, x4⟩
    go_wp2_with fail
    go_returns
    exact ⟨rfl, y3.trans x4⟩
set_option maxHeartbeats 1000000 in
set_option maxRecDepth 100000 in
theorem merges_card (v u : Value) (x : ByteArray) (w : World) (hv : AtrsArg w v) (hu : AtrsArg w u) (_hx : x.size ≤ maxLen) (he : Env w) :
    Calls Tryz.prog 3 #[v, u, .string x] w fun e w' => e = .returned (.bool true) ∧ Ext w w' := by
  obtain ⟨a, La, ca, rfl, ha, hsa, ha1, ha2, na⟩ := hv
  obtain ⟨b, Lb, cb, rfl, hb, hsb, hb1, hb2, nb⟩ := hu
  have hfa := few_arg a La ca w ha hsa ha1 ha2
  have hfb := fun w' (y : Ext w w') => few_arg b Lb cb w' (hb.ext y) hsb hb1 hb2
  have HE := Lib.hid he
  cases h1 : fewB La
  · rw [h1] at hfa
    have HF := Lib.hid hfa
    clear hfa hfb ha hb hsa hsb ha1 ha2 hb1 hb2 na nb h1 he _hx
    generalize La.length = A at *
    generalize Lb.length = B at *
    go_enter Tryz.func3, Tryz.ntmps3
    go_wp2_with fail
    refine HF.out.mono ?_
    rintro e w1 ⟨rfl, x1⟩
    go_wp2_with fail
    refine (awake_any _ (HE.out.ext x1)).mono ?_
    rintro e w2 ⟨rfl, x2⟩
    go_wp2_with fail
    go_returns
    exact ⟨rfl, x1.trans x2⟩
  · rw [h1] at hfa
    cases h2 : fewB Lb
    · rw [h2] at hfb
      have HF := Lib.hid hfa
      have HG := Lib.hid hfb
      clear hfa hfb ha hb hsa hsb ha1 ha2 hb1 hb2 na nb h1 h2 he _hx
      generalize La.length = A at *
      generalize Lb.length = B at *
      go_enter Tryz.func3, Tryz.ntmps3
      go_wp2_with fail
      refine HF.out.mono ?_
      rintro e w1 ⟨rfl, x1⟩
      go_wp2_with fail
      refine (HG.out _ x1).mono ?_
      rintro e w2 ⟨rfl, x2⟩
      have y2 := x1.trans x2
      go_wp2_with fail
      refine (awake_any _ (HE.out.ext y2)).mono ?_
      rintro e w3 ⟨rfl, x3⟩
      go_wp2_with fail
      go_returns
      exact ⟨rfl, y2.trans x3⟩
    · rw [h2] at hfb
      obtain ⟨hla, hqa⟩ := few_facts h1
      obtain ⟨hlb, hqb⟩ := few_facts h2
      have hge := fun w' (y : Ext w w') => get_any b Lb cb x w' (hb.ext y) (by omega)
      have hgr := fun w' (y : Ext w w') => getR_any b Lb cb x w' (hb.ext y) (by omega)
      have hmg := fun w' (y : Ext w w') => mrg_any a b La Lb ca cb w' (ha.ext y) (hb.ext y) na nb (by omega) (by omega) (fun q hq => by
        unfold maxLen
        rcases List.mem_append.1 hq with h | h
        · have := hqa q h; omega
        · have := hqb q h; omega)
      have hmr := fun w' (y : Ext w w') => mrgR_any a b La Lb ca cb w' (ha.ext y) (hb.ext y) (by omega) (by omega)
      have hml := mrgT_len (La ++ Lb)
      rw [List.length_append] at hml
      obtain ⟨s, is, hG⟩ : ∃ s is, getT Lb x = (s, is) := ⟨_, _, rfl⟩
      rw [hG] at hge hgr
      dsimp only at hge hgr
      obtain ⟨M, hM⟩ : ∃ M, M = mrgT (La ++ Lb) := ⟨_, rfl⟩
      rw [← hM] at hmg hmr hml
      have hMl : M.length ≤ 1000 := by omega
      have HF := Lib.hid hfa
      have HG := Lib.hid hfb
      have HGE := Lib.hid hge; have HGR := Lib.hid hgr; have HMG := Lib.hid hmg; have HMR := Lib.hid hmr
      clear hfa hfb ha hb hsa hsb ha1 ha2 hb1 hb2 na nb h1 h2 he _hx hge hgr hmg hmr hml hla hlb hqa hqb hM hG
      generalize La.length = A at *
      generalize Lb.length = B at *
      go_enter Tryz.func3, Tryz.ntmps3
      go_wp2_with fail
      refine HF.out.mono ?_
      rintro e w1 ⟨rfl, x1⟩
      go_wp2_with fail
      refine (HG.out _ x1).mono ?_
      rintro e w2 ⟨rfl, x2⟩
      have y2 := x1.trans x2
      go_wp2_with fail
      refine (HGE.out _ y2).mono ?_
      rintro e w3 ⟨rfl, x3⟩
      have y3 := y2.trans x3
      go_wp2_with fail
      refine (HGR.out _ y3).mono ?_
      rintro e w3' ⟨rfl, rfl⟩
      go_wp2_with fail
      refine (HMG.out _ y3).mono ?_
      rintro e w4 ⟨⟨p, pc, rfl, hi, _⟩, x4⟩
      have y4 := y3.trans x4
      have HI := Lib.hid hi
      clear hi
      go_wp2_with fail
      refine (HMR.out _ y4).mono ?_
      rintro e w5 ⟨⟨p', pc', rfl, hi', _⟩, x5⟩
      have y5 := y4.trans x5
      have HI' := Lib.hid hi'
      clear hi'
      go_wp2_with fail
      have hq := sameEq_any p p' M M pc pc' w5 (HI.out.ext x5) HI'.out (by omega) (by omega)
      rw [decide_eq_true rfl] at hq
      refine hq.mono ?_
      rintro e w6 ⟨rfl, x6⟩
      have y6 := y5.trans x6
      clear hq
      go_wp2_with fail
      refine (awake_any _ (HE.out.ext y6)).mono ?_
      rintro e w7 ⟨rfl, x7⟩
      go_wp2_with fail
      go_returns
      exact ⟨rfl, y6.trans x7⟩
end Go.Proofs.YtfhephcbjbdejaaGreatDoor.At
