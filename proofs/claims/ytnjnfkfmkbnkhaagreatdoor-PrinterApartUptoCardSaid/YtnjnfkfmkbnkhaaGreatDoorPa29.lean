/- Packed texts: TreAtt, TrePrA, TreAwk -/
import Derived.Test.YtnjnfkfmkbnkhaaGreatDoorPa28
import Derived.Test.YtnjnfkfmkbnkhaaGreatDoorPa27
set_option linter.unusedVariables false
set_option linter.unusedSimpArgs false
/- What both Attrs return. -/
namespace Go.Proofs.YtnjnfkfmkbnkhaaGreatDoor.Tr
open Go.RowKit Go.Sort Go.Lib Go.Shelf Fx Lx

def oneL (al : List Two) : List Stm := [.mk 1 ⟨#[97]⟩ [] al []]
def gN : ByteArray := ⟨#[103]⟩
/-- The text of attributes. -/
def attrsT (al : List Two) : List UInt8 := if al.isEmpty = true then [] else if validE gN (oneL al) = 0 then listedT al else []
theorem TwoAt.nil (n : Nat) (w : World) (a : Option Addr) : TwoAt n w a [] := fun k h => absurd h (Nat.not_lt_zero _)
/-- The statement laid by the literal. -/
theorem one_at (w : World) (a : Option Addr) (al : List Two) (ac : Nat) (h : TwoAt w.heap.size w a al) (hc : al.length ≤ ac) (hm : ac ≤ maxLen) :
    StmsAt (w.heap.size + 1) (w.alloc (.cells #[.int .i64 1, .string ⟨#[97]⟩, .slice none 0 0, .slice a al.length ac, .slice none 0 0] 47)) (some ⟨w.heap.size, 0, none⟩) (oneL al) := by
  obtain ⟨c0, c1, c2, c3, c4⟩ := stm_cells w 1 ⟨#[97]⟩ none a none 0 al.length 0 0 ac 0 _ (Ext.refl _)
  unfold oneL
  rw [stmsAt_cons]
  refine ⟨w.heap.size, 0, rfl, by omega, ?_, by rw [StmsAt]; trivial⟩
  rw [StmAt]
  refine ⟨none, 0, a, ac, none, 0, c0, c1, c2, c3, c4, TwoAt.nil _ _ _, ?_, by rw [StmsAt]; trivial, Nat.le_refl _, hc, Nat.zero_le _, hm, Nat.zero_le _⟩
  exact (h.below ((Below.refl _ _).alloc (Nat.le_refl _) _)).mono (by omega)
theorem oneL_size (al : List Two) : sizeL (oneL al) = 1 + sizeTwo al + 1 := by
  unfold oneL
  rw [sizeL_cons, sizeL_nil, sizeS]
  show ByteArray.size ⟨#[97]⟩ + sizeTwo [] + sizeTwo al + sizeL [] + 1 + 0 = _
  rw [sizeL_nil]
  show 1 + 0 + sizeTwo al + 0 + 1 + 0 = _
  omega
theorem sizeTwo_small : ∀ al : List Two, (∀ q ∈ al, q.1.size ≤ 100 ∧ q.2.size ≤ 100) → sizeTwo al ≤ 201 * al.length
  | [], _ => by simp [sizeTwo]
  | q :: r, h => by
    have h1 := h q (by simp)
    have h2 := sizeTwo_small r (fun x hx => h x (by simp [hx]))
    rw [sizeTwo, List.length_cons]; omega
set_option maxHeartbeats 4000000 in
set_option maxRecDepth 100000 in
theorem attrsP_any (a : Option Addr) (al : List Two) (ac : Nat) (w : World) (h : TwoAt w.heap.size w a al) (hc : al.length ≤ ac) (hm : ac ≤ maxLen) (he : Env w) (hl : al.length ≤ 20) (hs : ∀ q ∈ al, q.1.size ≤ 100 ∧ q.2.size ≤ 100) :
    Calls Tryz.prog 11 #[.slice a al.length ac] w fun e w' => e = .returned (.string (bs (attrsT al))) ∧ Ext w w' := by
  have hz := sizeTwo_small al hs
  have hsz : sizeL (oneL al) ≤ 1048576 := by rw [oneL_size]; omega
  have hx : Ext w ((w.alloc (.cells #[.int .i64 1, .string ⟨#[97]⟩, .slice none 0 0, .slice a al.length ac, .slice none 0 0] 47)).alloc (.cells #[.string ⟨#[103]⟩, .bool false, .slice (some ⟨w.heap.size, 0, none⟩) 1 1] 24)) := ((Ext.refl w).alloc _).alloc _
  have hone := one_at w a al ac h hc hm
  have hval := fun w' (x : Ext (w.alloc (.cells #[.int .i64 1, .string ⟨#[97]⟩, .slice none 0 0, .slice a al.length ac, .slice none 0 0] 47)) w') => valid_any gN false (some ⟨w.heap.size, 0, none⟩) (oneL al) 1 (w.heap.size + 1) w' (by have h := x.size; rw [World.size_alloc] at h; exact h) (StmsAt.below (Below.mono x (by rw [World.size_alloc]; exact Nat.le_refl _)) _ hone) hsz (by decide)
  have hcl := tree_cells (w.alloc (.cells #[.int .i64 1, .string ⟨#[97]⟩, .slice none 0 0, .slice a al.length ac, .slice none 0 0] 47)) ⟨#[103]⟩ false (some ⟨w.heap.size, 0, none⟩) 1 1 _ (Ext.refl _)
  rw [World.size_alloc] at hcl
  obtain ⟨m0, m1, m2⟩ := hcl
  have hli := fun w' (x : Ext w w') => listed_any a al ac w' (h.in.ext x) (by omega) (fun q hq => by have := hs q hq; omega) (by have := listedT_len al; omega) (he.ext x)
  have hx1 : Ext w (w.alloc (.cells #[.int .i64 1, .string ⟨#[97]⟩, .slice none 0 0, .slice a al.length ac, .slice none 0 0] 47)) := (Ext.refl w).alloc _
  have hT : attrsT al = if al.isEmpty = true then [] else if validE gN (oneL al) = 0 then listedT al else [] := rfl
  unfold gN at hval hT
  rw [show (oneL al).length = 1 from rfl] at hval
  generalize validE ⟨#[103]⟩ (oneL al) = V at *
  generalize hP : attrsT al = P at *
  generalize listedT al = Q at *
  have hx2 : Ext (w.alloc (.cells #[.int .i64 1, .string ⟨#[97]⟩, .slice none 0 0, .slice a al.length ac, .slice none 0 0] 47)) ((w.alloc (.cells #[.int .i64 1, .string ⟨#[97]⟩, .slice none 0 0, .slice a al.length ac, .slice none 0 0] 47)).alloc (.cells #[.string ⟨#[103]⟩, .bool false, .slice (some ⟨w.heap.size, 0, none⟩) 1 1] 24)) := (Ext.refl _).alloc _
  have HVAL := Lib.hid hval; have HLI := Lib.hid hli; have HX := Lib.hid hx; have HX2 := Lib.hid hx2
  clear hval hli hx hx1 hx2 hone hsz hz h hc hm he hl hs hP
  by_cases h0 : al = []
  · subst h0
    have hT2 : P = [] := by rw [hT]; rfl
    clear hT
    subst hT2
    go_enter Tryz.func11, Tryz.ntmps11
    go_wp2
    go_returns
    exact ⟨rfl, HX.out⟩
  · have f1 : ((al.length : Int) == 0) = false := by
      rw [beq_eq_false_iff_ne]; have := List.length_pos_iff.2 h0; omega
    rw [if_neg (by simpa using h0)] at hT
    generalize al.length = N at *
    by_cases hV : V = 0
    · rw [if_pos hV] at hT
      subst hV
      have HT := Lib.hid hT
      clear hT h0
      go_enter Tryz.func11, Tryz.ntmps11
      go_wp2_with (first | (go_at_call 21; refine (HVAL.out _ HX2.out).mono ?_; rintro e w1 ⟨rfl, x1⟩) | (go_at_call 25; refine (HLI.out _ (HX.out.trans x1)).mono ?_; rintro e w2 ⟨rfl, x2⟩))
      go_returns
      rw [HT.out]
      exact ⟨rfl, (HX.out.trans x1).trans x2⟩
    · rw [if_neg hV] at hT
      obtain ⟨f2, f2'⟩ := ne_facts hV
      have HT := Lib.hid hT
      clear hT h0 hV
      go_enter Tryz.func11, Tryz.ntmps11
      go_wp2_with (first | (go_at_call 21; refine (HVAL.out _ HX2.out).mono ?_; rintro e w1 ⟨rfl, x1⟩) | (go_at_call 25; refine (HLI.out _ (HX.out.trans x1)).mono ?_; rintro e w2 ⟨rfl, x2⟩))
      go_returns
      rw [HT.out]
      exact ⟨rfl, HX.out.trans x1⟩
set_option maxHeartbeats 4000000 in
set_option maxRecDepth 100000 in
theorem attrsD_any (a : Option Addr) (al : List Two) (ac : Nat) (w : World) (h : TwoAt w.heap.size w a al) (hc : al.length ≤ ac) (hm : ac ≤ maxLen) (hl : al.length ≤ 20) (hs : ∀ q ∈ al, q.1.size ≤ 100 ∧ q.2.size ≤ 100) :
    Calls Tryz.prog 12 #[.slice a al.length ac] w fun e w' => e = .returned (.string (bs (attrsT al))) ∧ Ext w w' := by
  have hz := sizeTwo_small al hs
  have hsz : sizeL (oneL al) ≤ 1048576 := by rw [oneL_size]; omega
  have hx : Ext w ((w.alloc (.cells #[.int .i64 1, .string ⟨#[97]⟩, .slice none 0 0, .slice a al.length ac, .slice none 0 0] 47)).alloc (.cells #[.string ⟨#[103]⟩, .bool false, .slice (some ⟨w.heap.size, 0, none⟩) 1 1] 24)) := ((Ext.refl w).alloc _).alloc _
  have hone := one_at w a al ac h hc hm
  have hval := fun w' (x : Ext (w.alloc (.cells #[.int .i64 1, .string ⟨#[97]⟩, .slice none 0 0, .slice a al.length ac, .slice none 0 0] 47)) w') => validR_any gN false (some ⟨w.heap.size, 0, none⟩) (oneL al) 1 (w.heap.size + 1) w' (by have h := x.size; rw [World.size_alloc] at h; exact h) (StmsAt.below (Below.mono x (by rw [World.size_alloc]; exact Nat.le_refl _)) _ hone) hsz (by decide)
  have hcl := tree_cells (w.alloc (.cells #[.int .i64 1, .string ⟨#[97]⟩, .slice none 0 0, .slice a al.length ac, .slice none 0 0] 47)) ⟨#[103]⟩ false (some ⟨w.heap.size, 0, none⟩) 1 1 _ (Ext.refl _)
  rw [World.size_alloc] at hcl
  obtain ⟨m0, m1, m2⟩ := hcl
  have hli := fun w' (x : Ext w w') => listR_any a al ac w' (h.in.ext x) (by omega) (fun q hq => by have := hs q hq; omega) (by have := listedT_len al; omega)
  have hT : attrsT al = if validE gN (oneL al) = 0 then listRT al else [] := by
    unfold attrsT listRT
    by_cases h0 : al.isEmpty = true
    · rw [if_pos h0, if_pos h0]; split <;> rfl
    · rw [if_neg h0, if_neg h0]
  unfold gN at hval hT
  rw [show (oneL al).length = 1 from rfl] at hval
  generalize validE ⟨#[103]⟩ (oneL al) = V at *
  generalize hP : attrsT al = P at *
  generalize listRT al = Q at *
  have hx2 : Ext (w.alloc (.cells #[.int .i64 1, .string ⟨#[97]⟩, .slice none 0 0, .slice a al.length ac, .slice none 0 0] 47)) ((w.alloc (.cells #[.int .i64 1, .string ⟨#[97]⟩, .slice none 0 0, .slice a al.length ac, .slice none 0 0] 47)).alloc (.cells #[.string ⟨#[103]⟩, .bool false, .slice (some ⟨w.heap.size, 0, none⟩) 1 1] 24)) := (Ext.refl _).alloc _
  have HVAL := Lib.hid hval; have HLI := Lib.hid hli; have HX := Lib.hid hx; have HX2 := Lib.hid hx2
  clear hval hli hx hx2 hone hsz hz h hc hm hl hs hP
  generalize al.length = N at *
  by_cases hV : V = 0
  · rw [if_pos hV] at hT
    subst hV
    have HT := Lib.hid hT
    clear hT
    go_enter Tryz.func12, Tryz.ntmps12
    go_wp2_with (first | (go_at_call 13; refine (HVAL.out _ HX2.out).mono ?_; rintro e w1 ⟨rfl, x1⟩) | (go_at_call 26; refine (HLI.out _ (HX.out.trans x1)).mono ?_; rintro e w2 ⟨rfl, x2⟩))
    go_returns
    rw [HT.out]
    exact ⟨rfl, (HX.out.trans x1).trans x2⟩
  · rw [if_neg hV] at hT
    obtain ⟨f2, f2'⟩ := ne_facts hV
    have HT := Lib.hid hT
    clear hT hV
    go_enter Tryz.func12, Tryz.ntmps12
    go_wp2_with (first | (go_at_call 13; refine (HVAL.out _ HX2.out).mono ?_; rintro e w1 ⟨rfl, x1⟩) | (go_at_call 26; refine (HLI.out _ (HX.out.trans x1)).mono ?_; rintro e w2 ⟨rfl, x2⟩))
    go_returns
    rw [HT.out]
    exact ⟨rfl, HX.out.trans x1⟩
end Go.Proofs.YtnjnfkfmkbnkhaaGreatDoor.Tr

/- What the printer's Print returns of any tree. -/
namespace Go.Proofs.YtnjnfkfmkbnkhaaGreatDoor.Tr
open Go.RowKit Go.Sort Go.Lib Go.Shelf Fx Lx

set_option maxHeartbeats 4000000 in
theorem print_bad (nm : ByteArray) (dir : Bool) (b : Option Addr) (L : List Stm) (cap : Nat) (w : World) (h : StmsAt w.heap.size w b L) (hs : sizeL L ≤ 1048576) (hnm : nm.size ≤ 1048576) (hv : validE nm L ≠ 0) :
    Calls Tryz.prog 9 #[.agg #[.string nm, .bool dir, .slice b L.length cap]] w fun e w' => e = .returned (.string ⟨#[]⟩) ∧ Ext w w' := by
  have hx0 : Ext w (w.alloc (.cells #[.string nm, .bool dir, .slice b L.length cap] 24)) := (Ext.refl _).alloc _
  have hval := fun w' (x : Ext w w') => valid_any nm dir b L cap w.heap.size w' x.size (StmsAt.below x L h) hs (by omega)
  generalize validE nm L = V at *
  obtain ⟨f0, f0'⟩ := ne_facts hv
  generalize L.length = N at *
  have HVAL := Lib.hid hval; have HX := Lib.hid hx0
  clear hval hx0 h hs hnm hv
  go_enter Tryz.func9, Tryz.ntmps9
  go_wp2_with (go_at_call 21; refine (HVAL.out _ HX.out).mono ?_; rintro e w1 ⟨rfl, x1⟩)
  go_ret
  exact ⟨rfl, HX.out.trans x1⟩
/-- The program's Print. -/
theorem print_any (nm : ByteArray) (dir : Bool) (b : Option Addr) (L : List Stm) (cap : Nat) (w : World) (he : Env w) (h : StmsAt w.heap.size w b L) (hs : sizeL L ≤ 1048576) (hnm : nm.size ≤ 1048576) (hlen : validE nm L = 0 → (printT dir nm L).length + 1000 ≤ 140737488355328) :
    Calls Tryz.prog 9 #[.agg #[.string nm, .bool dir, .slice b L.length cap]] w fun e w' => e = .returned (.string ⟨(if validE nm L = 0 then printT dir nm L else []).toArray⟩) ∧ Ext w w' := by
  by_cases hv : validE nm L = 0
  · rw [if_pos hv]
    cases dir
    · exact print_false nm b L cap w he h hs hnm (hlen hv) hv
    · exact print_true nm b L cap w he h hs hnm (hlen hv) hv
  · rw [if_neg hv]
    exact print_bad nm dir b L cap w h hs hnm hv
end Go.Proofs.YtnjnfkfmkbnkhaaGreatDoor.Tr

/- The chapter's awake returns true. -/
namespace Go.Proofs.YtnjnfkfmkbnkhaaGreatDoor.Tr
open Go.RowKit Go.Sort Go.Lib Go.Shelf Fx Lx

def exA : List Two := [(⟨#[104, 101, 105, 103, 104, 116]⟩, ⟨#[49, 48]⟩), (⟨#[108, 97, 98, 101, 108]⟩, ⟨#[120, 32, 121]⟩)]
def exR : List Two := [(⟨#[97]⟩, ⟨#[112]⟩), (⟨#[98]⟩, ⟨#[]⟩)]
def exS : List Two := [(⟨#[]⟩, ⟨#[116, 105, 100, 121]⟩)]
def exB : List Stm := [.mk 1 ⟨#[98]⟩ [] [] []]
def exT : List Stm := [.mk 1 ⟨#[97]⟩ [] exA [], .mk 2 ⟨#[]⟩ exR [] [], .mk 4 ⟨#[109, 111, 100, 101]⟩ [] exS [], .mk 5 ⟨#[99]⟩ [] [] exB]
def exText : List UInt8 := [100, 105, 103, 114, 97, 112, 104, 32, 103, 32, 123, 10, 32, 32, 32, 32, 97, 32, 91, 104, 101, 105, 103, 104, 116, 61, 49, 48, 44, 32, 108, 97, 98, 101, 108, 61, 34, 120, 32, 121, 34, 93, 59, 10, 32, 32, 32, 32, 97, 58, 112, 32, 45, 62, 32, 98, 59].append [10, 32, 32, 32, 32, 115, 101, 116, 32, 109, 111, 100, 101, 32, 61, 32, 116, 105, 100, 121, 59, 10, 32, 32, 32, 32, 99, 108, 117, 115, 116, 101, 114, 32, 99, 32, 123, 10, 32, 32, 32, 32, 32, 32, 32, 32, 98, 59, 10, 32, 32, 32, 32, 125, 10, 125, 10]
theorem ex_valid : validE gN exT = 0 := by kernel_rfl
theorem ex_text : printT true gN exT = exText := by kernel_rfl
theorem ex_attrs : attrsT exA = [91, 104, 101, 105, 103, 104, 116, 61, 49, 48, 44, 32, 108, 97, 98, 101, 108, 61, 34, 120, 32, 121, 34, 93] := by kernel_rfl
theorem ex_bad : validE ⟨#[]⟩ [] = 5 := by kernel_rfl
def o0 : Obj := .cells #[.string ⟨#[104, 101, 105, 103, 104, 116]⟩, .string ⟨#[49, 48]⟩, .string ⟨#[108, 97, 98, 101, 108]⟩, .string ⟨#[120, 32, 121]⟩] 30
def o1 : Obj := .cells #[.string ⟨#[97]⟩, .string ⟨#[112]⟩, .string ⟨#[98]⟩, .string ⟨#[]⟩] 51
def o2 : Obj := .cells #[.string ⟨#[]⟩, .string ⟨#[116, 105, 100, 121]⟩] 30
def o3 : Obj := .cells #[.int .i64 1, .string ⟨#[98]⟩, .slice none 0 0, .slice none 0 0, .slice none 0 0] 47
def o4 (n : Nat) : Obj := .cells #[.int .i64 1, .string ⟨#[97]⟩, .slice none 0 0, .slice (some ⟨n, 0, none⟩) 2 2, .slice none 0 0,
  .int .i64 2, .string ⟨#[]⟩, .slice (some ⟨n + 1, 0, none⟩) 2 2, .slice none 0 0, .slice none 0 0,
  .int .i64 4, .string ⟨#[109, 111, 100, 101]⟩, .slice none 0 0, .slice (some ⟨n + 2, 0, none⟩) 1 1, .slice none 0 0,
  .int .i64 5, .string ⟨#[99]⟩, .slice none 0 0, .slice none 0 0, .slice (some ⟨n + 3, 0, none⟩) 1 1] 47
def o5 (n : Nat) : Obj := .cells #[.string ⟨#[103]⟩, .bool true, .slice (some ⟨n + 4, 0, none⟩) 4 4] 24
def exW (w : World) : World := (((((w.alloc o0).alloc o1).alloc o2).alloc o3).alloc (o4 w.heap.size)).alloc (o5 w.heap.size)
theorem ex_heap (w : World) : (exW w).heap.size = w.heap.size + 6 ∧ (exW w).heap[w.heap.size]? = some o0 ∧ (exW w).heap[w.heap.size + 1]? = some o1 ∧ (exW w).heap[w.heap.size + 2]? = some o2 ∧ (exW w).heap[w.heap.size + 3]? = some o3 ∧ (exW w).heap[w.heap.size + 4]? = some (o4 w.heap.size) ∧ (exW w).heap[w.heap.size + 5]? = some (o5 w.heap.size) := by
  unfold exW World.alloc
  simp only [Array.getElem?_push, Array.size_push]
  refine ⟨by first | omega | trivial, ?_, ?_, ?_, ?_, ?_, ?_⟩ <;> (repeat (first | rw [if_pos trivial] | rw [if_neg (by omega)] | rw [if_pos (by omega)]))
theorem exX (w : World) : Ext w (exW w) := ((((((Ext.refl w).alloc _).alloc _).alloc _).alloc _).alloc _).alloc _
theorem twoAt_lit {n g : Nat} {w : World} {L : List Two} {T : TypeId} {cs : Array Value} (hg : g < n) (h : w.heap[g]? = some (.cells cs T (0, 0))) (hc : ∀ k (hk : k < L.length), cs[k * 2]? = some (.string L[k].1) ∧ cs[k * 2 + 1]? = some (.string L[k].2)) : TwoAt n w (some ⟨g, 0, none⟩) L := fun k hk => by
  obtain ⟨h1, h2⟩ := hc k hk
  refine ⟨g, 0, rfl, hg, ?_, ?_⟩
  · rw [Nat.zero_add, Lib.cell_of_heap h]; exact h1
  · rw [Nat.zero_add, Lib.cell_of_heap h]; exact h2
theorem exA_at (w : World) : TwoAt (w.heap.size + 6) (exW w) (some ⟨w.heap.size, 0, none⟩) exA := by
  refine twoAt_lit (by omega) (ex_heap w).2.1 fun k hk => ?_
  have : k < 2 := hk
  match k, this with
  | 0, _ => exact ⟨rfl, rfl⟩
  | 1, _ => exact ⟨rfl, rfl⟩
theorem exR_at (w : World) : TwoAt (w.heap.size + 6) (exW w) (some ⟨w.heap.size + 1, 0, none⟩) exR := by
  refine twoAt_lit (by omega) (ex_heap w).2.2.1 fun k hk => ?_
  have : k < 2 := hk
  match k, this with
  | 0, _ => exact ⟨rfl, rfl⟩
  | 1, _ => exact ⟨rfl, rfl⟩
theorem exS_at (w : World) : TwoAt (w.heap.size + 6) (exW w) (some ⟨w.heap.size + 2, 0, none⟩) exS := by
  refine twoAt_lit (by omega) (ex_heap w).2.2.2.1 fun k hk => ?_
  have : k < 1 := hk
  match k, this with
  | 0, _ => exact ⟨rfl, rfl⟩
theorem exB_at (w : World) : StmsAt (w.heap.size + 6) (exW w) (some ⟨w.heap.size + 3, 0, none⟩) exB := by
  have h := (ex_heap w).2.2.2.2.1
  refine StmsAt.of _ _ _ (by omega) fun k hk => ?_
  have : k < 1 := hk
  match k, this with
  | 0, _ =>
    show StmAt _ _ _ _ (.mk 1 ⟨#[98]⟩ [] [] [])
    rw [StmAt]
    refine ⟨none, 0, none, 0, none, 0, ?_, ?_, ?_, ?_, ?_, TwoAt.nil _ _ _, TwoAt.nil _ _ _, by rw [StmsAt]; trivial, Nat.le_refl _, Nat.le_refl _, Nat.zero_le _, Nat.zero_le _, Nat.zero_le _⟩ <;> (rw [Lib.cell_of_heap h]; rfl)
theorem exT_at (w : World) : StmsAt (w.heap.size + 6) (exW w) (some ⟨w.heap.size + 4, 0, none⟩) exT := by
  have h := (ex_heap w).2.2.2.2.2.1
  refine StmsAt.of _ _ _ (by omega) fun k hk => ?_
  have : k < 4 := hk
  match k, this with
  | 0, _ =>
    show StmAt _ _ _ _ (.mk 1 ⟨#[97]⟩ [] exA [])
    rw [StmAt]
    refine ⟨none, 0, _, 2, none, 0, ?_, ?_, ?_, ?_, ?_, TwoAt.nil _ _ _, exA_at w, by rw [StmsAt]; trivial, Nat.le_refl _, Nat.le_refl _, Nat.zero_le _, by decide, Nat.zero_le _⟩ <;> (rw [Lib.cell_of_heap h]; rfl)
  | 1, _ =>
    show StmAt _ _ _ _ (.mk 2 ⟨#[]⟩ exR [] [])
    rw [StmAt]
    refine ⟨_, 2, none, 0, none, 0, ?_, ?_, ?_, ?_, ?_, exR_at w, TwoAt.nil _ _ _, by rw [StmsAt]; trivial, Nat.le_refl _, Nat.le_refl _, by decide, Nat.zero_le _, Nat.zero_le _⟩ <;> (rw [Lib.cell_of_heap h]; rfl)
  | 2, _ =>
    show StmAt _ _ _ _ (.mk 4 ⟨#[109, 111, 100, 101]⟩ [] exS [])
    rw [StmAt]
    refine ⟨none, 0, _, 1, none, 0, ?_, ?_, ?_, ?_, ?_, TwoAt.nil _ _ _, exS_at w, by rw [StmsAt]; trivial, Nat.le_refl _, Nat.le_refl _, Nat.zero_le _, by decide, Nat.zero_le _⟩ <;> (rw [Lib.cell_of_heap h]; rfl)
  | 3, _ =>
    show StmAt _ _ _ _ (.mk 5 ⟨#[99]⟩ [] [] exB)
    rw [StmAt]
    refine ⟨none, 0, none, 0, _, 1, ?_, ?_, ?_, ?_, ?_, TwoAt.nil _ _ _, TwoAt.nil _ _ _, exB_at w, Nat.le_refl _, Nat.le_refl _, Nat.zero_le _, Nat.zero_le _, by decide⟩ <;> (rw [Lib.cell_of_heap h]; rfl)
theorem ex_size : sizeL exT ≤ 1048576 := by
  exact of_decide_eq_true (by kernel_rfl)
set_option maxHeartbeats 4000000 in
set_option maxRecDepth 100000 in
theorem awake_any (w : World) (he : Env w) : Calls Tryz.prog 8 #[] w fun e w' => e = .returned (.bool true) ∧ Ext w w' := by
  have hp := print_any gN true (some ⟨w.heap.size + 4, 0, none⟩) exT 4 (exW w) (he.ext (exX w)) (by rw [(ex_heap w).1]; exact exT_at w) ex_size (by decide) (fun _ => printT_len _ _ _ (by decide) ex_size)
  rw [if_pos ex_valid, ex_text] at hp
  have ha := fun w1 (x : Ext (exW w) w1) => attrsP_any (some ⟨w.heap.size, 0, none⟩) exA 2 w1 (((exA_at w).below (Below.mono x (by rw [(ex_heap w).1]; exact Nat.le_refl _))).mono (by have h := x.size; rw [(ex_heap w).1] at h; exact h)) (by decide) (by decide) (he.ext ((exX w).trans x)) (by decide) (by decide)
  rw [ex_attrs] at ha
  have hq := fun w1 (x : Ext w w1) => print_bad ⟨#[]⟩ false none [] 0 w1 (by rw [StmsAt]; trivial) (by rw [sizeL]; omega) (by decide) (by rw [ex_bad]; decide)
  have HX := Lib.hid (exX w)
  unfold exW exText at hp
  unfold exW at ha HX
  unfold o0 o1 o2 o3 o4 o5 at hp ha HX
  have HP := Lib.hid hp; have HA := Lib.hid ha; have HQ := Lib.hid hq
  obtain ⟨m0, m1, m2⟩ := tree_cells (((((w.alloc o0).alloc o1).alloc o2).alloc o3).alloc (o4 w.heap.size)) ⟨#[103]⟩ true (some ⟨w.heap.size + 4, 0, none⟩) 4 4 _ (Ext.refl _)
  simp only [World.size_alloc] at m0 m1 m2
  unfold o0 o1 o2 o3 o4 at m0 m1 m2
  clear hp ha hq he
  go_enter Tryz.func8, Tryz.ntmps8
  go_wp2_with (go_at_call 9; refine HP.out.mono ?_; rintro e w1 ⟨rfl, x1⟩)
  go_wp2_with (go_at_call 11; refine (HA.out _ x1).mono ?_; rintro e w2 ⟨rfl, x2⟩)
  go_wp2_with (go_at_call 9; refine (HQ.out _ ((HX.out.trans x1).trans x2)).mono ?_; rintro e w3 ⟨rfl, x3⟩)
  go_returns
  exact ⟨rfl, ((HX.out.trans x1).trans x2).trans x3⟩
end Go.Proofs.YtnjnfkfmkbnkhaaGreatDoor.Tr
