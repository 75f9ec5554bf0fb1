/- Packed texts: TreAttD, ParParsA, ParRtw -/
import Derived.Test.YtmallladeidkpaaGreatDoorPw34
import Derived.Test.YtmallladeidkpaaGreatDoorPw25
set_option linter.unusedVariables false
set_option linter.unusedSimpArgs false
/- What the document's Attrs returns. -/
namespace Go.Proofs.YtmallladeidkpaaGreatDoor.Tr
open Go.RowKit Go.Sort Go.Lib Go.Shelf Fx Lx

def oneL (al : List Two) : List Stm := [.mk 1 ⟨#[97]⟩ [] al []]
def gN : ByteArray := ⟨#[103]⟩
/-- The text of attributes. -/
def attrsT (al : List Two) : List UInt8 := if al.isEmpty = true then [] else if validE gN (oneL al) = 0 then listedT al else []
theorem TwoAt.nil (n : Nat) (w : World) (a : Option Addr) : TwoAt n w a [] := fun k h => absurd h (Nat.not_lt_zero _)
/-- The statement laid by the literal. -/
theorem one_at (w : World) (a : Option Addr) (al : List Two) (ac : Nat) (h : TwoAt w.heap.size w a al) (hc : al.length ≤ ac) (hm : ac ≤ maxLen) :
    StmsAt (w.heap.size + 1) (w.alloc (.cells #[.int .i64 1, .string ⟨#[97]⟩, .slice none 0 0, .slice a al.length ac, .slice none 0 0] 44)) (some ⟨w.heap.size, 0, none⟩) (oneL al) := by
  obtain ⟨c0, c1, c2, c3, c4⟩ := stm_cells w 1 ⟨#[97]⟩ none a none 0 al.length 0 0 ac 0 _ (Ext.refl _)
  unfold oneL
  rw [stmsAt_cons]
  refine ⟨w.heap.size, 0, rfl, by omega, ?_, by rw [StmsAt]; trivial⟩
  rw [StmAt]
  refine ⟨none, 0, a, ac, none, 0, c0, c1, c2, c3, c4, TwoAt.nil _ _ _, ?_, by rw [StmsAt]; trivial, Nat.le_refl _, hc, Nat.zero_le _, hm, Nat.zero_le _⟩
  exact (h.below ((Below.refl _ _).alloc (Nat.le_refl _) _)).mono (by omega)
theorem oneL_size (al : List Two) : sizeL (oneL al) = 1 + sizeTwo al + 1 := by
  unfold oneL
  rw [sizeL_cons, sizeL_nil, sizeS]
  show ByteArray.size ⟨#[97]⟩ + sizeTwo [] + sizeTwo al + sizeL [] + 1 + 0 = _
  rw [sizeL_nil]
  show 1 + 0 + sizeTwo al + 0 + 1 + 0 = _
  omega
theorem sizeTwo_small : ∀ al : List Two, (∀ q ∈ al, q.1.size ≤ 100 ∧ q.2.size ≤ 100) → sizeTwo al ≤ 201 * al.length
  | [], _ => by simp [sizeTwo]
  | q :: r, h => by
    have h1 := h q (by simp)
    have h2 := sizeTwo_small r (fun x hx => h x (by simp [hx]))
    rw [sizeTwo, List.length_cons]; omega
set_option maxHeartbeats 4000000 in
set_option maxRecDepth 100000 in
theorem attrsD_any (a : Option Addr) (al : List Two) (ac : Nat) (w : World) (h : TwoAt w.heap.size w a al) (hc : al.length ≤ ac) (hm : ac ≤ maxLen) (hl : al.length ≤ 20) (hs : ∀ q ∈ al, q.1.size ≤ 100 ∧ q.2.size ≤ 100) :
    Calls Tryz.prog 14 #[.slice a al.length ac] w fun e w' => e = .returned (.string (bs (attrsT al))) ∧ Ext w w' := by
  have hz := sizeTwo_small al hs
  have hsz : sizeL (oneL al) ≤ 1048576 := by rw [oneL_size]; omega
  have hx : Ext w ((w.alloc (.cells #[.int .i64 1, .string ⟨#[97]⟩, .slice none 0 0, .slice a al.length ac, .slice none 0 0] 44)).alloc (.cells #[.string ⟨#[103]⟩, .bool false, .slice (some ⟨w.heap.size, 0, none⟩) 1 1] 24)) := ((Ext.refl w).alloc _).alloc _
  have hone := one_at w a al ac h hc hm
  have hval := fun w' (x : Ext (w.alloc (.cells #[.int .i64 1, .string ⟨#[97]⟩, .slice none 0 0, .slice a al.length ac, .slice none 0 0] 44)) w') => validR_any gN false (some ⟨w.heap.size, 0, none⟩) (oneL al) 1 (w.heap.size + 1) w' (by have h := x.size; rw [World.size_alloc] at h; exact h) (StmsAt.below (Below.mono x (by rw [World.size_alloc]; exact Nat.le_refl _)) _ hone) hsz (by decide)
  have hcl := tree_cells (w.alloc (.cells #[.int .i64 1, .string ⟨#[97]⟩, .slice none 0 0, .slice a al.length ac, .slice none 0 0] 44)) ⟨#[103]⟩ false (some ⟨w.heap.size, 0, none⟩) 1 1 _ (Ext.refl _)
  rw [World.size_alloc] at hcl
  obtain ⟨m0, m1, m2⟩ := hcl
  have hli := fun w' (x : Ext w w') => listR_any a al ac w' (h.in.ext x) (by omega) (fun q hq => by have := hs q hq; omega) (by have := listedT_len al; omega)
  have hT : attrsT al = if validE gN (oneL al) = 0 then listRT al else [] := by
    unfold attrsT listRT
    by_cases h0 : al.isEmpty = true
    · rw [if_pos h0, if_pos h0]; split <;> rfl
    · rw [if_neg h0, if_neg h0]
  unfold gN at hval hT
  rw [show (oneL al).length = 1 from rfl] at hval
  generalize validE ⟨#[103]⟩ (oneL al) = V at *
  generalize hP : attrsT al = P at *
  generalize listRT al = Q at *
  have hx2 : Ext (w.alloc (.cells #[.int .i64 1, .string ⟨#[97]⟩, .slice none 0 0, .slice a al.length ac, .slice none 0 0] 44)) ((w.alloc (.cells #[.int .i64 1, .string ⟨#[97]⟩, .slice none 0 0, .slice a al.length ac, .slice none 0 0] 44)).alloc (.cells #[.string ⟨#[103]⟩, .bool false, .slice (some ⟨w.heap.size, 0, none⟩) 1 1] 24)) := (Ext.refl _).alloc _
  have HVAL := Lib.hid hval; have HLI := Lib.hid hli; have HX := Lib.hid hx; have HX2 := Lib.hid hx2
  clear hval hli hx hx2 hone hsz hz h hc hm hl hs hP
  generalize al.length = N at *
  by_cases hV : V = 0
  · rw [if_pos hV] at hT
    subst hV
    have HT := Lib.hid hT
    clear hT
    go_enter Tryz.func14, Tryz.ntmps14
    go_wp2_with (first | (go_at_call 7; refine (HVAL.out _ HX2.out).mono ?_; rintro e w1 ⟨rfl, x1⟩) | (go_at_call 27; refine (HLI.out _ (HX.out.trans x1)).mono ?_; rintro e w2 ⟨rfl, x2⟩))
    go_returns
    rw [HT.out]
    exact ⟨rfl, (HX.out.trans x1).trans x2⟩
  · rw [if_neg hV] at hT
    obtain ⟨f2, f2'⟩ := ne_facts hV
    have HT := Lib.hid hT
    clear hT hV
    go_enter Tryz.func14, Tryz.ntmps14
    go_wp2_with (first | (go_at_call 7; refine (HVAL.out _ HX2.out).mono ?_; rintro e w1 ⟨rfl, x1⟩) | (go_at_call 27; refine (HLI.out _ (HX.out.trans x1)).mono ?_; rintro e w2 ⟨rfl, x2⟩))
    go_returns
    rw [HT.out]
    exact ⟨rfl, HX.out.trans x1⟩
end Go.Proofs.YtmallladeidkpaaGreatDoor.Tr

/- What the parser's ParseAttrs returns of a source. -/
namespace Go.Proofs.YtmallladeidkpaaGreatDoor.Pa
open Go.RowKit Go.Sort Go.Lib Go.Shelf Fx Lx Tr

/-- The tokens' attributes. -/
def readA (T : List Tok) : PR (List Two) := pAttrsB (lastL T) T
def pSrcA (s : List UInt8) : PR (List Two) := (runT readA s).bind fun L r => if validE gN (oneL L) = 0 then .ok L r else .err 0 (validE gN (oneL L))
/-- A list in its variable. -/
def TwoK (tb : Nat) (n : Nat) (L : List Two) (w : World) : Prop :=
  ∃ a cap, w.heap[tb]? = some (.cells #[.slice a L.length cap] 35 (0, 0)) ∧ TwoP (n ≤ ·) w a L ∧ L.length ≤ cap ∧ cap ≤ maxLen
theorem twoK_keep (tb : Nat) (m n : Nat) (L : List Two) (w2 w' : World) (hmn : m ≤ n) (h : TwoK tb n L w2) (k : ∀ g, (n ≤ g ∨ g = tb) → g < w2.heap.size → w'.heap[g]? = w2.heap[g]?) : TwoK tb m L w' := by
  obtain ⟨b, cap, h1, h2, h3, h4⟩ := h
  exact ⟨b, cap, (k tb (.inr rfl) (Array.getElem?_eq_some_iff.1 h1).1).trans h1, h2.keep (fun g hg hl => k g (.inl hg) hl) (fun g hg _ => Nat.le_trans hmn hg), h3, h4⟩
theorem one_cell {w : World} {c0 : Value} {b : Nat} {T : TypeId} (h : w.heap[b]? = some (.cells #[c0] T (0, 0))) : w.cell? ⟨b, 0, none⟩ = some c0 ∧ w.frozen? ⟨b, 0, none⟩ = false := by
  refine ⟨?_, Lib.frozen_of_heap h 0⟩
  rw [Lib.cell_of_heap h]; rfl
set_option maxHeartbeats 4000000 in
theorem closA_read (tb : Nat) (T : List Tok) (we w : World) (he : Env we) (hx : Ext we w) (hwt : we.heap.size ≤ tb) (ht : w.heap[tb]? = some (.cells #[.slice none 0 0] 35 (0, 0))) : ReadC readA 25 tb (TwoK tb) T w := by
  intro pb a cap w1 hpb x1 ha hst
  have htl := (Array.getElem?_eq_some_iff.1 ht).1
  have ht1 := (x1.block tb htl).trans ht
  have hsrc := attrs_any pb a cap T ⟨#[]⟩ 0 T w1 hst
  have HS := Lib.hid hsrc
  have HT1 := Lib.hid ht1
  clear hsrc hst ht1 ht
  obtain ⟨X, hX⟩ : ∃ X, X = readA T := ⟨_, rfl⟩
  rw [← hX]
  unfold readA at hX
  have HX := Lib.hid hX
  clear hX
  go_enter Tryz.func25, Tryz.ntmps25
  go_wp2_with fail
  have hX1 := HX.out
  have hs1 := HS.out
  rcases hq : pAttrsB (lastL T) T with ⟨L, r⟩ | ⟨ln, er⟩ <;> rw [hq] at hX1 hs1 <;> clear hq HX HS
  · have HX := Lib.hid hX1
    clear hX1
    refine hs1.mono ?_
    rintro e w2 ⟨⟨_, rfl, ⟨b, c, rfl, hsp, hl1, hl2⟩, hs2⟩, x2⟩
    have k0 := but_heap x2 HT1.out (by omega)
    obtain ⟨y0, f0⟩ := one_cell k0
    have HZ := Lib.hid (setOne k0 0 (.slice b L.length c))
    have HSP := Lib.hid hsp; have HS2 := Lib.hid hs2; have X2 := Lib.hid x2
    clear hs1 hsp hs2 x2 k0
    go_wp2
    refine bodyPost_end (results_none rfl _ _ _) rfl ?_
    obtain ⟨F1, F2⟩ := PSt.turned (w3 := w2.setCell ⟨tb, 0, none⟩ (.slice b L.length c)) HS2.out he hx hwt htl hpb x1 ha X2.out
      (fun g hg => Below.heap_setCell _ _ _ _ hg) rfl rfl rfl (by simp)
    rw [HX.out]
    have hl1' := x1.size
    exact ⟨F2, rfl, ⟨b, c, HZ.out, HSP.out.keep (fun g hg _ => by
      have hg : w1.heap.size ≤ g := hg
      have hne : g ≠ tb := by omega
      exact Below.heap_setCell _ _ _ _ hne) (fun g hg _ => hg), hl1, hl2⟩, _, F1⟩
  · have HX := Lib.hid hX1
    clear hX1
    refine hs1.mono ?_
    rintro e w2 ⟨rfl, x2⟩
    unfold failE
    go_wp2
    exact ⟨rfl, But.two tb x2, by rw [HX.out]; exact rfl⟩
theorem two_small {s : List UInt8} {L : List Two} {r : List Tok} (h : runT readA s = .ok L r) : sizeTwo L + 64 ≤ 1048576 := by
  obtain ⟨_, h1, _⟩ := runT_ok h
  have hn : 1 ≤ (tokenize s).1.length := by
    cases ht : (tokenize s).1 with
    | nil => rw [ht] at h1; cases h1
    | cons t r => simp
  have h2 : sizeTwo L + 64 + 64 * ([] : List Tok).length ≤ 64 * (tokenize s).1.length := by
    unfold readA pAttrsB at h1
    cases hm : pMark (lastL (tokenize s).1) [91] (tokenize s).1 with
    | err l e => rw [hm, PR.bind_err] at h1; cases h1
    | ok u s1 =>
      rw [hm, PR.bind_ok] at h1
      obtain ⟨a1, g1⟩ := wei_mark _ _ _ (tokenize_okT s) u s1 hm
      have := (wei_attrs _ _ _ s1 g1 L [] h1).1
      rw [sizeTwo] at this
      dsimp only at a1
      omega
  have := tokenize_len s
  simp at h2
  omega
/-- What ParseAttrs answers. -/
def ParseAO (w : World) (x : PR (List Two)) (e : Ending) (w' : World) : Prop := match x with
  | .ok L _ => ∃ u, e = .returned (.tuple #[u, .int .i64 0, .int .i64 0]) ∧ TwoV (w.heap.size ≤ ·) L u w'
  | .err ln er => e = .returned (.tuple #[.slice none 0 0, .int .i64 ln, .int .i64 er])
theorem call_closA (args : Array Value) (w : World) : (callFunc 25 args).run Tryz.prog w = .ok (.enter 25 args) w := by kernel_rfl
set_option maxHeartbeats 4000000 in
set_option maxRecDepth 100000 in
theorem parseA_any (s : ByteArray) (w : World) (hs : s.size ≤ 9223372036854775807) (he : Env w) :
    Calls Tryz.prog 13 #[.string s] w fun e w' => ParseAO w (pSrcA s.data.toList) e w' ∧ Ext w w' := by
  have hmf : ∀ (fn : Fn) (first cap : Array Value) (w : World), (Instr.makeFunc fn first cap).run Tryz.prog w = .ok (.func fn first cap) w := fun _ _ _ _ => rfl
  have hx0 : Ext w (w.alloc (.cells #[.slice none 0 0] 35)) := (Ext.refl w).alloc _
  have k1 := heap_alloc_new w (.cells #[.slice none 0 0] 35)
  have hrun := run_any readA 25 w.heap.size (TwoK w.heap.size) s _ hs (he.ext hx0) (by simp) (fun n v w2 w' hn hk hh => twoK_keep _ _ n v w2 w' hn hk hh) call_closA (closA_read w.heap.size _ w _ he hx0 (by omega) k1)
  obtain ⟨X, hX⟩ : ∃ X, X = pSrcA s.data.toList := ⟨_, rfl⟩
  rw [← hX]
  unfold pSrcA at hX
  have hnz : NZ (runT readA s.data.toList) := runT_err (nz_attrsB _ _)
  rcases hq : runT readA s.data.toList with ⟨L, r⟩ | ⟨ln, er⟩ <;> rw [hq] at hrun hX hnz
  · have hsm := two_small hq
    rw [PR.bind_ok] at hX
    have HX := Lib.hid hX; have HRUN := Lib.hid hrun; have HX0 := Lib.hid hx0
    clear hX hrun hx0 k1 hnz hq he
    go_enter Tryz.func13, Tryz.ntmps13
    go_wp2_with (go_at_call 20; refine HRUN.out.mono ?_; rintro e w1 ⟨⟨rfl, b, c, k1, hsp, hl1, hl2⟩, x1⟩; obtain ⟨y0, f0⟩ := one_cell k1; have K1 := Lib.hid k1; have HSP := Lib.hid hsp; have X1 := Lib.hid x1; clear k1 hsp x1)
    have hat : TwoAt w1.heap.size w1 b L := TwoP.at (ok := (· < w1.heap.size)) (HSP.out.keep (fun g _ _ => rfl) (fun g _ hl => hl)) (fun g hg => hg)
    have hone := one_at w1 b L c hat hl1 hl2
    have hxo := (Ext.refl w1).alloc (.cells #[.int .i64 1, .string ⟨#[97]⟩, .slice none 0 0, .slice b L.length c, .slice none 0 0] 44)
    have hv := valid_any gN false (some ⟨w1.heap.size, 0, none⟩) (oneL L) 1 (w1.heap.size + 1) _ (by rw [World.size_alloc]; exact Nat.le_refl _) hone (by rw [oneL_size]; omega) (by decide)
    unfold gN at hv
    rw [show (oneL L).length = 1 from rfl] at hv
    have hX1 := HX.out
    unfold gN at hX1
    have XW := Lib.hid (But.fresh HX0.out X1.out (Nat.le_refl _))
    obtain ⟨E, hE⟩ : ∃ E, E = validE ⟨#[103]⟩ (oneL L) := ⟨_, rfl⟩
    rw [← hE] at hv hX1
    have XO := Lib.hid hxo
    clear HX HRUN hat hone hE hxo
    by_cases h0 : E = 0
    · rw [if_pos h0] at hX1
      subst h0
      have HX := Lib.hid hX1
      clear hX1
      go_wp2_with (go_at_call 23; refine hv.mono ?_; rintro e w2 ⟨rfl, x2⟩; have k1 := ((XO.out.trans x2).block w.heap.size (Array.getElem?_eq_some_iff.1 K1.out).1).trans K1.out; obtain ⟨z0, g0⟩ := one_cell k1; replace k1 := Lib.hid k1; have X2 := Lib.hid x2; clear x2)
      go_returns
      rw [HX.out]
      exact ⟨⟨_, rfl, b, c, rfl, HSP.out.keep (fun g _ hl => (XO.out.trans X2.out).block g hl) (fun g hg _ => by
        have hg : (w.alloc (.cells #[.slice none 0 0] 35)).heap.size ≤ g := hg
        rw [World.size_alloc] at hg
        show w.heap.size ≤ g; omega), hl1, hl2⟩, XW.out.trans (XO.out.trans X2.out)⟩
    · rw [if_neg h0] at hX1
      have HX := Lib.hid hX1
      clear hX1
      go_wp2_with (go_at_call 23; refine hv.mono ?_; rintro e w2 ⟨rfl, x2⟩; have X2 := Lib.hid x2; clear x2)
      go_returns
      rw [HX.out]
      exact ⟨rfl, XW.out.trans (XO.out.trans X2.out)⟩
  · have hne := hnz ln er rfl
    rw [PR.bind_err] at hX
    have HX := Lib.hid hX; have HRUN := Lib.hid hrun; have HX0 := Lib.hid hx0
    clear hX hrun hx0 k1 hnz hq he
    go_enter Tryz.func13, Tryz.ntmps13
    go_wp2_with (go_at_call 20; refine HRUN.out.mono ?_; rintro e w1 ⟨rfl, x1⟩; have X1 := Lib.hid x1; clear x1)
    go_returns
    rw [HX.out]
    exact ⟨rfl, But.fresh HX0.out X1.out (Nat.le_refl _)⟩
end Go.Proofs.YtmallladeidkpaaGreatDoor.Pa

/- The plain parser gives a valid tree back from its text; no program in sight. -/
namespace Go.Proofs.YtmallladeidkpaaGreatDoor.Pa
open Go.Lib Fx Lx Tr

theorem tail_pos (ln : Int) (a : List Two) : 1 ≤ (tailToks ln a).length := by
  unfold tailToks; rw [List.length_append]; simp
mutual
theorem toksS_ge (d : Bool) : ∀ (x : Stm) (ln : Int), AllS okS x → fuelS x ≤ 2 * (toksS d ln x).length ∧ 1 ≤ (toksS d ln x).length
  | .mk k n r a b, ln, h => by
    rw [AllS] at h
    obtain ⟨⟨hfm, _⟩, hb⟩ := h
    rw [fuelS]
    rcases form_parts k n r a b hfm with ⟨rfl, rfl, rfl⟩ | ⟨rfl, rfl, rfl, h2⟩ | ⟨rfl, rfl, rfl, h3⟩ | ⟨rfl, rfl, rfl, v, rfl⟩ | ⟨rfl, rfl, rfl⟩
    · rw [toksS_1, List.length_cons, fuelL]
      have := tail_pos ln a
      omega
    · rw [toksS_2, List.length_append, fuelL]
      have := tail_pos ln a
      have hs : 1 ≤ (sepToks (mk (arrowM d) ln) (r.map (refToks ln))).length := by
        match r, h2 with
        | q :: q2 :: l, _ =>
          rw [List.map_cons, sepToks_cons]
          unfold refToks
          rw [List.cons_append, List.length_cons]; omega
      omega
    · rw [toksS_3, List.length_cons, List.length_append, fuelL]
      simp only [List.length_cons, List.length_nil]
      omega
    · rw [toksS_4, fuelL]
      simp
    · rw [toksS_5, List.length_cons, List.length_cons, List.length_cons, List.length_append]
      have := toksL_ge d b (ln + 1) hb
      omega
theorem toksL_ge (d : Bool) : ∀ (X : List Stm) (ln : Int), AllL okS X → fuelL X ≤ 2 * (toksL d ln X).length + 1
  | [], ln, _ => by rw [fuelL]; omega
  | x :: r, ln, h => by
    rw [AllL] at h
    have h1 := toksS_ge d x ln h.1
    have h2 := toksL_ge d r (ln + linesS x) h.2
    rw [fuelL, toksL, List.length_append]
    omega
end
theorem src_print (d : Bool) (nm : ByteArray) (L : List Stm) (hv : validE nm L = 0) (hl : (printT d nm L).length ≤ 16384) : pSrc (printT d nm L) = .ok (d, nm, L) [] := by
  have ht := tokenize_tree d nm L hv hl
  obtain ⟨_, _, _, h4⟩ := valid_ok nm L hv
  have hg := toksL_ge d L 2 h4
  have hlen : (toksT d nm L).length = (toksL d 2 L).length + 4 := by
    unfold toksT; simp
  have hr : runT readT (printT d nm L) = .ok (d, nm, L) [] := by
    unfold runT
    rw [ht, if_neg (by simp)]
    dsimp only
    unfold readT
    rw [pTree_tok _ d nm L _ hv (by rw [hlen]; omega), PR.bind_ok]
    rfl
  unfold pSrc
  rw [hr, PR.bind_ok, if_pos hv]
theorem src_list (al : List Two) (h0 : al ≠ []) (hv : validE gN (oneL al) = 0) (hl : (attrsT al).length ≤ 16384) : pSrcA (attrsT al) = .ok al [] := by
  have hne : ¬ al.isEmpty = true := by simpa using h0
  have e : attrsT al = listedT al := by unfold attrsT; rw [if_neg hne, if_pos hv]
  rw [e] at hl ⊢
  obtain ⟨_, _, _, h4⟩ := valid_ok gN (oneL al) hv
  unfold oneL at h4
  rw [AllL, AllS] at h4
  obtain ⟨_, _, _, hok⟩ := h4.1.1
  have ht : tokenize (listedT al) = (listToks 1 al, 0, 0) := by
    unfold tokenize
    rw [if_neg (by omega)]
    have := Z_list 1 [] al [] (fun q hq => by
      obtain ⟨g1, g2, g3⟩ := hok q hq
      exact ⟨g1 (show (1 : Int) ≠ 4 by decide), g2, g3⟩)
    rw [List.append_nil, Z_nil, List.nil_append] at this
    exact this
  have hr : runT readA (listedT al) = .ok al [] := by
    unfold runT
    rw [ht, if_neg (by simp)]
    dsimp only
    unfold readA
    have := pAttrsB_list (lastL (listToks 1 al)) 1 al []
    rw [List.append_nil] at this
    rw [this, PR.bind_ok]
    rfl
  unfold pSrcA
  rw [hr, PR.bind_ok, if_pos hv]
end Go.Proofs.YtmallladeidkpaaGreatDoor.Pa
