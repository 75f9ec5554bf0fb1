/- Packed texts: ParParse, ParParsB, ParRtx, ExpLawR -/
import Derived.Test.YtjaeedbjknejdaaGreatDoorPr49
import Derived.Test.YtjaeedbjknejdaaGreatDoorPr42
set_option linter.unusedVariables false
set_option linter.unusedSimpArgs false
set_option maxHeartbeats 16000000
set_option maxRecDepth 100000
namespace Go.Proofs.YtjaeedbjknejdaaGreatDoor.Pa
open Go.RowKit Go.Sort Go.Lib Go.Shelf Fx Lx Tr
def readT (T : List Tok) : PR (Bool × ByteArray × List Stm) := pTree (lastL T) (2 * T.length + 3) T
def pSrc (s : List UInt8) : PR (Bool × ByteArray × List Stm) := (runT readT s).bind fun t r => if validE t.2.1 t.2.2 = 0 then .ok t r else .err 0 (validE t.2.1 t.2.2)
def TreeK (tb : Nat) (n : Nat) (t : Bool × ByteArray × List Stm) (w : World) : Prop :=
  ∃ b cap, w.heap[tb]? = some (.cells #[.string t.2.1, .bool t.1, .slice b t.2.2.length cap] 33 (0, 0)) /\ StmsP (n <= ·) w b t.2.2 /\ t.2.2.length <= cap /\ cap <= maxLen
theorem treeK_keep (tb : Nat) (m n : Nat) (t : Bool × ByteArray × List Stm) (w2 w' : World) (hmn : m <= n) (h : TreeK tb n t w2) (k : ∀ g, (n <= g \/ g = tb) -> g < w2.heap.size -> w'.heap[g]? = w2.heap[g]?) : TreeK tb m t w' := by
  obtain ⟨b, cap, h1, h2, h3, h4⟩ := h
  exact ⟨b, cap, (k tb (.inr rfl) (Array.getElem?_eq_some_iff.1 h1).1).trans h1, StmsP.keep (fun g hg hl => k g (.inl hg) hl) (fun g hg _ => Nat.le_trans hmn hg) t.2.2 b h2, h3, h4⟩
theorem PSt.turned {pb : Nat} {a : Option Addr} {cap : Nat} {T : List Tok} {ar : ByteArray} {dep : Int} {r : List Tok} {we w w1 w2 w3 : World} {tb : Nat} (h : PSt pb a cap T ar dep r w2) (he : Env we) (hx : Ext we w) (hwt : we.heap.size <= tb) (htb : tb < w.heap.size) (hpb : w.heap.size < pb)
    (x1 : Ext w w1) (ha : ∀ g o, a = some ⟨g, o, none⟩ -> w.heap.size <= g) (x2 : But pb w1 w2) (h3 : ∀ g, g ≠ tb -> w3.heap[g]? = w2.heap[g]?) (o1 : w3.os = w2.os) (o2 : w3.tape = w2.tape) (o3 : w3.output = w2.output) (o4 : w3.heap.size = w2.heap.size) :
    PSt pb a cap T ar dep r w3 /\ But2 pb tb w1 w3 := by
  obtain ⟨k, hk, hn, hd, hc, ht, _, hm⟩ := h
  have hs := x1.size
  have hs2 := x2.size
  have hsw := hx.size
  refine ⟨⟨k, hk, hn, hd, (h3 pb (by omega)).trans hc, fun i hi => ?_, ⟨we, ⟨o1.trans (x2.os.trans (x1.os.trans hx.os)), o2.trans (x2.tape.trans (x1.tape.trans hx.tape)), o3.trans (x2.output.trans (x1.output.trans hx.output)), by omega, fun g hg => ?_⟩, by omega, he⟩, hm⟩,
    ⟨o1.trans x2.os, o2.trans x2.tape, o3.trans x2.output, by omega, fun g hg h1 h2 => (h3 g h2).trans (x2.block g hg h1)⟩⟩
  · obtain ⟨g, o, hao, hg, c0, c1, c2, c3⟩ := ht i hi
    have hgw := ha g o hao
    have hk := h3 g (by omega)
    exact ⟨g, o, hao, hg, (World.cell?_of_block (a := ⟨g, _, none⟩) hk).trans c0, (World.cell?_of_block (a := ⟨g, _, none⟩) hk).trans c1, (World.cell?_of_block (a := ⟨g, _, none⟩) hk).trans c2, (World.cell?_of_block (a := ⟨g, _, none⟩) hk).trans c3⟩
  rw [h3 g (by omega), x2.block g (by omega) (by omega), x1.block g (by omega), hx.block g hg]
theorem clos_any (tb : Nat) (T : List Tok) (we w : World) (he : Env we) (hx : Ext we w) (hwt : we.heap.size <= tb) (ht : w.heap[tb]? = some zero3) : ReadC readT 47 tb (TreeK tb) T w := by
  intro pb a cap w1 hpb x1 ha hst
  have htl := (Array.getElem?_eq_some_iff.1 ht).1
  have ht1 := (x1.block tb htl).trans ht
  have hsrc := source_any pb a cap T (fun ar f => block_all pb a cap T ar f) (2 * T.length + 3) T (Nat.le_refl _) ⟨#[]⟩ w1 hst
  have HS := Lib.hid hsrc
  have HT1 := Lib.hid ht1
  clear hsrc hst ht1 ht
  obtain ⟨X, hX⟩ : ∃ X, X = readT T := ⟨_, rfl⟩
  rw [<- hX]
  unfold readT at hX
  have HX := Lib.hid hX
  clear hX
  go_enter Tryz.func47, Tryz.ntmps47
  go_wp2_with fail
  have hX1 := HX.out
  have hs1 := HS.out
  rcases hq : pTree (lastL T) (2 * T.length + 3) T with ⟨⟨d, n, L⟩, r⟩ | ⟨ln, er⟩ <;> rw [hq] at hX1 hs1 <;> clear hq HX HS
  · have HX := Lib.hid hX1
    clear hX1
    refine hs1.mono ?_
    rintro e w2 ⟨⟨_, rfl, ⟨b, c, rfl, hsp, hl1, hl2⟩, ar, hs2⟩, x2⟩
    have k0 := but_heap x2 HT1.out (by omega)
    unfold zero3 at k0
    obtain ⟨y0, y1, y2, f0, f1, f2⟩ := three_cells k0
    have HZ := Lib.hid (set_three k0 (.string n) (.bool d) (.slice b L.length c))
    have HSP := Lib.hid hsp; have HS2 := Lib.hid hs2; have X2 := Lib.hid x2
    clear hs1 hsp hs2 x2 k0
    go_wp2
    refine bodyPost_end (results_none rfl _ _ _) rfl ?_
    obtain ⟨F1, F2⟩ := PSt.turned (w3 := ((w2.setCell ⟨tb, 0, none⟩ (.string n)).setCell ⟨tb, 1, none⟩ (.bool d)).setCell ⟨tb, 2, none⟩ (.slice b L.length c)) HS2.out he hx hwt htl hpb x1 ha X2.out
      (fun g hg => by rw [Below.heap_setCell _ _ _ _ hg, Below.heap_setCell _ _ _ _ hg, Below.heap_setCell _ _ _ _ hg]) rfl rfl rfl (by simp)
    rw [HX.out]
    have hl1' := x1.size
    exact ⟨F2, rfl, ⟨b, c, HZ.out, StmsP.keep (fun g hg _ => by
      have hg : w1.heap.size <= g := hg
      have hne : g ≠ tb := by omega
      rw [Below.heap_setCell _ _ _ _ hne, Below.heap_setCell _ _ _ _ hne, Below.heap_setCell _ _ _ _ hne]) (fun g hg _ => hg) L b HSP.out, hl1, hl2⟩, ar, F1⟩
  have HX := Lib.hid hX1
  clear hX1
  refine hs1.mono ?_
  rintro e w2 ⟨rfl, x2⟩
  unfold failE
  go_wp2
  exact ⟨rfl, But.two tb x2, by rw [HX.out]; exact rfl⟩
end Go.Proofs.YtjaeedbjknejdaaGreatDoor.Pa

namespace Go.Proofs.YtjaeedbjknejdaaGreatDoor.Pa
open Go.RowKit Go.Sort Go.Lib Go.Shelf Fx Lx Tr
theorem runT_ok {α : Type} {X : List Tok -> PR α} {s : List UInt8} {v : α} {r : List Tok} (h : runT X s = .ok v r) : (tokenize s).2.2 = 0 /\ X (tokenize s).1 = .ok v [] /\ r = [] := by
  unfold runT at h
  by_cases h0 : (tokenize s).2.2 = 0
  · rw [if_neg (by simpa using h0)] at h
    cases hx : X (tokenize s).1 with
    | ok v' r' =>
      rw [hx, PR.bind_ok] at h
      by_cases hr : r'.isEmpty = true
      · rw [if_pos hr] at h
        injection h with h1 h2
        rw [List.isEmpty_iff.1 hr, h1]
        exact ⟨h0, rfl, h2.symm⟩
      · rw [if_neg hr] at h; cases h
    | err l e => rw [hx, PR.bind_err] at h; cases h
  rw [if_pos h0] at h; cases h
theorem runT_err {α : Type} {X : List Tok -> PR α} {s : List UInt8} (hX : NZ (X (tokenize s).1)) : NZ (runT X s) := by
  unfold runT
  refine NZ.ite (fun h => NZ.err h) (fun _ => NZ.bind hX fun v r _ => NZ.ite (fun _ => NZ.ok) (fun _ => NZ.err (by decide)))
theorem tree_small {s : List UInt8} {t : Bool × ByteArray × List Stm} {r : List Tok} (h : runT readT s = .ok t r) : t.2.1.size + sizeL t.2.2 <= 1048576 := by
  obtain ⟨_, h1, _⟩ := runT_ok h
  have h2 := (wei_tree _ _ _ (tokenize_okT s) t [] h1).1
  have := tokenize_len s
  dsimp only at h2
  omega
def ParseO (w : World) (x : PR (Bool × ByteArray × List Stm)) (e : Ending) (w' : World) : Prop := match x with
  | .ok t _ => ∃ u, e = .returned (.tuple #[u, .int .i64 0, .int .i64 0]) /\ TreeV (w.heap.size <= ·) t u w'
  | .err ln er => e = .returned (.tuple #[.agg #[.string ⟨#[]⟩, .bool false, .slice none 0 0], .int .i64 ln, .int .i64 er])
theorem call_clos (args : Array Value) (w : World) : (callFunc 47 args).run Tryz.prog w = .ok (.enter 47 args) w := by kernel_rfl
theorem tree_results (tmps : Array Value) (w : World) (b : Nat) (c0 c1 c2 : Value) (h2 : tmps.getD 2 undef = .pointer (some ⟨b, 0, none⟩)) (h : w.heap[b]? = some (.cells #[c0, c1, c2] 33 (0, 0))) :
    (results Tryz.f22 tmps).run Tryz.prog w = .ok (.tuple #[.agg #[c0, c1, c2], tmps.getD 3 undef, tmps.getD 4 undef]) w := by
  obtain ⟨y0, y1, y2, _, _, _⟩ := three_cells h
  rw [Array.getD_eq_getD_getElem?] at h2
  simp [results, Tryz.results22, go_sem, h2, y0, y1, y2]
theorem ext_three {w w1 : World} {b : Nat} (h : Ext w w1) (hb : w.heap.size <= b) (u0 u1 u2 : Value) : Ext w (((w1.setCell ⟨b, 0, none⟩ u0).setCell ⟨b, 1, none⟩ u1).setCell ⟨b, 2, none⟩ u2) :=
  Below.setCell (Below.setCell (Below.setCell h (p := ⟨b, 0, none⟩) hb _) (p := ⟨b, 1, none⟩) hb _) (p := ⟨b, 2, none⟩) hb _
theorem parse_any (s : ByteArray) (w : World) (hs : s.size <= 9223372036854775807) (he : Env w) :
    Calls Tryz.prog 22 #[.string s] w fun e w' => ParseO w (pSrc s.data.toList) e w' /\ Ext w w' := by
  have hmf : ∀ (fn : Fn) (first cap : Array Value) (w : World), (Instr.makeFunc fn first cap).run Tryz.prog w = .ok (.func fn first cap) w := fun _ _ _ _ => rfl
  have hx0 : Ext w ((w.alloc zero3).alloc zero3) := ((Ext.refl w).alloc _).alloc _
  have k1 := heap_alloc_new (w.alloc zero3) zero3
  rw [World.size_alloc] at k1
  have k0 := (((Ext.refl (w.alloc zero3)).alloc zero3).block w.heap.size (by simp)).trans (heap_alloc_new w zero3)
  have hrun := run_any readT 47 (w.heap.size + 1) (TreeK (w.heap.size + 1)) s _ hs (he.ext hx0) (by simp) (fun n v w2 w' hn hk hh => treeK_keep _ _ n v w2 w' hn hk hh) call_clos (clos_any (w.heap.size + 1) _ w _ he hx0 (by omega) k1)
  unfold zero3 at hrun hx0 k0 k1
  obtain ⟨X, hX⟩ : ∃ X, X = pSrc s.data.toList := ⟨_, rfl⟩
  rw [<- hX]
  unfold pSrc at hX
  have hnz : NZ (runT readT s.data.toList) := runT_err (nz_tree _ _ _ (Nat.le_refl _))
  rcases hq : runT readT s.data.toList with ⟨⟨d, n, L⟩, r⟩ | ⟨ln, er⟩ <;> rw [hq] at hrun hX hnz
  · have hsm := tree_small hq
    rw [PR.bind_ok] at hX
    dsimp only at hX hsm
    have HX := Lib.hid hX; have HRUN := Lib.hid hrun; have HX0 := Lib.hid hx0; have K0 := Lib.hid k0
    clear hX hrun hx0 k0 k1 hnz hq he
    go_enter Tryz.func22, Tryz.ntmps22
    go_wp2_with (go_at_call 46; refine HRUN.out.mono ?_; rintro e w1 ⟨⟨rfl, b, c, k1, hsp, hl1, hl2⟩, x1⟩; obtain ⟨y0, y1, y2, f0, f1, f2⟩ := three_cells k1; have K1 := Lib.hid k1; have HSP := Lib.hid hsp; have X1 := Lib.hid x1; clear k1 hsp x1)
    have hk0 := (but_heap X1.out K0.out (by omega))
    have HK0 := Lib.hid hk0
    have hst : StmsAt w1.heap.size w1 b L := StmsP.at (ok := (· < w1.heap.size)) (fun g hg => hg) L b (StmsP.keep (fun g _ _ => rfl) (fun g _ hl => hl) L b HSP.out)
    have hv := valid_any n d b L c w1.heap.size w1 (Nat.le_refl _) hst (by omega) (by omega)
    have hX1 := HX.out
    have XW := Lib.hid (But.fresh HX0.out X1.out (by omega))
    have hszw := HX0.out.size
    have hsz1 := X1.out.size
    rw [World.size_alloc, World.size_alloc] at hsz1
    obtain ⟨E, hE⟩ : ∃ E, E = validE n L := ⟨_, rfl⟩
    rw [<- hE] at hv hX1
    clear HX hk0 hst HRUN hE
    by_cases h0 : E = 0
    · rw [if_pos h0] at hX1
      subst h0
      have HX := Lib.hid hX1
      clear hX1
      go_wp2_with (go_at_call 30; refine hv.mono ?_; rintro e w2 ⟨rfl, x2⟩; have k0 := (x2.block w.heap.size (by omega)).trans HK0.out; have k1 := (x2.block (w.heap.size + 1) (by omega)).trans K1.out; obtain ⟨y0, y1, y2, f0, f1, f2⟩ := three_cells k0; obtain ⟨z0, z1, z2, g0, g1, g2⟩ := three_cells k1; replace k0 := Lib.hid k0; replace k1 := Lib.hid k1; have X2 := Lib.hid x2; clear x2)
      have HZ := set_three k0.out (.string n) (.bool d) (.slice b L.length c)
      refine bodyPost_ret (tree_results _ _ w.heap.size (.string n) (.bool d) (.slice b L.length c) rfl HZ) rfl ?_
      rw [HX.out]
      refine ⟨⟨_, rfl, b, c, rfl, StmsP.keep (fun g hg hl => ?_) (fun g hg _ => ?_) L b HSP.out, hl1, hl2⟩, ext_three (XW.out.trans X2.out) (Nat.le_refl _) _ _ _⟩
      · have hg : ((w.alloc (.cells #[.string ⟨#[]⟩, .bool false, .slice none 0 0] 33)).alloc (.cells #[.string ⟨#[]⟩, .bool false, .slice none 0 0] 33)).heap.size <= g := hg
        rw [World.size_alloc, World.size_alloc] at hg
        have hne : g ≠ w.heap.size := by omega
        rw [Below.heap_setCell _ _ _ _ hne, Below.heap_setCell _ _ _ _ hne, Below.heap_setCell _ _ _ _ hne]
        exact X2.out.block g hl
      have hg : ((w.alloc (.cells #[.string ⟨#[]⟩, .bool false, .slice none 0 0] 33)).alloc (.cells #[.string ⟨#[]⟩, .bool false, .slice none 0 0] 33)).heap.size <= g := hg
      rw [World.size_alloc, World.size_alloc] at hg
      show w.heap.size <= g
      omega
    rw [if_neg h0] at hX1
    have HX := Lib.hid hX1
    clear hX1
    go_wp2_with (go_at_call 30; refine hv.mono ?_; rintro e w2 ⟨rfl, x2⟩; have k0 := (x2.block w.heap.size (by omega)).trans HK0.out; obtain ⟨y0, y1, y2, f0, f1, f2⟩ := three_cells k0; replace k0 := Lib.hid k0; have X2 := Lib.hid x2; clear x2)
    have HZ := set_three k0.out (.string ⟨#[]⟩) (.bool false) (.slice none 0 0)
    refine bodyPost_ret (tree_results _ _ w.heap.size (.string ⟨#[]⟩) (.bool false) (.slice none 0 0) rfl HZ) rfl ?_
    rw [HX.out]
    exact ⟨rfl, ext_three (XW.out.trans X2.out) (Nat.le_refl _) _ _ _⟩
  have hne := hnz ln er rfl
  rw [PR.bind_err] at hX
  have HX := Lib.hid hX; have HRUN := Lib.hid hrun; have HX0 := Lib.hid hx0; have K0 := Lib.hid k0
  clear hX hrun hx0 k0 k1 hnz hq he
  go_enter Tryz.func22, Tryz.ntmps22
  go_wp2_with (go_at_call 46; refine HRUN.out.mono ?_; rintro e w1 ⟨rfl, x1⟩; have k0 := but_heap x1 K0.out (by omega); obtain ⟨y0, y1, y2, f0, f1, f2⟩ := three_cells k0; have X1 := Lib.hid x1; replace k0 := Lib.hid k0; clear x1)
  have HZ := set_three k0.out (.string ⟨#[]⟩) (.bool false) (.slice none 0 0)
  refine bodyPost_ret (tree_results _ _ w.heap.size (.string ⟨#[]⟩) (.bool false) (.slice none 0 0) rfl HZ) rfl ?_
  rw [HX.out]
  exact ⟨rfl, ext_three (But.fresh HX0.out X1.out (by omega)) (Nat.le_refl _) _ _ _⟩
end Go.Proofs.YtjaeedbjknejdaaGreatDoor.Pa

namespace Go.Proofs.YtjaeedbjknejdaaGreatDoor.Pa
open Go.RowKit Go.Sort Go.Lib Go.Shelf Fx Lx Tr
theorem TreeV.parts {m : Nat} {t : Bool × ByteArray × List Stm} {u : Value} {w : World} (h : TreeV (m <= ·) t u w) : ∃ b cap, u = .agg #[.string t.2.1, .bool t.1, .slice b t.2.2.length cap] /\ StmsAt w.heap.size w b t.2.2 := by
  obtain ⟨b, cap, rfl, hsp, _⟩ := h
  exact ⟨b, cap, rfl, StmsP.at (ok := (· < w.heap.size)) (fun g hg => hg) _ b (StmsP.keep (fun g _ _ => rfl) (fun g _ hl => hl) _ b hsp)⟩
theorem tail_pos (ln : Int) (a : List Two) : 1 <= (tailToks ln a).length := by
  unfold tailToks; rw [List.length_append]; simp
mutual
theorem toksS_ge (d : Bool) : ∀ (x : Stm) (ln : Int), AllS okS x -> fuelS x <= 2 * (toksS d ln x).length /\ 1 <= (toksS d ln x).length
  | .mk k n r a b, ln, h => by
    rw [AllS] at h
    obtain ⟨⟨hfm, _⟩, hb⟩ := h
    rw [fuelS]
    rcases form_parts k n r a b hfm with ⟨rfl, rfl, rfl⟩ | ⟨rfl, rfl, rfl, h2⟩ | ⟨rfl, rfl, rfl, h3⟩ | ⟨rfl, rfl, rfl, v, rfl⟩ | ⟨rfl, rfl, rfl⟩
    · rw [toksS_1, List.length_cons, fuelL]
      have := tail_pos ln a
      omega
    · rw [toksS_2, List.length_append, fuelL]
      have := tail_pos ln a
      have hs : 1 <= (sepToks (mk (arrowM d) ln) (r.map (refToks ln))).length := by
        match r, h2 with
        | q :: q2 :: l, _ =>
          rw [List.map_cons, sepToks_cons]
          unfold refToks
          rw [List.cons_append, List.length_cons]; omega
      omega
    · rw [toksS_3, List.length_cons, List.length_append, fuelL]
      simp only [List.length_cons, List.length_nil]
      omega
    · rw [toksS_4, fuelL]
      simp
    · rw [toksS_5, List.length_cons, List.length_cons, List.length_cons, List.length_append]
      have := toksL_ge d b (ln + 1) hb
      omega
theorem toksL_ge (d : Bool) : ∀ (X : List Stm) (ln : Int), AllL okS X -> fuelL X <= 2 * (toksL d ln X).length + 1
  | [], ln, _ => by rw [fuelL]; omega
  | x :: r, ln, h => by
    rw [AllL] at h
    have h1 := toksS_ge d x ln h.1
    have h2 := toksL_ge d r (ln + linesS x) h.2
    rw [fuelL, toksL, List.length_append]
    omega
end
theorem src_print (d : Bool) (nm : ByteArray) (L : List Stm) (hv : validE nm L = 0) (hl : (printT d nm L).length <= 16384) : pSrc (printT d nm L) = .ok (d, nm, L) [] := by
  have ht := tokenize_tree d nm L hv hl
  obtain ⟨_, _, _, h4⟩ := valid_ok nm L hv
  have hg := toksL_ge d L 2 h4
  have hlen : (toksT d nm L).length = (toksL d 2 L).length + 4 := by
    unfold toksT; simp
  have hr : runT readT (printT d nm L) = .ok (d, nm, L) [] := by
    unfold runT
    rw [ht, if_neg (by simp)]
    dsimp only
    unfold readT
    rw [pTree_tok _ d nm L _ hv (by rw [hlen]; omega), PR.bind_ok]
    rfl
  unfold pSrc
  rw [hr, PR.bind_ok, if_pos hv]
end Go.Proofs.YtjaeedbjknejdaaGreatDoor.Pa

namespace Go.Proofs.YtjaeedbjknejdaaGreatDoor.Ex
open Go Go.RowKit Go.Sort Go.Lib Go.Shelf Fx Lx Tr At Pa Go.Proofs.YtjaeedbjknejdaaGreatDoor.Nm
theorem text_ok {g : Gr} {o : Op5} {S : List UInt8} (h : textG g o = .ok S) : ∃ B, treeT g o = .ok B /\ S = printT g.dir g.name B /\ S.length <= 16384 := by
  unfold textG at h
  split at h
  · cases h
  rename_i B hB
  split at h
  · cases h
  rename_i h2
  injection h with h
  subst h
  exact ⟨B, hB, rfl, by omega⟩
theorem text_err {g : Gr} {o : Op5} {n : Int} (h : textG g o = .error n) : n ≠ 0 := by
  unfold textG at h
  split at h
  · rename_i m hm
    injection h with h
    subst h
    exact tree_err hm
  split at h
  · injection h with h; subst h; decide
  cases h
theorem reads_card (v v2 : Value) (w : World) (hv : GrArg w v) (hv2 : OpArg w v2) (he : Env w) : Calls Tryz.prog 6 #[v, v2] w fun e w' => e = .returned (.bool true) /\ Ext w w' := by
  obtain ⟨g, na, ea, ca, nac, eac, cac, rfl, ha, hcp, hz0, hz1, hz2, hz3⟩ := hv
  obtain ⟨o, rfl⟩ := hv2
  have hfw := fun (w5 : World) (x : Ext w w5) => few_any g na ea ca nac eac cac w5 (ha.ext x)
  have hawk := fun (w5 : World) (x : Ext w w5) => awake_any w5 (he.ext x)
  have hsm := fun (hf : fewG g = true) => few_small hf hz0 hz1 hz2 hz3
  have hp := fun (hf : fewG g = true) (w5 : World) (x : Ext w w5) => textP_all g na ea ca nac eac cac o w5 (ha.ext x) (hcp.ext ha x) (hsm hf) (he.ext x)
  have hq := fun (hf : fewG g = true) (w5 : World) (x : Ext w w5) => treeP_all g na ea ca nac eac cac o w5 (ha.ext x) (hcp.ext ha x) (hsm hf) (he.ext x)
  obtain ⟨F, hF⟩ : ∃ F, F = fewG g := ⟨_, rfl⟩
  simp only [<- hF] at hfw
  rw [<- hF] at hp hq
  cases F with
  | false =>
    have HFW := Lib.hid hfw; have HAWK := Lib.hid hawk
    clear hfw hawk ha hcp hz0 hz1 hz2 hz3 hsm he hp hq hF
    obtain ⟨mo, ns, rs, mg, rd⟩ := o
    unfold opV
    dsimp only
    generalize g.name = GN at *
    generalize g.dir = GD at *
    generalize g.N.length = NL at *
    generalize g.E.length = EL at *
    generalize g.C.length = CL at *
    have X0 : Hid (Ext w ((w.alloc (.cells #[.string GN, .bool GD, .slice na NL nac, .slice ea EL eac, .slice ca CL cac] 26)).alloc (.cells #[.int .i64 mo, .int .i64 ns, .int .i64 rs, .int .i64 mg, .int .i64 rd] 28))) := Lib.hid (((Ext.refl _).alloc _).alloc _)
    have HG0 : Hid (((w.alloc (.cells #[.string GN, .bool GD, .slice na NL nac, .slice ea EL eac, .slice ca CL cac] 26)).alloc (.cells #[.int .i64 mo, .int .i64 ns, .int .i64 rs, .int .i64 mg, .int .i64 rd] 28)).heap[w.heap.size]? = some (.cells #[.string GN, .bool GD, .slice na NL nac, .slice ea EL eac, .slice ca CL cac] 26 (0, 0))) := Lib.hid (At.heap_ext (heap_alloc_new w _) ((Ext.refl _).alloc _))
    have HO0 : Hid (((w.alloc (.cells #[.string GN, .bool GD, .slice na NL nac, .slice ea EL eac, .slice ca CL cac] 26)).alloc (.cells #[.int .i64 mo, .int .i64 ns, .int .i64 rs, .int .i64 mg, .int .i64 rd] 28)).heap[w.heap.size + 1]? = some (.cells #[.int .i64 mo, .int .i64 ns, .int .i64 rs, .int .i64 mg, .int .i64 rd] 28 (0, 0))) := Lib.hid (new2 _ _ _ (by simp))
    go_enter Tryz.func6, Tryz.ntmps6
    go_wp2_with (first
      | (go_at_call 8; refine Calls.mono (by exact HFW.out _ X0.out) ?_; rintro e w1 ⟨rfl, x1⟩; have X1 := Lib.hid (X0.out.trans x1))
      | (go_at_call 9; refine Calls.mono (by exact HAWK.out _ X1.out) ?_; rintro e w2 ⟨rfl, x2⟩))
    go_returns
    exact ⟨rfl, X1.out.trans x2⟩
  | true =>
    have hp := hp rfl
    have hq := hq rfl
    obtain ⟨T, hT⟩ : ∃ T, T = textG g o := ⟨_, rfl⟩
    rw [<- hT] at hp
    cases T with
    | error n =>
      have hp1 : ∀ (w5 : World), Ext w w5 -> Calls Tryz.prog 13 #[.agg #[.string g.name, .bool g.dir, .slice na g.N.length nac, .slice ea g.E.length eac, .slice ca g.C.length cac], opV o] w5 fun e w' => e = .returned (.tuple #[.string ⟨#[]⟩, .int .i64 n]) /\ Ext w5 w' := hp
      obtain ⟨f1, f2⟩ := nfacts (text_err hT.symm)
      have HFW := Lib.hid hfw; have HAWK := Lib.hid hawk
      clear hF hsm hz0 hz1 hz2 hz3 hcp ha he hp hq hfw hawk hT
      obtain ⟨mo, ns, rs, mg, rd⟩ := o
      unfold opV at hp1 ⊢
      dsimp only at hp1 ⊢
      generalize g.name = GN at *
      generalize g.dir = GD at *
      generalize g.N.length = NL at *
      generalize g.E.length = EL at *
      generalize g.C.length = CL at *
      have X0 : Hid (Ext w ((w.alloc (.cells #[.string GN, .bool GD, .slice na NL nac, .slice ea EL eac, .slice ca CL cac] 26)).alloc (.cells #[.int .i64 mo, .int .i64 ns, .int .i64 rs, .int .i64 mg, .int .i64 rd] 28))) := Lib.hid (((Ext.refl _).alloc _).alloc _)
      have HG0 : Hid (((w.alloc (.cells #[.string GN, .bool GD, .slice na NL nac, .slice ea EL eac, .slice ca CL cac] 26)).alloc (.cells #[.int .i64 mo, .int .i64 ns, .int .i64 rs, .int .i64 mg, .int .i64 rd] 28)).heap[w.heap.size]? = some (.cells #[.string GN, .bool GD, .slice na NL nac, .slice ea EL eac, .slice ca CL cac] 26 (0, 0))) := Lib.hid (At.heap_ext (heap_alloc_new w _) ((Ext.refl _).alloc _))
      have HO0 : Hid (((w.alloc (.cells #[.string GN, .bool GD, .slice na NL nac, .slice ea EL eac, .slice ca CL cac] 26)).alloc (.cells #[.int .i64 mo, .int .i64 ns, .int .i64 rs, .int .i64 mg, .int .i64 rd] 28)).heap[w.heap.size + 1]? = some (.cells #[.int .i64 mo, .int .i64 ns, .int .i64 rs, .int .i64 mg, .int .i64 rd] 28 (0, 0))) := Lib.hid (new2 _ _ _ (by simp))
      have HP := Lib.hid hp1
      clear hp1
      go_enter Tryz.func6, Tryz.ntmps6
      go_wp2_with (first
        | (go_at_call 8; refine Calls.mono (by exact HFW.out _ X0.out) ?_; rintro e w1 ⟨rfl, x1⟩; have X1 := Lib.hid (X0.out.trans x1); have HG1 := Lib.hid (At.heap_ext HG0.out x1); have HO1 := Lib.hid (At.heap_ext HO0.out x1); obtain ⟨a0, a1, a2, a3, a4⟩ := cells5g HG1.out; obtain ⟨b0, b1, b2, b3, b4⟩ := cells5g HO1.out)
        | (go_at_call 13; refine Calls.mono (by with_reducible exact HP.out _ X1.out) ?_; rintro e w2 ⟨rfl, x2⟩; have X2 := Lib.hid (X1.out.trans x2))
        | (go_at_call 9; refine Calls.mono (by with_reducible exact HAWK.out _ X2.out) ?_; rintro e w3 ⟨rfl, x3⟩))
      go_returns
      exact ⟨rfl, X2.out.trans x3⟩
    | ok S =>
      obtain ⟨B, hB, hS, hSl⟩ := text_ok hT.symm
      rw [hB] at hq
      obtain ⟨-, -, -, hv, -, -, -, hcn⟩ := tree_ok hB
      obtain ⟨SB, hSB⟩ : ∃ s : ByteArray, s = ⟨S.toArray⟩ := ⟨_, rfl⟩
      have hps := fun (w5 : World) (x : Ext w w5) => parse_any SB w5 (by rw [hSB]; show S.toArray.size <= _; simp; omega) (he.ext x)
      have hsr : pSrc SB.data.toList = .ok (g.dir, g.name, B) [] := by
        rw [hSB]
        show pSrc S.toArray.toList = _
        rw [List.toList_toArray, hS]
        exact src_print g.dir g.name B hv (by rw [<- hS]; exact hSl)
      rw [hsr] at hps
      have hp1 : ∀ (w5 : World), Ext w w5 -> Calls Tryz.prog 13 #[.agg #[.string g.name, .bool g.dir, .slice na g.N.length nac, .slice ea g.E.length eac, .slice ca g.C.length cac], opV o] w5 fun e w' => e = .returned (.tuple #[.string SB, .int .i64 0]) /\ Ext w5 w' := by rw [hSB]; exact hp
      have hq1 := fun (w5 : World) (x : Ext w w5) => (hq w5 x).mono (fun e w' h => And.intro (treeR_ok h.1) h.2)
      have heq := fun (w5 : World) (a b : Option Addr) (c1 c2 : Nat) (h1 : StmsAt w5.heap.size w5 a B) (h2 : StmsAt w5.heap.size w5 b B) => eqlT_any g.name g.dir B a b c1 c2 w5.heap.size w5 (by omega) (Nat.le_refl _) h1 h2
      obtain ⟨f1, f2⟩ := efacts 0
      have HFW := Lib.hid hfw; have HAWK := Lib.hid hawk; have HEQ := Lib.hid heq; have HPS := Lib.hid hps
      clear hF hsm hz0 hz1 hz2 hz3 hcp ha he hp hq hfw hawk hT heq hps hsr hv hcn hS hSB hB hSl
      obtain ⟨mo, ns, rs, mg, rd⟩ := o
      unfold opV at hp1 hq1 ⊢
      dsimp only at hp1 hq1 ⊢
      generalize g.name = GN at *
      generalize g.dir = GD at *
      generalize g.N.length = NL at *
      generalize g.E.length = EL at *
      generalize g.C.length = CL at *
      have X0 : Hid (Ext w ((w.alloc (.cells #[.string GN, .bool GD, .slice na NL nac, .slice ea EL eac, .slice ca CL cac] 26)).alloc (.cells #[.int .i64 mo, .int .i64 ns, .int .i64 rs, .int .i64 mg, .int .i64 rd] 28))) := Lib.hid (((Ext.refl _).alloc _).alloc _)
      have HG0 : Hid (((w.alloc (.cells #[.string GN, .bool GD, .slice na NL nac, .slice ea EL eac, .slice ca CL cac] 26)).alloc (.cells #[.int .i64 mo, .int .i64 ns, .int .i64 rs, .int .i64 mg, .int .i64 rd] 28)).heap[w.heap.size]? = some (.cells #[.string GN, .bool GD, .slice na NL nac, .slice ea EL eac, .slice ca CL cac] 26 (0, 0))) := Lib.hid (At.heap_ext (heap_alloc_new w _) ((Ext.refl _).alloc _))
      have HO0 : Hid (((w.alloc (.cells #[.string GN, .bool GD, .slice na NL nac, .slice ea EL eac, .slice ca CL cac] 26)).alloc (.cells #[.int .i64 mo, .int .i64 ns, .int .i64 rs, .int .i64 mg, .int .i64 rd] 28)).heap[w.heap.size + 1]? = some (.cells #[.int .i64 mo, .int .i64 ns, .int .i64 rs, .int .i64 mg, .int .i64 rd] 28 (0, 0))) := Lib.hid (new2 _ _ _ (by simp))
      have HP := Lib.hid hp1; have HQ := Lib.hid hq1
      clear hp1 hq1
      go_enter Tryz.func6, Tryz.ntmps6
      go_wp2_with (first
        | (go_at_call 8; refine Calls.mono (by exact HFW.out _ X0.out) ?_; rintro e w1 ⟨rfl, x1⟩; have X1 := Lib.hid (X0.out.trans x1); have HG1 := Lib.hid (At.heap_ext HG0.out x1); have HO1 := Lib.hid (At.heap_ext HO0.out x1); obtain ⟨a0, a1, a2, a3, a4⟩ := cells5g HG1.out; obtain ⟨b0, b1, b2, b3, b4⟩ := cells5g HO1.out)
        | (go_at_call 13; refine Calls.mono (by with_reducible exact HP.out _ X1.out) ?_; rintro e w2 ⟨rfl, x2⟩; have X2 := Lib.hid (X1.out.trans x2); have HG2 := Lib.hid (At.heap_ext HG0.out (x1.trans x2)); have HO2 := Lib.hid (At.heap_ext HO0.out (x1.trans x2)); obtain ⟨a0, a1, a2, a3, a4⟩ := cells5g HG2.out; obtain ⟨b0, b1, b2, b3, b4⟩ := cells5g HO2.out)
        | (go_at_call 10; refine Calls.mono (by with_reducible exact HQ.out _ X2.out) ?_; rintro e w3 ⟨⟨p1, q1, rfl, hs1, -, -⟩, x3⟩; have X3 := Lib.hid (X2.out.trans x3); have HS1 := Lib.hid hs1; clear hs1 x3)
        | (go_at_call 22; refine Calls.mono (by exact HPS.out _ (X3.out.alloc _)) ?_; rintro e w4 ⟨⟨_, rfl, hu⟩, x4⟩; obtain ⟨p2, q2, rfl, hst2⟩ := hu.parts; have HS2 := Lib.hid hst2; have X4 := Lib.hid ((X3.out.alloc _).trans x4); have Y4 := Lib.hid (((Ext.refl w3).alloc (.cells #[.string GN, .bool GD, .slice p1 B.length q1] 33)).trans x4); have HT4 := Lib.hid (At.heap_ext (heap_alloc_new w3 (.cells #[.string GN, .bool GD, .slice p1 B.length q1] 33)) x4); obtain ⟨c0, c1, c2, -⟩ := cells3t (At.heap_ext HT4.out ((Ext.refl w4).alloc (.cells #[.string GN, .bool GD, .slice p2 B.length q2] 33))); dsimp only; clear hu hst2 x4)
        | (go_at_call 12; refine Calls.mono (by exact HEQ.out _ _ _ _ _ (stms_up HS1.out (Y4.out.alloc _)) (stms_up HS2.out ((Ext.refl w4).alloc _))) ?_; rintro e w5 ⟨rfl, x5⟩; have X5 := Lib.hid ((X4.out.alloc _).trans x5))
        | (go_at_call 9; refine Calls.mono (by with_reducible exact HAWK.out _ X5.out) ?_; rintro e w6 ⟨rfl, x6⟩))
      go_returns
      exact ⟨rfl, X5.out.trans x6⟩
end Go.Proofs.YtjaeedbjknejdaaGreatDoor.Ex
