/- Packed texts: TopStrong, TopOrd4, TopValR -/
import Derived.Test.YtjjcjoedgmfalaaPt06
import Derived.Deep.RegionHeld3
import Derived.Deep.CutRange
import Derived.Test.YtjjcjoedgmfalaaPt05
import Derived.Test.YtjjcjoedgmfalaaPt02
set_option linter.unusedVariables false
set_option linter.unusedSimpArgs false
/- topo.Strong. -/
namespace Go.Proofs.Ytjjcjoedgmfalaa.Tp
open Go.RowKit Go.Sort Go.Lib Fx

def st0 (N : Nat) : St := ⟨List.replicate N 0, List.replicate N 0, List.replicate N false, [], [], 0⟩
theorem repl_getD {α : Type} (N u : Nat) (x : α) : (List.replicate N x).getD u x = x := by
  rw [List.getD_eq_getElem?_getD]
  by_cases h : u < N
  · simp [h]
  · simp [h]
theorem inv0 (N : Nat) (A : Arcs) : Inv N A [] (st0 N) where
  li := by simp [st0]
  ll := by simp [st0]
  lb := by simp [st0]
  num := by simp [st0]
  on_ := fun u => by unfold onS st0; rw [repl_getD]; simp
  lt := fun u hu => by cases hu
  asc := .nil
  pos := fun u hu => by cases hu
  le := fun u => by unfold ix st0; rw [repl_getD]; exact Nat.le_refl _
  seen := fun u hu => absurd (by unfold ix st0; rw [repl_getD]) hu
  fnd := fun c hc => by cases hc
  clo := fun c hc => by cases hc
  scc := fun c hc => by cases hc
  dis := .nil
  gr := fun u hu => by cases hu
  blk := fun u hu => by cases hu
  fwd := fun a ha => by cases ha
  back := fun y hy => by cases hy
theorem heap_new' {w : World} {o : Obj} {b : Nat} (e : b = w.heap.size) : (w.alloc o).heap[b]? = some o ↔ True := by
  subst e; exact ⟨fun _ => trivial, fun _ => heap_alloc_new w o⟩
theorem wlk0 {w1 w4 wx : World} {N : Nat} {A : Arcs} {bw nb bi bl bo : Nat} (hn : NextIn w4 nb N A) (hb : w1.heap.size ≤ nb) (x4 : Ext w1 w4) (x : Ext w4 wx)
    (hW : wx.heap[bw]? = some (.cells #[.slice (some ⟨nb, 0, none⟩) N N, .slice (some ⟨bi, 0, none⟩) N N, .slice (some ⟨bl, 0, none⟩) N N, .slice (some ⟨bo, 0, none⟩) N N, .slice none 0 0, .slice none 0 0] 43 (0, 0)))
    (hI : wx.heap[bi]? = some (.cells (madeCells #[.int .i64 0] N) 3 (0, 0))) (hL : wx.heap[bl]? = some (.cells (madeCells #[.int .i64 0] N) 3 (0, 0))) (hO : wx.heap[bo]? = some (.cells (madeCells #[.bool false] N) 4 (0, 0)))
    (wi : bw ≠ bi) (wl : bw ≠ bl) (wo : bw ≠ bo) (il : bi ≠ bl) (io : bi ≠ bo) (lo : bl ≠ bo) (gw : w1.heap.size ≤ bw) (gi : w1.heap.size ≤ bi) (gl : w1.heap.size ≤ bl) (go : w1.heap.size ≤ bo)
    (aw : bw < nb ∨ w4.heap.size ≤ bw) (ai : bi < nb ∨ w4.heap.size ≤ bi) (al : bl < nb ∨ w4.heap.size ≤ bl) (ao : bo < nb ∨ w4.heap.size ≤ bo) :
    WLie w1 w4 N A bw nb bi bl bo wx.heap.size ∧ Wlk w1 w4 N bw nb bi bl bo wx.heap.size wx (.slice none 0 0) (.slice none 0 0) (st0 N) := by
  have lt : ∀ {b : Nat} {o : Obj}, wx.heap[b]? = some o → b < wx.heap.size := fun h => (Array.getElem?_eq_some_iff.1 h).1
  refine ⟨⟨wi, wl, wo, il, io, lo, gw, gi, gl, go, aw, ai, al, ao, lt hW, lt hI, lt hL, lt hO, x.size, (x4.trans x).size, hn⟩, ⟨hW, ?_, ?_, ?_, ⟨by simp [st0, iv, zl], .inl ⟨rfl, rfl⟩⟩, ⟨[], ⟨by simp [st0], .inl ⟨rfl, rfl⟩⟩, fun j hj => absurd hj (by simp [st0])⟩, .inl rfl, Keep.of x, x4.trans x, Nat.le_refl _⟩⟩
  · show BlkI wx bi (zl (List.replicate N 0))
    unfold BlkI iv zl; rw [hI, made_eq]; simp
  · show BlkI wx bl (zl (List.replicate N 0))
    unfold BlkI iv zl; rw [hL, made_eq]; simp
  · show BlkB wx bo (List.replicate N false)
    unfold BlkB bv; rw [hO, made_eq]; simp
theorem heap_in {w : World} {o o' : Obj} {b : Nat} (h : w.heap[b]? = some o') : (w.alloc o).heap[b]? = some o' := heap_ext h ((Ext.refl w).alloc o)
theorem heap_dr {w : World} {o' : Obj} {b : Nat} (h : w.heap[b]? = some o') : w.drew.heap[b]? = some o' := h
theorem heap_nw {w : World} {o : Obj} {b : Nat} (e : b = w.heap.size) : (w.alloc o).heap[b]? = some o := by subst e; exact heap_alloc_new w o

theorem size_drew (w : World) : w.drew.heap.size = w.heap.size := rfl
theorem wlk1 {w1 w4 wx : World} {N : Nat} {A : Arcs} {nb : Nat} (hn : NextIn w4 nb N A) (hb : w1.heap.size ≤ nb) (x4 : Ext w1 w4) {s3 : Value} {bw bi bl bo : Nat} (e3 : s3 = .pointer (some ⟨bw, 0, none⟩))
    (hW : wx.heap[bw]? = some (.cells #[.slice (some ⟨nb, 0, none⟩) N N, .slice (some ⟨bi, 0, none⟩) N N, .slice (some ⟨bl, 0, none⟩) N N, .slice (some ⟨bo, 0, none⟩) N N, .slice none 0 0, .slice none 0 0] 43 (0, 0)))
    (hI : wx.heap[bi]? = some (.cells (madeCells #[.int .i64 0] N) 3 (0, 0))) (hL : wx.heap[bl]? = some (.cells (madeCells #[.int .i64 0] N) 3 (0, 0))) (hO : wx.heap[bo]? = some (.cells (madeCells #[.bool false] N) 4 (0, 0)))
    (x : Ext w4 wx)
    (far : (bw ≠ bi ∧ bw ≠ bl ∧ bw ≠ bo ∧ bi ≠ bl ∧ bi ≠ bo ∧ bl ≠ bo) ∧ (w1.heap.size ≤ bw ∧ w1.heap.size ≤ bi ∧ w1.heap.size ≤ bl ∧ w1.heap.size ≤ bo) ∧ (bw < nb ∨ w4.heap.size ≤ bw) ∧ (bi < nb ∨ w4.heap.size ≤ bi) ∧ (bl < nb ∨ w4.heap.size ≤ bl) ∧ (bo < nb ∨ w4.heap.size ≤ bo)) :
    ∃ bw nb bi bl bo w4, s3 = .pointer (some ⟨bw, 0, none⟩) ∧ Hid (WLie w1 w4 N A bw nb bi bl bo wx.heap.size) ∧ Hid (Wlk w1 w4 N bw nb bi bl bo wx.heap.size wx (.slice none 0 0) (.slice none 0 0) (st0 N)) := by
  obtain ⟨⟨d1, d2, d3, d4, d5, d6⟩, ⟨d7, d8, d9, d10⟩, d11, d12, d13, d14⟩ := far
  have h := wlk0 hn hb x4 x hW hI hL hO d1 d2 d3 d4 d5 d6 d7 d8 d9 d10 d11 d12 d13 d14
  exact ⟨bw, nb, bi, bl, bo, w4, e3, Lib.hid h.1, Lib.hid h.2⟩

set_option maxHeartbeats 8000000 in
set_option maxRecDepth 100000 in
theorem strongB_any (N : Nat) (a : Option Addr) (A : Arcs) (cap : Nat) (w : World) (hN : N ≤ 64) (h : ArcIn w a (zarc A)) (hA : A.length ≤ 256) (ok : Ok N A) :
    Calls Try.prog 14 #[.agg #[.int .i64 N, .slice a A.length cap]] w fun e w' => (∃ fa fc, e = .returned (.slice fa (strongT N A).length fc) ∧ RowsB w' w.heap.size fa ((strongT N A).map zl)) ∧ Ext w w' := by
  have hval := fun w1 (x : Ext w w1) => valid_any N a (zarc A) cap w1 (by omega) (by omega) (h.ext x) (zarc_ok hN ok) (by rw [zarc_len]; omega)
  rw [valid_ok hN hA ok, zarc_len] at hval
  have hhd := fun w1 (x : Ext w w1) => heads_any N a A cap w1 hN (h.ext x) hA ok
  obtain ⟨M, hM⟩ : ∃ M, M = A.length := ⟨_, rfl⟩
  rw [← hM] at hval hhd ⊢
  have hm1 := run_make_row' (P := Try.prog) 26 3 (.int .i64 0) 8 Try.underlying26 info_int rfl .i64 .i64 N (by omega) (by omega)
  have hm2 := run_make_row' (P := Try.prog) 39 4 (.bool false) 1 Try.underlying39 info_bool rfl .i64 .i64 N (by omega) (by omega)
  have HV := Lib.hid hval; have HH := Lib.hid hhd; have HOK := Lib.hid ok; have HA := Lib.hid hA; have HM := Lib.hid hM
  clear h hM hval hhd ok hA
  go_enter Try.func14, Try.ntmps14
  go_wp2_with (go_at_call 22; refine (HV.out _ ((Ext.refl _).alloc _)).mono ?_; rintro e w1 ⟨rfl, x1⟩; have b1 := box_at x1; have b10 := b1.1; have b11 := b1.2; have X1 : Ext w w1 := ((Ext.refl _).alloc _).trans x1)
  clear b1 x1
  go_cut [3] from 9 to 21 (fun s3 wx => ∃ bw nb bi bl bo w4, s3 = .pointer (some ⟨bw, 0, none⟩) ∧ Hid (WLie w1 w4 N A bw nb bi bl bo wx.heap.size) ∧ Hid (Wlk w1 w4 N bw nb bi bl bo wx.heap.size wx (.slice none 0 0) (.slice none 0 0) (st0 N)))
  case first =>
    go_region_held3 (fun w' => w'.cell? ⟨w.heap.size, 0, none⟩ = some (.int .i64 N) ∧ w'.cell? ⟨w.heap.size, 1, none⟩ = some (.slice a M cap)) (refine ⟨Ext.cell (w := w1) ?_ b10, Ext.cell (w := w1) ?_ b11⟩ <;> (repeat (first | assumption | exact Ext.refl _ | refine Ext.alloc ?_ _ | refine Ext.drew ?_))) (first | (go_at_call 23; refine (HH.out _ (by (repeat (first | assumption | exact Ext.refl _ | refine Ext.alloc ?_ _ | refine Ext.drew ?_)))).mono ?_; rintro e w2 ⟨nb, rfl, hn, hb, x2⟩; have X2 : Ext w1 w2 := Ext.trans (by (repeat (first | assumption | exact Ext.refl _ | refine Ext.alloc ?_ _ | refine Ext.drew ?_))) x2; have XX2 := X1.trans X2))
    all_goals (
      go_wp2_with fail
      go_meet
      have s2 := x2.size
      (try simp only [World.size_alloc, size_drew] at s2)
      (try simp only [World.size_alloc, size_drew] at hb)
      apply wlk1 (A := A) hn (by omega) X2
      · rfl
      · (refine heap_nw ?_; first | rfl | (simp only [World.size_alloc, size_drew]; done))
      · repeat (first | (refine heap_nw ?_; first | rfl | (simp only [World.size_alloc, size_drew]; done)) | refine heap_in ?_ | refine heap_ext ?_ x2)
      · repeat (first | (refine heap_nw ?_; first | rfl | (simp only [World.size_alloc, size_drew]; done)) | refine heap_in ?_ | refine heap_ext ?_ x2)
      · repeat (first | (refine heap_nw ?_; first | rfl | (simp only [World.size_alloc, size_drew]; done)) | refine heap_in ?_ | refine heap_ext ?_ x2)
      · repeat (first | assumption | exact Ext.refl _ | refine Ext.alloc ?_ _ | refine Ext.drew ?_)
      · refine ⟨⟨?_, ?_, ?_, ?_, ?_, ?_⟩, ⟨?_, ?_, ?_, ?_⟩, ?_, ?_, ?_, ?_⟩ <;> omega)
  case rest =>
    obtain ⟨bw, nb, bi, bl, bo, w4, rfl, hlie, hwk⟩ := hcut
    obtain ⟨B, hB⟩ : ∃ B, B = wc.heap.size := ⟨_, rfl⟩
    rw [← hB] at hlie hwk
    have b20 := hwk.out.X.cell b10
    clear hB b10 b11 hm1 hm2 HV HH
    go_wp2
    clear b20
    go_loopw [4, 24] (fun c' i' wr => ∃ (k : Nat) (s : St) (sv fv : Value), k ≤ N ∧ i' = .int .i64 k ∧ c' = .int .i64 s.cnt ∧ Hid (Inv N A [] s) ∧ Hid (∀ u, u < k → ix s u ≠ 0) ∧ Hid (Wlk w1 w4 N bw nb bi bl bo B wr sv fv s)) (fun _ i' _ => N - (RowKit.intOf i').toNat)
    case atStart => exact ⟨0, st0 N, _, _, Nat.zero_le _, rfl, rfl, Lib.hid (inv0 N A), Lib.hid (fun u hu => absurd hu (Nat.not_lt_zero u)), hwk⟩
    case round =>
      obtain ⟨k, s, sv, fv, hk, rfl, rfl, hi, hseen, hW⟩ := hrel
      obtain ⟨c0, c1, c2, c3, c4, c5⟩ := hW.out.cells
      have hcn : s.cnt ≤ 64 := by have := hi.out.num; omega
      by_cases hkN : k < N
      · have i1 := hW.out.I.cellD (j := k) (by rw [zl_len, hi.out.li]; exact hkN)
        rw [zl_getD, show s.idx.getD k 0 = ix s k from rfl] at i1
        have b0 : (0 : Int) ≤ (k : Int) := by omega
        have b1 : (k : Int) < (N : Int) := by omega
        clear c0 c2 c3 c4 c5
        by_cases hz : ix s k = 0
        · have hstk : ∀ y, y ∉ s.stk := fun y hy => by
            obtain ⟨x, hx, _⟩ := hi.out.back y hy; cases hx
          have hcall := visit_any w1 w4 N bw nb bi bl bo B A hlie.out hN HA.out HOK.out (s.idx.count 0) wr sv fv s [] k (Nat.le_refl _) hW.out hi.out hkN hz (fun y hy => absurd hy (hstk y))
          have VL : Hid (∀ s2, Loop A k (outs A k) (push k s) s2 → VisP N A [] s.stk k (push k s) (fin k s2)) := Lib.hid (fun s2 h2 => visit_law HOK.out hN hi.out hkN hz (fun y hy => absurd hy (hstk y)) h2)
          have hpush : Hid (∀ u, ix s u ≠ 0 → ix (push k s) u ≠ 0) := Lib.hid (fun u hu => by
            rw [ix_push hi.out.li hkN]
            by_cases e : u = k
            · subst e; exact absurd hz hu
            · rw [if_neg (by first | exact e | exact fun h => e h.symm)]; exact hu)
          rw [hz] at i1
          have HC := Lib.hid hcall
          have f0 := (eq_facts (x := ((0 : Nat) : Int)) (k := 0) rfl).1
          clear hcall hz hstk
          go_wp2_with (go_at_call 25; refine HC.out.mono ?_; rintro e w2 ⟨s2, sv2, fv2, rfl, hl2, hW2⟩)
          have V := VL.out s2 hl2
          go_roundw
          case rel => exact ⟨k + 1, fin k s2, sv2, fv2, by omega, by go_num, by rw [fin_cnt], Lib.hid V.inv, Lib.hid (fun u hu => by
            by_cases e : u = k
            · subst e; exact V.vis
            · have h1 := hseen.out u (by omega)
              have h2 := hpush.out u h1
              rw [V.keep u h2]; exact h2), Lib.hid hW2⟩
          case measure => simp [RowKit.intOf]; omega
        · have f0 := (neq_facts (x := ((ix s k : Nat) : Int)) (k := 0) (by omega)).1
          have HZ := Lib.hid hz
          clear hz
          go_wp2
          go_roundw
          case rel => exact ⟨k + 1, s, sv, fv, by omega, by go_num, rfl, hi, Lib.hid (fun u hu => by
            by_cases e : u = k
            · subst e; exact HZ.out
            · exact hseen.out u (by omega)), hW⟩
          case measure => simp [RowKit.intOf]; omega
      · have hF : ∀ c ∈ s.found, c ≠ [] ∧ ∀ x ∈ c, x ≤ 64 := fun c hc => by
          obtain ⟨_, r, hr⟩ := hi.out.scc c hc
          refine ⟨fun e => ?_, fun x hx => by have := (hi.out.fnd c hc x hx).1; omega⟩
          have := (hr r).2 ⟨.refl _, .refl _⟩
          rw [e] at this; cases this
        have hfl := hi.out.fndl
        obtain ⟨fa, fc, rfl, hcall⟩ := sortF_any hW.out.F hF (by omega)
        have HC := Lib.hid hcall
        have hkn : k = N := by omega
        have ES : Hid (∀ l : List (List Nat), l.Perm s.found → l.Pairwise (fun a b => ¬ b.getD 0 0 < a.getD 0 0) → l = strongT N A) := Lib.hid (fun l => found_strong HOK.out hi.out (fun u hu => hseen.out u (by omega)))
        have HW2 := hW.out.W
        have hbB := hlie.out.lw
        have hB0 := hlie.out.l0
        have HX := Lib.hid (hW.out.X)
        clear hF hcall hkn hseen hi hcn
        go_wp2_with (go_at_call 26; refine HC.out.mono ?_; rintro e ws ⟨rfl, ⟨l, hl1, hl2, hl3⟩, kk⟩; have W7 := kk.heap HW2 (by show ¬ B ≤ bw; omega); have c7 : ws.cell? ⟨bw, 5, none⟩ = some (.slice fa s.found.length fc) := by (rw [Lib.cell_of_heap W7]; rfl))
        go_ret
        have hl := ES.out l hl1 hl2
        subst hl
        refine ⟨⟨fa, fc, ?_, hl3.mono (by have := X1.size; omega)⟩, X1.trans (Below.trans HX.out (kk.below HX.out.size (fun i hi e => by omega)))⟩
        rw [hl1.length_eq]
        rfl
theorem strong_any (N : Nat) (a : Option Addr) (A : Arcs) (cap : Nat) (w : World) (hN : N ≤ 64) (h : ArcIn w a (zarc A)) (hA : A.length ≤ 256) (ok : Ok N A) :
    Calls Try.prog 14 #[.agg #[.int .i64 N, .slice a A.length cap]] w fun e w' => (∃ fa fc, e = .returned (.slice fa (strongT N A).length fc) ∧ RowsIn w' fa ((strongT N A).map zl)) ∧ Ext w w' :=
  (strongB_any N a A cap w hN h hA ok).mono fun _ _ ⟨⟨fa, fc, h1, h2⟩, x⟩ => ⟨⟨fa, fc, h1, h2.rows⟩, x⟩
end Go.Proofs.Ytjjcjoedgmfalaa.Tp

/- The state of Order's main loop, and what each step does to it. -/
namespace Go.Proofs.Ytjjcjoedgmfalaa.Tp
open Go.RowKit Go.Sort Go.Lib Fx

/-- Where the parts lie: the counts in block bo, the queue in block bq, the rows of heads between s and r, all of the call's own from w1 on. -/
structure OrdLie (bo bq s r : Nat) (w1 w4 : World) : Prop where
  ob : bo < bq
  qs : bq < s
  sr : s ≤ r
  lo : w1.heap.size ≤ bo
  sz : w4.heap.size = r
/-- The state: the order in the row osl, the queue's numbers L in the row sv, the counts o. -/
structure OrdS (bo bq s r : Nat) (w1 w4 wr : World) (osl sv : Value) (d L o : List Nat) : Prop where
  q : ∃ Q, QAt wr bq (bq + 1) sv Q ∧ Q.Perm (zl L) ∧ HeapN Q.length Q
  b : BlkI wr bo (zl o)
  k : Keep (fun x => x < s) w4 wr
  a : Apart sv s r
  o : wr.ownsRow r 3 1 osl d.length (iv (zl d))
  ne : sv.ownBlock ≠ osl.ownBlock
  x : Ext w1 wr
variable {bo bq s r : Nat} {w1 w4 wr : World} {osl sv : Value} {d L o : List Nat}
theorem sl_any {w : World} {B n : Nat} {e : TypeId} {sv : Value} {xs : List Value} (h : w.ownsRow B e 1 sv n xs) : ∃ p c, sv = .slice p n c := by
  rcases h.2 with ⟨e1, e2⟩ | ⟨g, cap, cur, e1, _⟩
  · exact ⟨_, _, by rw [e1, e2]⟩
  · exact ⟨_, _, e1⟩
theorem OrdS.size (h : OrdS bo bq s r w1 w4 wr osl sv d L o) (lie : OrdLie bo bq s r w1 w4) : r ≤ wr.heap.size ∧ w1.heap.size ≤ wr.heap.size := ⟨by have := h.k.size; rw [lie.sz] at this; exact this, h.x.size⟩
theorem OrdS.ext {w2 : World} (h : OrdS bo bq s r w1 w4 wr osl sv d L o) (x : Ext wr w2) : OrdS bo bq s r w1 w4 w2 osl sv d L o := by
  obtain ⟨Q, h1, h2, h3⟩ := h.q
  exact ⟨⟨Q, h1.ext x, h2, h3⟩, h.b.ext x, h.k.ext x, h.a, own_ext' h.o x, h.ne, h.x.trans x⟩
/-- Worlds in which the queue's cell and its row have turned. -/
theorem OrdS.moved {w2 : World} (h : OrdS bo bq s r w1 w4 wr osl sv d L o) (lie : OrdLie bo bq s r w1 w4) (k : Keep (fun b => b = bq ∨ sv.ownBlock = some b) wr w2) :
    BlkI w2 bo (zl o) ∧ Keep (fun x => x < s) w4 w2 ∧ w2.ownsRow r 3 1 osl d.length (iv (zl d)) ∧ Ext w1 w2 := by
  obtain ⟨Q, h1, _, _⟩ := h.q
  have hlo : ∀ g, sv.ownBlock = some g → bq + 1 ≤ g := fun g hg => (h1.own.lt g hg).1
  have hsz := h.size lie
  have l1 := lie.ob; have l2 := lie.qs; have l3 := lie.sr; have l4 := lie.lo; have l5 := lie.sz
  refine ⟨k.heap h.b (fun e => ?_), h.k.trans' k (fun i hi e => ?_), own_keep h.o k (fun g hg e => ?_), Below.trans h.x (k.below hsz.2 (fun i hi e => ?_))⟩
  · rcases e with e | e
    · omega
    · have := hlo _ e; omega
  · show i < s
    rcases e with e | e
    · omega
    · rcases h.a i e with e2 | e2
      · exact e2
      · omega
  · have := (h.o.lt g hg).1
    rcases e with e | e
    · omega
    · exact h.ne (by rw [e, hg])
  · rcases e with e | e
    · omega
    · have := hlo _ e; omega
theorem OrdS.push {w2 : World} {sv2 : Value} {M Q : List Int} {v : Nat} (h : OrdS bo bq s r w1 w4 wr osl sv d L o) (lie : OrdLie bo bq s r w1 w4) (hp : Q.Perm (zl L))
    (q2 : QAt w2 bq (bq + 1) sv2 M) (p2 : M.Perm ((v : Int) :: Q)) (h2 : HeapN M.length M) (k2 : Keep (fun b => b = bq ∨ sv.ownBlock = some b) wr w2) (o2 : sv2.ownBlock = sv.ownBlock ∨ ∃ g, sv2.ownBlock = some g ∧ wr.heap.size ≤ g) :
    OrdS bo bq s r w1 w4 w2 osl sv2 d (L ++ [v]) o := by
  obtain ⟨m1, m2, m3, m4⟩ := h.moved lie k2
  have hsz := h.size lie
  refine ⟨⟨M, q2, ?_, h2⟩, m1, m2, fun g hg => ?_, m3, ?_, m4⟩
  · rw [zl_app]
    exact p2.trans ((List.Perm.cons _ hp).trans (List.perm_append_singleton _ _).symm)
  · rcases o2 with e | ⟨g2, e, hge⟩
    · rw [e] at hg; exact h.a g hg
    · rw [e] at hg; cases hg; right; omega
  · rcases o2 with e | ⟨g2, e, hge⟩
    · rw [e]; exact h.ne
    · rw [e]
      intro e2
      have := (h.o.lt g2 e2.symm).2; omega
theorem OrdS.pop {w2 : World} {sv2 : Value} {M : List Int} {q : List Nat} (h : OrdS bo bq s r w1 w4 wr osl sv d L o) (lie : OrdLie bo bq s r w1 w4)
    (q2 : QAt w2 bq (bq + 1) sv2 M) (p2 : M = zl q) (h2 : HeapN M.length M) (k2 : Keep (fun b => b = bq ∨ sv.ownBlock = some b) wr w2) (o2 : sv2.ownBlock = sv.ownBlock) :
    OrdS bo bq s r w1 w4 w2 osl sv2 d q o := by
  obtain ⟨m1, m2, m3, m4⟩ := h.moved lie k2
  exact ⟨⟨M, q2, by rw [p2], h2⟩, m1, m2, fun g hg => h.a g (by rw [← o2]; exact hg), m3, by rw [o2]; exact h.ne, m4⟩
theorem OrdS.append {w2 : World} {v g cap : Nat} (h : OrdS bo bq s r w1 w4 wr osl sv d L o) (lie : OrdLie bo bq s r w1 w4)
    (ho : w2.ownsRow r 3 1 (.slice (some ⟨g, 0, none⟩) (d.length + 1) cap) (d.length + 1) (iv (zl d) ++ [.int .i64 v])) (hg : wr.grownBy w2 osl.ownBlock) (hat : osl.ownBlock = some g ∨ wr.heap.size ≤ g) :
    OrdS bo bq s r w1 w4 w2 (.slice (some ⟨g, 0, none⟩) (d.length + 1) cap) sv (d ++ [v]) L o := by
  obtain ⟨Q, h1, h2, h3⟩ := h.q
  have hsz := h.size lie
  have l1 := lie.ob; have l2 := lie.qs; have l3 := lie.sr; have l4 := lie.lo; have l5 := lie.sz
  have hor : ∀ b, osl.ownBlock = some b → r ≤ b := fun b hb => (h.o.lt b hb).1
  refine ⟨⟨Q, ⟨heap_grown h1.q hg (fun e => by have := hor _ e.symm; omega), h1.own.kept hg (.inr h.ne)⟩, h2, h3⟩, heap_grown h.b hg (fun e => by have := hor _ e.symm; omega), h.k.grown hg (fun k hk e => by have := hor _ hk; omega), h.a, ?_, ?_, Below.grown h.x hg hsz.2 (fun k hk => by have := hor _ hk; omega)⟩
  · rw [zl_app, iv_app, List.length_append]; exact ho
  · show sv.ownBlock ≠ some g
    rcases hat with e | e
    · rw [← e]; exact h.ne
    · intro e2
      have := (h1.own.lt g e2).2; omega
theorem OrdS.setb {y x : Nat} (h : OrdS bo bq s r w1 w4 wr osl sv d L o) (lie : OrdLie bo bq s r w1 w4) : OrdS bo bq s r w1 w4 (wr.setCell ⟨bo, y, none⟩ (.int .i64 x)) osl sv d L (o.set y x) := by
  obtain ⟨Q, h1, h2, h3⟩ := h.q
  have l1 := lie.ob; have l2 := lie.qs; have l3 := lie.sr; have l4 := lie.lo; have l5 := lie.sz
  refine ⟨⟨Q, ⟨heap_other h1.q _ _ (by omega), own_set h1.own _ _ (by omega)⟩, h2, h3⟩, ?_, h.k.setCell _ _ (.inl (by show bo < s; omega)), h.a, own_set h.o _ _ (by omega), h.ne, h.x.setCell (by show w1.heap.size ≤ bo; omega) _⟩
  rw [← zl_set]; exact h.b.set y x
theorem OrdS.perm {L2 : List Nat} (h : OrdS bo bq s r w1 w4 wr osl sv d L o) (hp : L.Perm L2) : OrdS bo bq s r w1 w4 wr osl sv d L2 o := by
  obtain ⟨Q, h1, h2, h3⟩ := h.q
  exact ⟨⟨Q, h1, h2.trans (hp.map _), h3⟩, h.b, h.k, h.a, h.o, h.ne, h.x⟩
theorem OrdS.small (h : OrdS bo bq s r w1 w4 wr osl sv d L o) {N : Nat} (hn : L.Nodup) (hl : ∀ x ∈ L, x < N) : L.length ≤ N := nodup_len hn hl
end Go.Proofs.Ytjjcjoedgmfalaa.Tp

/- The document's Valid returns validL. -/
namespace Go.Proofs.Ytjjcjoedgmfalaa.Tp
open Go.RowKit Go.Sort Go.Lib Fx

set_option maxHeartbeats 4000000 in
theorem validR_any (n : Int) (a : Option Addr) (L : ArcZ) (cap : Nat) (w : World) (hn0 : -9223372036854775808 ≤ n) (hn1 : n ≤ 9223372036854775807) (h : ArcIn w a L) (hk : ArcOk L) (hL : L.length ≤ 9223372036854775807) :
    Calls Try.prog 16 #[.agg #[.int .i64 n, .slice a L.length cap]] w fun e w' => e = .returned (.bool (validL n L)) ∧ Ext w w' := by
  obtain ⟨M, hM⟩ : ∃ M, M = L.length := ⟨_, rfl⟩
  have HI := Lib.hid h
  have HK := Lib.hid hk
  rw [← hM] at hL ⊢
  have HM := Lib.hid hM
  clear h hk hM
  by_cases c0 : n < 0
  · have hf : validL n L = false := by unfold validL; rw [decide_eq_false (by omega)]; rfl
    rw [hf]
    go_enter Try.func16, Try.ntmps16
    go_wp2
    go_ret
    exact ⟨rfl, (Ext.refl _).alloc _⟩
  by_cases c1 : 64 < n
  · have hf : validL n L = false := by unfold validL; rw [decide_eq_false (by omega)]; rfl
    rw [hf]
    go_enter Try.func16, Try.ntmps16
    go_wp2
    go_ret
    exact ⟨rfl, (Ext.refl _).alloc _⟩
  by_cases c2 : 256 < M
  · have hf : validL n L = false := by unfold validL; rw [decide_eq_false (by rw [← HM.out]; omega)]; rfl
    rw [hf]
    go_enter Try.func16, Try.ntmps16
    go_wp2
    go_ret
    exact ⟨rfl, (Ext.refl _).alloc _⟩
  go_enter Try.func16, Try.ntmps16
  go_wp2
  go_loopw [3] (fun i' wr => ∃ k : Nat, k ≤ M ∧ i' = .int .i64 k ∧ Hid (∀ j (hj : j < L.length), j < k → goodP n L[j] = true) ∧ Ext w wr ∧ wr.cell? ⟨w.heap.size, 0, none⟩ = some (.int .i64 n) ∧ wr.cell? ⟨w.heap.size, 1, none⟩ = some (.slice a M cap)) (fun i' _ => M - (RowKit.intOf i').toNat)
  case atStart => exact ⟨0, by omega, rfl, Lib.hid (fun j _ h => absurd h (by omega)), (Ext.refl _).alloc _, by go_simp, by go_simp⟩
  case round =>
    obtain ⟨k, hk, rfl, hall, hx, hc, hd⟩ := hrel
    by_cases hlt : k < M
    · have hkl : k < L.length := by rw [← HM.out]; exact hlt
      obtain ⟨g, oo, rfl, d0, d1⟩ := (HI.out.ext hx) k hkl
      have hok := HK.out _ (List.getElem_mem hkl)
      obtain ⟨x, hxe⟩ : ∃ x, x = L[k].1 := ⟨_, rfl⟩
      obtain ⟨y, hye⟩ : ∃ y, y = L[k].2 := ⟨_, rfl⟩
      rw [← hxe] at d0 hok; rw [← hye] at d1 hok
      have HX := Lib.hid hxe
      have HY := Lib.hid hye
      clear hxe hye
      obtain ⟨o0, o1, o2, o3⟩ := hok
      have hc' : ∀ o, (wr.alloc o).cell? ⟨w.heap.size, 0, none⟩ = some (.int .i64 n) := fun o => ((Ext.refl wr).alloc o).cell hc
      have hd' : ∀ o, (wr.alloc o).cell? ⟨w.heap.size, 1, none⟩ = some (.slice (some ⟨g, oo, none⟩) M cap) := fun o => ((Ext.refl wr).alloc o).cell hd
      by_cases e0 : x < 0
      · skip
        have hf : Hid (validL n L = false) := Lib.hid (validL_bad hkl (by rw [← HX.out, ← HY.out]; unfold goodP; exact decide_eq_false (by omega)))
        clear hall
        go_wp2
        all_goals go_ret
        all_goals exact ⟨ret_bool hf.out.symm, hx.alloc _⟩
      by_cases e1 : n ≤ x
      · skip
        have hf : Hid (validL n L = false) := Lib.hid (validL_bad hkl (by rw [← HX.out, ← HY.out]; unfold goodP; exact decide_eq_false (by omega)))
        clear hall
        go_wp2
        all_goals go_ret
        all_goals exact ⟨ret_bool hf.out.symm, hx.alloc _⟩
      by_cases e2 : y < 0
      · skip
        have hf : Hid (validL n L = false) := Lib.hid (validL_bad hkl (by rw [← HX.out, ← HY.out]; unfold goodP; exact decide_eq_false (by omega)))
        clear hall
        go_wp2
        all_goals go_ret
        all_goals exact ⟨ret_bool hf.out.symm, hx.alloc _⟩
      by_cases e3 : n ≤ y
      · skip
        have hf : Hid (validL n L = false) := Lib.hid (validL_bad hkl (by rw [← HX.out, ← HY.out]; unfold goodP; exact decide_eq_false (by omega)))
        clear hall
        go_wp2
        all_goals go_ret
        all_goals exact ⟨ret_bool hf.out.symm, hx.alloc _⟩
      have hg : Hid (∀ j (hj : j < L.length), j < k + 1 → goodP n L[j] = true) := Lib.hid (fun j hj hjk => by
        by_cases e : j = k
        · subst e; rw [goodP_at, ← HX.out, ← HY.out]; unfold goodP; exact decide_eq_true (by omega)
        · exact hall.out j hj (by omega))
      clear hall
      go_wp2
      all_goals go_roundw
      all_goals first | exact ⟨k + 1, by omega, by go_num, hg, hx.alloc _, hc' _, hd' _⟩ | (simp [RowKit.intOf]; omega)
    · have hf : Hid (validL n L = true) := Lib.hid (by
        unfold validL; rw [decide_eq_true (by rw [← HM.out]; omega), Bool.true_and, List.all_eq_true]
        intro p hp
        obtain ⟨j, hj, rfl⟩ := List.getElem_of_mem hp
        exact hall.out j hj (by rw [← HM.out] at hj; omega))
      clear hall
      go_wp2
      go_ret
      exact ⟨ret_bool hf.out.symm, hx⟩
end Go.Proofs.Ytjjcjoedgmfalaa.Tp
