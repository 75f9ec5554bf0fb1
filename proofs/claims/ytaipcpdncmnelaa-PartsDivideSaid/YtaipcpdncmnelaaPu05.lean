/- Packed texts: PrtBegin -/
import Derived.Test.YtaipcpdncmnelaaPu04
import Derived.Deep.RegionHeld3
import Derived.Deep.RegionLaw
import Derived.Deep.CutRange
set_option linter.unusedVariables false
set_option linter.unusedSimpArgs false
/- begin: the incidence and a fresh search. -/
namespace Go.Proofs.Ytaipcpdncmnelaa.Pt
open Go.RowKit Go.Sort Go.Lib Fx Tp

theorem heap_in {w : World} {o o' : Obj} {b : Nat} (h : w.heap[b]? = some o') : (w.alloc o).heap[b]? = some o' := heap_ext h ((Ext.refl w).alloc o)
theorem heap_nw {w : World} {o : Obj} {b : Nat} (e : b = w.heap.size) : (w.alloc o).heap[b]? = some o := by subst e; exact heap_alloc_new w o
theorem grown_of_ext {a b c : World} {row : Option Nat} (x : Ext a b) (h : b.grownBy c row) : a.grownBy c row :=
  ⟨h.os.trans x.os, h.tape.trans x.tape, h.output.trans x.output, Nat.le_trans x.size h.size, fun k hk hr => (h.block k (Nat.lt_of_lt_of_le hk x.size) hr).trans (x.block k hk)⟩
theorem own_kind {w : World} {B : Nat} {e : TypeId} {sz : Nat} {v : Value} {n : Nat} {xs : List Value} (h : w.ownsRow B e sz v n xs) {q : Nat} (hq : v.ownBlock = some q) {cs : Array Value} {T : TypeId} {fr : Nat × Nat} (hh : w.heap[q]? = some (.cells cs T fr)) : e = T := by
  rcases h.2 with ⟨rfl, _⟩ | ⟨g, cap, cur, rfl, _, hg, _⟩
  · cases hq
  · have hq : g = q := by simpa [Value.ownBlock] using hq
    subst hq
    rw [hg] at hh
    injection hh with hh; injection hh
theorem new1 (w : World) (C : Obj) : (w.alloc C).drew.heap[w.heap.size]? = some C := heap_alloc_new w C
theorem size_drew (w : World) : w.drew.heap.size = w.heap.size := rfl
theorem beg1 {w0 wx : World} {a : Option Addr} {M cap N : Nat} {s3 : Value} {bs bi ba bn bl : Nat} (e3 : s3 = .pointer (some ⟨bs, 0, none⟩))
    (hS : wx.heap[bs]? = some (.cells #[.pointer (some ⟨bi, 0, none⟩), .slice (some ⟨bn, 0, none⟩) N N, .slice (some ⟨bl, 0, none⟩) N N, .int .i64 0, .slice none 0 0, .slice none 0 0] 45 (0, 0)))
    (hI : wx.heap[bi]? = some (.cells #[.slice a M cap, .slice (some ⟨ba, 0, none⟩) N N] 57 (0, 0)))
    (hn : wx.heap[bn]? = some (.cells (madeCells #[.int .i64 0] N) 3 (0, 0))) (hl : wx.heap[bl]? = some (.cells (madeCells #[.int .i64 0] N) 3 (0, 0)))
    (hH : wx.heap[ba]? = some (.cells (madeCells #[.slice none 0 0] N) 31 (0, 0))) (x : Ext w0 wx)
    (far : (w0.heap.size ≤ bs ∧ w0.heap.size ≤ bi ∧ w0.heap.size ≤ ba ∧ w0.heap.size ≤ bn ∧ w0.heap.size ≤ bl) ∧ bs ≠ bi ∧ bs ≠ ba ∧ bs ≠ bn ∧ bs ≠ bl ∧ bi ≠ ba ∧ bi ≠ bn ∧ bi ≠ bl ∧ ba ≠ bn ∧ ba ≠ bl ∧ bn ≠ bl) :
    ∃ bs bi ba bn bl cs, s3 = .pointer (some ⟨bs, 0, none⟩) ∧ Hid (SLie w0.heap.size bs bi ba bn bl wx.heap.size) ∧ Hid (Beg w0 a M cap N bs bi ba bn bl wx.heap.size wx (.slice none 0 0) [] cs (fun _ => []) []) := by
  obtain ⟨⟨d1, d2, d3, d4, d5⟩, d6, d7, d8, d9, d10, d11, d12, d13, d14, d15⟩ := far
  have lt : ∀ {b : Nat} {o : Obj}, wx.heap[b]? = some o → b < wx.heap.size := fun h => (Array.getElem?_eq_some_iff.1 h).1
  have nl : ∀ (u : Nat) (su : Value), (madeCells #[Value.slice none 0 0] N)[u]? = some su → su = .slice none 0 0 := fun u su h1 => by
    rw [made_eq, List.getElem?_toArray, List.getElem?_replicate] at h1
    split at h1
    · exact (Option.some.inj h1).symm
    · cases h1
  refine ⟨bs, bi, ba, bn, bl, _, e3, Lib.hid ⟨d1, d2, d3, d4, d5, lt hS, lt hI, lt hH, lt hn, lt hl, d6, d7, d8, d9, d10, d11, d12, d13, d14, d15⟩, Lib.hid ⟨hS, hI, ?_, ?_, hH, by rw [size_madeCells], fun v hv => ⟨.slice none 0 0, ?_, World.ownsRow_nil _ _ _ _⟩, fun u v su sv _ h1 _ => ?_, ⟨⟨by simp, .inl ⟨rfl, rfl⟩⟩, fun j hj => absurd hj (by simp)⟩, fun v sv g h1 h2 => ?_, x, Nat.le_refl _⟩⟩
  · unfold BlkI iv; rw [hn, made_eq]; simp
  · unfold BlkI iv; rw [hl, made_eq]; simp
  · rw [made_eq]; simp [hv]
  · rw [nl u su h1]; exact .inl rfl
  · rw [nl v sv h1] at h2; cases h2
set_option maxHeartbeats 8000000 in
set_option maxRecDepth 100000 in
theorem begin_any (N : Nat) (a : Option Addr) (A : Arcs) (cap : Nat) (w : World) (hN : N ≤ 64) (h : ArcIn w a (zarc A)) (hA : A.length ≤ 256) (ok : Ok N A) :
    Calls Try.prog 28 #[.agg #[.int .i64 N, .slice a A.length cap]] w fun e w' => ∃ bs bi ba bn bl B fv fs cs, e = .returned (.pointer (some ⟨bs, 0, none⟩)) ∧ SLie w.heap.size bs bi ba bn bl B ∧ Beg w a A.length cap N bs bi ba bn bl B w' fv fs cs (incT A) (loopT A) := by
  obtain ⟨M, hM⟩ : ∃ M, M = A.length := ⟨_, rfl⟩
  have hm1 := run_make_row' (P := Try.prog) 31 3 (.int .i64 0) 8 Try.underlying31 info_int rfl .i64 .i64 N (by omega) (by omega)
  have hm2 := run_make_row' (P := Try.prog) 28 31 (.slice none 0 0) 24 Try.underlying28 info_row rfl .i64 .i64 N (by omega) (by omega)
  obtain ⟨i0, hi, hz0, hz1, hz2⟩ := info_parts info_int
  obtain ⟨j0, hj, hjz0, hjz1, hjz2⟩ := info_parts info_row
  have HI := Lib.hid h
  have HOK := Lib.hid ok
  rw [← hM] at hA ⊢
  have HM := Lib.hid hM
  clear h ok hM
  go_enter Try.func28, Try.ntmps28
  go_wp2
  obtain ⟨w1, hw1⟩ : ∃ w1, w1 = w.alloc (.cells #[.int .i64 N, .slice a M cap] 24) := ⟨_, rfl⟩
  have b1 : w1.cell? ⟨w.heap.size, 0, none⟩ = some (.int .i64 N) ∧ w1.cell? ⟨w.heap.size, 1, none⟩ = some (.slice a M cap) := by rw [hw1]; exact arc_box _ _ _ _
  obtain ⟨b10, b11⟩ := b1
  have X1 : Ext w w1 := by rw [hw1]; exact (Ext.refl _).alloc _
  have hs1 : w.heap.size + 1 = w1.heap.size := by rw [hw1]; simp
  rw [← hw1]
  clear hw1
  go_cut [3] from 6 to 20 (fun s3 wx => ∃ bs bi ba bn bl cs, s3 = .pointer (some ⟨bs, 0, none⟩) ∧ Hid (SLie w1.heap.size bs bi ba bn bl wx.heap.size) ∧ Hid (Beg w1 a M cap N bs bi ba bn bl wx.heap.size wx (.slice none 0 0) [] cs (fun _ => []) []))
  case first =>
    go_region_held3 (fun w' => w'.cell? ⟨w.heap.size, 0, none⟩ = some (.int .i64 N) ∧ w'.cell? ⟨w.heap.size, 1, none⟩ = some (.slice a M cap)) (refine ⟨Ext.cell (w := w1) ?_ b10, Ext.cell (w := w1) ?_ b11⟩ <;> (repeat (first | assumption | exact Ext.refl _ | refine Ext.alloc ?_ _ | refine Ext.drew ?_))) (fail)
    all_goals (
      go_wp2_with fail
      go_meet
      apply beg1
      · rfl
      · (refine heap_nw ?_; first | rfl | (simp only [World.size_alloc, size_drew]; done))
      · repeat (first | (refine heap_nw ?_; first | rfl | (simp only [World.size_alloc, size_drew]; done)) | refine heap_in ?_)
      · repeat (first | (refine heap_nw ?_; first | rfl | (simp only [World.size_alloc, size_drew]; done)) | refine heap_in ?_)
      · repeat (first | (refine heap_nw ?_; first | rfl | (simp only [World.size_alloc, size_drew]; done)) | refine heap_in ?_)
      · repeat (first | (refine heap_nw ?_; first | rfl | (simp only [World.size_alloc, size_drew]; done)) | refine heap_in ?_)
      · repeat (first | assumption | exact Ext.refl _ | refine Ext.alloc ?_ _ | refine Ext.drew ?_)
      · refine ⟨⟨?_, ?_, ?_, ?_, ?_⟩, ?_, ?_, ?_, ?_, ?_, ?_, ?_, ?_, ?_, ?_⟩ <;> omega)
  case rest =>
    obtain ⟨bs, bi, ba, bn, bl, cs, rfl, hlie, hbg⟩ := hcut
    obtain ⟨B, hB⟩ : ∃ B, B = wc.heap.size := ⟨_, rfl⟩
    rw [← hB] at hlie hbg
    have b20 := hbg.out.X.cell b11
    have b21 := hbg.out.X.cell b10
    clear hB b10 b11 hm1 hm2
    go_wp2
    clear b20 b21
    go_loopw [24] (fun i' wr => ∃ (k : Nat) (fv : Value) (fs : List Value) (cs : Array Value), k ≤ M ∧ i' = .int .i64 k ∧ Hid (Beg w1 a M cap N bs bi ba bn bl B wr fv fs cs (incK A k) (loopK A k))) (fun i' _ => M - (RowKit.intOf i').toNat)
    case atStart => exact ⟨0, _, _, _, Nat.zero_le _, rfl, hbg⟩
    case round =>
      clear hbg
      obtain ⟨k, fv, fs, cs, hk, rfl, hb⟩ := hrel
      by_cases hlt : k < M
      · have hkl : k < A.length := by rw [← HM.out]; exact hlt
        obtain ⟨g, o, rfl, d0, d1⟩ := (HI.out.ext (X1.trans hb.out.X)) k (by rw [zarc_len]; exact hkl)
        have hok := HOK.out _ (List.getElem_mem hkl)
        rw [zarc_at A k hkl] at d0 d1
        have hAk := arcN_at hkl
        obtain ⟨x, hxe⟩ : ∃ x, x = A[k].1 := ⟨_, rfl⟩
        obtain ⟨y, hye⟩ : ∃ y, y = A[k].2 := ⟨_, rfl⟩
        have hAk2 : arcN A k = (x, y) := by rw [hAk, hxe, hye]
        rw [← hxe] at d0 hok; rw [← hye] at d1 hok
        clear hxe hye hAk
        have HAK := Lib.hid hAk2
        clear hAk2
        have ax := arc_box wr (.int .i64 x) (.int .i64 y) 37
        obtain ⟨a0, a1⟩ := ax
        have hbZ := hb.out.Z
        have hb2 := Lib.hid (hb.out.ext ((Ext.refl wr).alloc (.cells #[.int .i64 x, .int .i64 y] 37)))
        by_cases hxy : x = y
        · have hlp : Hid (incK A (k + 1) = incK A k ∧ loopK A (k + 1) = loopK A k ++ [[k]]) := Lib.hid ⟨incK_loop A k (by rw [HAK.out]; exact hxy), by rw [loopK_succ, if_pos (by rw [HAK.out]; exact hxy)]⟩
          have f1 := (eq_facts (x := (x : Int)) (k := (y : Int)) (by rw [hxy])).1
          have hFl := loopK_len A k
          obtain ⟨F, hF⟩ : ∃ F, F = loopK A k := ⟨_, rfl⟩
          rw [← hF] at hb hb2 hlp hFl
          obtain ⟨F', hF'⟩ : ∃ F', F' = incK A k := ⟨_, rfl⟩
          rw [← hF'] at hb hb2 hlp
          clear hF hF' hxy
          obtain ⟨p0, p1, p2, p3⟩ := hb2.out.cells
          have hfb : ∀ q, fv.ownBlock = some q → q < wr.heap.size := fun q hq => (hb.out.R.own.lt q hq).2
          have hcb : ∀ (v : Nat) (sv : Value) (q : Nat), cs[v]? = some sv → sv.ownBlock = some q → q < wr.heap.size := fun v sv q h1 h2 => by
            have hvN : v < N := by rw [← hb.out.Hn]; exact (Array.getElem?_eq_some_iff.1 h1).1
            obtain ⟨su, h8, h9⟩ := hb.out.Hr v hvN
            rw [h1] at h8; cases h8
            exact (h9.lt q h2).2
          have HFB := Lib.hid hfb; have HCB := Lib.hid hcb
          have y1 : Ext (wr.alloc (.cells #[.int .i64 x, .int .i64 y] 37)) (((wr.alloc (.cells #[.int .i64 x, .int .i64 y] 37)).alloc (.cells #[.int .i64 k] 3)).alloc (.cells #[.slice (some ⟨wr.heap.size + 1, 0, none⟩) 1 1] 31)) := ((Ext.refl _).alloc _).alloc _
          have HB4 := Lib.hid (hb2.out.ext y1)
          have sz4 : ((((wr.alloc (.cells #[.int .i64 x, .int .i64 y] 37)).alloc (.cells #[.int .i64 k] 3)).alloc (.cells #[.slice (some ⟨wr.heap.size + 1, 0, none⟩) 1 1] 31))).heap.size = wr.heap.size + 3 := by simp
          have HY := Lib.hid y1
          have SZ4 := Lib.hid sz4
          clear hfb hcb y1 hb2 hb sz4
          go_wp2_with (at_builtin; refine wpList_append_lies _ rfl _ _ 28 rfl B 31 j0 _ 1 24 Try.underlying28 hj hjz0 hjz1 hjz2 rfl (by decide) _ _ _ rfl HB4.out.R.own ⟨wr.heap.size + 2, 0, none⟩ 1 1 [.slice (some ⟨wr.heap.size + 1, 0, none⟩) 1 1] rfl rfl ?k1 ?k2 (by decide) ?k3 ?k4 ?k5 _ rfl ?_)
          case k2 => simp [Value.oneCell']
          case k3 => unfold maxLen; omega
          case k4 => omega
          case k5 => omega
          intro gg cc w7 hown7 hgrow7 hat7 _
          have hbs7 := heap_grown HB4.out.S hgrow7 (fun e => by have := (HB4.out.R.own.lt bs e.symm).1; have := hlie.out.ls; omega)
          have s7 : w7.cell? ⟨bs, 5, none⟩ = some fv := by rw [Lib.cell_of_heap hbs7]; rfl
          have f7 := Lib.frozen_of_heap hbs7 5
          have P := Beg.loop (g := gg) (c := cc) (b := wr.heap.size + 1) (k := [k]) (pc := 1) HB4.out hlie.out (fun i hi => ⟨wr.heap.size + 1, 0, rfl, by
              have h0 : i = 0 := by simp [zl] at hi; omega
              subst h0
              exact ((Ext.refl _).alloc _).cell (by rw [Lib.cell_of_heap (heap_nw (by simp))]; rfl)⟩) ⟨by omega, by rw [SZ4.out]; omega, fun e => by have := HFB.out _ e; omega⟩ (fun v sv h1 e => by have := HCB.out v sv _ h1 e; omega) hown7 hgrow7 (hat7.elim .inl (fun e => .inr (by rw [SZ4.out, e]; exact Nat.le_refl _)))
          obtain ⟨fs2, P⟩ := P
          rw [← hlp.out.2, ← hlp.out.1] at P
          have HP := Lib.hid P
          clear P hown7 hgrow7 hat7 hbs7
          go_wp2
          go_roundw
          case rel => exact ⟨k + 1, _, fs2, cs, by omega, by go_num, HP⟩
          case measure => simp [RowKit.intOf]; omega
        · have hlp : Hid (loopK A (k + 1) = loopK A k ∧ ∀ G : Nat → List Nat, G = (fun u => if u = x then incK A k u ++ [k] else incK A k u) → (fun u => if u = y then G u ++ [k] else G u) = incK A (k + 1)) := Lib.hid ⟨by rw [loopK_succ, if_neg (by rw [HAK.out]; exact hxy), List.append_nil], by
            intro G hG; subst hG
            have := incK_arc A k (by rw [HAK.out]; exact hxy)
            rw [HAK.out] at this; exact this⟩
          have f1 := (neq_facts (x := (x : Int)) (k := (y : Int)) (by omega)).1
          have hfl : ∀ u, (incK A k u).length ≤ k := incK_len A k
          obtain ⟨F, hF⟩ : ∃ F, F = loopK A k := ⟨_, rfl⟩
          rw [← hF] at hb hb2 hlp
          obtain ⟨F', hF'⟩ : ∃ F', F' = incK A k := ⟨_, rfl⟩
          rw [← hF'] at hb hb2 hlp hfl
          have BX : Hid ((wr.alloc (.cells #[.int .i64 x, .int .i64 y] 37)).heap[wr.heap.size]? = some (.cells #[.int .i64 x, .int .i64 y] 37 (0, 0))) := Lib.hid (heap_alloc_new wr _)
          obtain ⟨wo, hwo⟩ : ∃ wo, wo = wr.alloc (.cells #[.int .i64 x, .int .i64 y] 37) := ⟨_, rfl⟩
          rw [← hwo] at hb2 BX
          have HFL := Lib.hid hfl
          have hbaw : Hid (ba < wr.heap.size) := Lib.hid (Array.getElem?_eq_some_iff.1 hb.out.H).1
          go_wp2_with fail
          rw [← hwo]
          clear hwo a0 a1 hb hfl hF' hF hxy
          have X7 : Hid (Beg w1 (some ⟨g, o, none⟩) M cap N bs bi ba bn bl B wo fv fs cs F' F) := hb2
          clear hb2
          go_cut [4] from 45 to 68 (fun e' wx => e' = .int .i64 k ∧ ∃ cs2, Hid (Beg w1 (some ⟨g, o, none⟩) M cap N bs bi ba bn bl B wx fv fs cs2 (fun u => if u = x then F' u ++ [k] else F' u) F) ∧ Hid (wx.heap[wr.heap.size]? = some (.cells #[.int .i64 x, .int .i64 y] 37 (0, 0))))
          case first =>
            obtain ⟨sv, e4, hown, hstep⟩ := X7.out.put hlie.out hok.1
            obtain ⟨p0, p1, p2, p3⟩ := X7.out.cells
            have hbo : sv.ownBlock ≠ some ba := fun e => by have := (hown.lt _ e).1; have := hlie.out.la; omega
            have hbi : sv.ownBlock ≠ some bi := fun e => by have := (hown.lt _ e).1; have := hlie.out.li; omega
            have hbs : sv.ownBlock ≠ some bs := fun e => by have := (hown.lt _ e).1; have := hlie.out.ls; omega
            have hbb : sv.ownBlock ≠ some wr.heap.size := fun e => by have := own_kind hown e BX.out; exact absurd this (by decide)
            have hfz := Lib.frozen_of_heap X7.out.H x
            have FIN : Hid (∀ (w2 : World) (gg cp : Nat), w2.ownsRow B 3 1 (.slice (some ⟨gg, 0, none⟩) ((F' x).length + 1) cp) ((F' x).length + 1) (iv (zl (F' x)) ++ [.int .i64 k]) → wo.grownBy w2 sv.ownBlock → (sv.ownBlock = some gg ∨ wo.heap.size ≤ gg) →
                ∃ cs2, Hid (Beg w1 (some ⟨g, o, none⟩) M cap N bs bi ba bn bl B (w2.setCell ⟨ba, x, none⟩ (.slice (some ⟨gg, 0, none⟩) ((F' x).length + 1) cp)) fv fs cs2 (fun u => if u = x then F' u ++ [k] else F' u) F) ∧ Hid ((w2.setCell ⟨ba, x, none⟩ (.slice (some ⟨gg, 0, none⟩) ((F' x).length + 1) cp)).heap[wr.heap.size]? = some (.cells #[.int .i64 x, .int .i64 y] 37 (0, 0)))) := Lib.hid (fun w2 gg cp h1 h2 h3 => by
              obtain ⟨cs2, hB2⟩ := hstep w2 gg cp k h1 h2 h3
              exact ⟨cs2, Lib.hid hB2, Lib.hid (heap_other (heap_grown BX.out h2 (fun e => hbb e.symm)) _ _ (Nat.ne_of_gt hbaw.out))⟩)
            have e0 : wo.cell? ⟨wr.heap.size, 0, none⟩ = some (.int .i64 x) := by rw [Lib.cell_of_heap BX.out]; rfl
            have EA : Hid (∀ ob, (wo.alloc ob).cell? ⟨wr.heap.size, 0, none⟩ = some (.int .i64 x) ∧ (wo.alloc ob).cell? ⟨ba, x, none⟩ = some sv ∧ (wo.alloc ob).cell? ⟨bs, 0, none⟩ = some (.pointer (some ⟨bi, 0, none⟩)) ∧ (wo.alloc ob).cell? ⟨bi, 1, none⟩ = some (.slice (some ⟨ba, 0, none⟩) N N)) := Lib.hid (fun ob => ⟨((Ext.refl _).alloc ob).cell e0, ((Ext.refl _).alloc ob).cell e4, ((Ext.refl _).alloc ob).cell p0, ((Ext.refl _).alloc ob).cell p3⟩)
            have q0 := fun ob => (EA.out ob).1; have q1 := fun ob => (EA.out ob).2.1; have q2 := fun ob => (EA.out ob).2.2.1; have q3 := fun ob => (EA.out ob).2.2.2
            have hfx := HFL.out x
            have HOW := Lib.hid hown
            have HB := Lib.hid hbo; have HBB := Lib.hid hbb; have HBI := Lib.hid hbi; have HBS := Lib.hid hbs; have HFZ := Lib.hid hfz
            have hbal : Hid (ba < wo.heap.size) := Lib.hid (Array.getElem?_eq_some_iff.1 X7.out.H).1
            have hZo := X7.out.Z
            clear hown hbo hbb hbi hbs hfz hstep p1 p2
            have hne1 : bs ≠ ba := hlie.out.sa
            have hne2 : bi ≠ ba := hlie.out.ia
            have hne3 : wr.heap.size ≠ ba := Nat.ne_of_gt hbaw.out
            refine wp_region_held_drew (S := (fun w' => w'.cell? ⟨bs, 0, none⟩ = some (.pointer (some ⟨bi, 0, none⟩)) ∧ w'.cell? ⟨bi, 1, none⟩ = some (.slice (some ⟨ba, 0, none⟩) N N) ∧ w'.cell? ⟨wr.heap.size, 0, none⟩ = some (.int .i64 x))) (by kernel_rfl) ⟨p0, p3, e0⟩ (fun hHeld => ?_)
            refine wpAnyH_take (i := 0) (v := ?_) rfl (by kernel_rfl) (by kernel_rfl) (by kernel_rfl) (fun _ _ _ h => h) (Or.inl ⟨by rfl, ?_⟩) (by assumption) ?_
            rotate_left
            · intro w hSw; (try dsimp only at hSw); go_simp; try with_reducible rfl
            try simp only [Act.put, List.setIfInBounds_toArray, List.set_cons_zero, List.set_cons_succ]
            refine wpAnyH_take (i := 1) (v := ?_) rfl (by kernel_rfl) (by kernel_rfl) (by kernel_rfl) (fun _ _ _ h => h) (Or.inl ⟨by rfl, ?_⟩) (by assumption) ?_
            rotate_left
            · intro w hSw; (try dsimp only at hSw); go_simp; try with_reducible rfl
            try simp only [Act.put, List.setIfInBounds_toArray, List.set_cons_zero, List.set_cons_succ]
            refine wpAnyH_take (i := 2) (v := ?_) rfl (by kernel_rfl) (by kernel_rfl) (by kernel_rfl) (fun _ _ _ h => h) (Or.inl ⟨by rfl, ?_⟩) (by assumption) ?_
            rotate_left
            · intro w hSw; (try dsimp only at hSw); go_simp; try with_reducible rfl
            try simp only [Act.put, List.setIfInBounds_toArray, List.set_cons_zero, List.set_cons_succ]
            refine wpAnyH_take (i := 3) (v := ?_) rfl (by kernel_rfl) (by kernel_rfl) (by kernel_rfl) (fun _ _ _ h => h) (Or.inl ⟨by rfl, ?_⟩) (by assumption) ?_
            rotate_left
            · intro w hSw; (try dsimp only at hSw); go_simp; try with_reducible rfl
            try simp only [Act.put, List.setIfInBounds_toArray, List.set_cons_zero, List.set_cons_succ]
            refine wpAnyH_take (i := 4) (v := ?_) rfl (by kernel_rfl) (by kernel_rfl) (by kernel_rfl) (fun _ _ _ h => h) (Or.inl ⟨by rfl, ?_⟩) (by assumption) ?_
            rotate_left
            · intro w hSw; (try dsimp only at hSw); go_simp; try with_reducible rfl
            try simp only [Act.put, List.setIfInBounds_toArray, List.set_cons_zero, List.set_cons_succ]
            refine wpAnyH_take (i := 5) (v := ?_) rfl (by kernel_rfl) (by kernel_rfl) (by kernel_rfl) (fun _ _ _ h => h) (Or.inl ⟨by rfl, ?_⟩) (by assumption) ?_
            rotate_left
            · intro w hSw; (try dsimp only at hSw); go_simp; try with_reducible rfl
            try simp only [Act.put, List.setIfInBounds_toArray, List.set_cons_zero, List.set_cons_succ]
            refine wpAnyH_take (i := 6) (v := ?_) rfl (by kernel_rfl) (by kernel_rfl) (by kernel_rfl) (fun _ _ _ h => h) (Or.inl ⟨by rfl, ?_⟩) (by assumption) ?_
            rotate_left
            · intro w hSw; (try dsimp only at hSw); go_simp; try with_reducible rfl
            try simp only [Act.put, List.setIfInBounds_toArray, List.set_cons_zero, List.set_cons_succ]
            refine wpAnyH_take (i := 7) (v := ?_) rfl (by kernel_rfl) (by kernel_rfl) (by kernel_rfl) (fun _ _ _ h => h) (Or.inl ⟨by rfl, ?_⟩) (by assumption) ?_
            rotate_left
            · intro w hSw; (try dsimp only at hSw); go_simp; try with_reducible rfl
            try simp only [Act.put, List.setIfInBounds_toArray, List.set_cons_zero, List.set_cons_succ]
            refine wpAnyH_take (i := 8) (v := ?_) rfl (by kernel_rfl) (by kernel_rfl) (by kernel_rfl) (fun _ _ _ h => h) (Or.inl ⟨by rfl, ?_⟩) (by assumption) ?_
            rotate_left
            · intro w hSw; (try dsimp only at hSw); go_simp; try with_reducible rfl
            try simp only [Act.put, List.setIfInBounds_toArray, List.set_cons_zero, List.set_cons_succ]
            refine wpAnyH_take (i := 9) (v := ?_) rfl (by kernel_rfl) (by kernel_rfl) (by kernel_rfl) (fun _ _ _ h => h) (Or.inl ⟨by rfl, ?_⟩) (by assumption) ?_
            rotate_left
            · intro w hSw; (try dsimp only at hSw); go_simp; try with_reducible rfl
            try simp only [Act.put, List.setIfInBounds_toArray, List.set_cons_zero, List.set_cons_succ]
            refine wpAnyH_take (i := 10) (v := ?_) rfl (by kernel_rfl) (by kernel_rfl) (by kernel_rfl) (fun _ _ _ h => h) (Or.inl ⟨by rfl, ?_⟩) (by assumption) ?_
            rotate_left
            · intro w hSw; (try dsimp only at hSw); go_simp; try with_reducible rfl
            try simp only [Act.put, List.setIfInBounds_toArray, List.set_cons_zero, List.set_cons_succ]
            refine wpAnyH_take (i := 11) (v := ?_) rfl (by kernel_rfl) (by kernel_rfl) (by kernel_rfl) (fun _ _ _ h => h) (Or.inl ⟨by rfl, ?_⟩) (by assumption) ?_
            rotate_left
            · intro w hSw; (try dsimp only at hSw); go_simp; try with_reducible rfl
            try simp only [Act.put, List.setIfInBounds_toArray, List.set_cons_zero, List.set_cons_succ]
            refine wpAnyH_take (i := 12) (v := ?_) rfl (by kernel_rfl) (by kernel_rfl) (by kernel_rfl) (fun _ _ _ h => h) (Or.inl ⟨by rfl, ?_⟩) (by assumption) ?_
            rotate_left
            · intro w hSw; (try dsimp only at hSw); go_simp; try with_reducible rfl
            try simp only [Act.put, List.setIfInBounds_toArray, List.set_cons_zero, List.set_cons_succ]
            refine wpAnyH_take (i := 13) (v := ?_) rfl (by kernel_rfl) (by kernel_rfl) (by kernel_rfl) (fun _ _ _ h => h) (Or.inl ⟨by rfl, ?_⟩) (by assumption) ?_
            rotate_left
            · intro w hSw; (try dsimp only at hSw); go_simp; try with_reducible rfl
            try simp only [Act.put, List.setIfInBounds_toArray, List.set_cons_zero, List.set_cons_succ]
            refine wpAnyH_take (i := 14) (v := ?_) rfl (by kernel_rfl) (by kernel_rfl) (by kernel_rfl) (fun _ _ _ h => h) (Or.inl ⟨by rfl, ?_⟩) (by assumption) ?_
            rotate_left
            · intro w hSw; (try dsimp only at hSw); go_simp; try with_reducible rfl
            try simp only [Act.put, List.setIfInBounds_toArray, List.set_cons_zero, List.set_cons_succ]
            refine wpAnyH_take (i := 15) (v := ?_) rfl (by kernel_rfl) (by kernel_rfl) (by kernel_rfl) (fun _ _ _ h => h) (Or.inl ⟨by rfl, ?_⟩) (by assumption) ?_
            rotate_left
            · intro w hSw; (try dsimp only at hSw); go_simp; try with_reducible rfl
            try simp only [Act.put, List.setIfInBounds_toArray, List.set_cons_zero, List.set_cons_succ]
            refine wpAnyH_take (i := 16) (v := ?_) rfl (by kernel_rfl) (by kernel_rfl) (by kernel_rfl) (fun _ _ _ h => h) (Or.inl ⟨by rfl, ?_⟩) (by assumption) ?_
            rotate_left
            · intro w hSw; (try dsimp only at hSw); go_simp; try with_reducible rfl
            try simp only [Act.put, List.setIfInBounds_toArray, List.set_cons_zero, List.set_cons_succ]
            refine wpAnyH_take (i := 17) (v := ?_) rfl (by kernel_rfl) (by kernel_rfl) (by kernel_rfl) (fun _ _ _ h => h) (Or.inl ⟨by rfl, ?_⟩) (by assumption) ?_
            rotate_left
            · intro w hSw; (try dsimp only at hSw); go_simp; try with_reducible rfl
            try simp only [Act.put, List.setIfInBounds_toArray, List.set_cons_zero, List.set_cons_succ]
            refine wpAnyH_take (i := 18) (v := ?_) rfl (by kernel_rfl) (by kernel_rfl) (by kernel_rfl) (fun _ _ _ h => h) (Or.inl ⟨by rfl, ?_⟩) (by assumption) ?_
            rotate_left
            · intro w hSw; (try dsimp only at hSw); go_simp; try with_reducible rfl
            try simp only [Act.put, List.setIfInBounds_toArray, List.set_cons_zero, List.set_cons_succ]
            refine wpAnyH_take (i := 20) (v := ?_) rfl (by kernel_rfl) (by kernel_rfl) (by kernel_rfl) (fun _ _ _ h => h) (Or.inl ⟨by rfl, ?_⟩) (by assumption) ?_
            rotate_left
            · intro w hSw; (try dsimp only at hSw); go_simp; try with_reducible rfl
            try simp only [Act.put, List.setIfInBounds_toArray, List.set_cons_zero, List.set_cons_succ]
            refine wpAnyH_ready (rs := [19, 21]) (by kernel_rfl) (by simp) ?_
            refine AllReadyH.cons rfl (fun K hK => ?_) ?_
            · go_simp
              refine hK.out _ _ ⟨p0, p3, e0⟩ (fun hHeld => ?_)
              clear hK K
              try simp only [Act.put, List.setIfInBounds_toArray, List.set_cons_zero, List.set_cons_succ]
              refine wpAnyH_ready (rs := [21]) (by kernel_rfl) (by simp) ?_
              refine AllReadyH.cons rfl (fun K hK => ?_) ?_
              · go_simp
                refine hK.out _ _ ⟨q2 _, q3 _, q0 _⟩ (fun hHeld => ?_)
                clear hK K
                try simp only [Act.put, List.setIfInBounds_toArray, List.set_cons_zero, List.set_cons_succ]
                refine wpAnyH_ready (rs := [22]) (by kernel_rfl) (by simp) ?_
                refine AllReadyH.cons rfl (fun K hK => ?_) ?_
                · refine step_append_lies _ (by rfl) _ _ 31 (by rfl) B 3 i0 _ 1 8 Try.underlying31 hi hz0 hz1 hz2 rfl (by decide) _ _ _ (by rfl) (own_ext' HOW.out (((Ext.refl wo).alloc _).drew)) ⟨wo.heap.size, 0, none⟩ 1 1 [.int .i64 k] (by rfl) (by rfl) (World.news_of_block (cs := #[.int .i64 k]) (t := 3) (fr := (0, 0)) (new1 wo _)) (by simp [Value.oneCell']) (by omega) (by unfold maxLen; omega) (by omega) (by simp; omega) _ rfl ?_
                  intro gg cp w2 hown1 hgrow hat2 hlt2
                  have hgw := grown_of_ext (((Ext.refl wo).alloc _).drew) hgrow
                  have s0 := hgrow.cell (q0 _) (fun e => HBB.out e.symm); have s1 := hgrow.cell (q1 _) (fun e => HB.out e.symm); have s2 := hgrow.cell (q2 _) (fun e => HBS.out e.symm); have s3 := hgrow.cell (q3 _) (fun e => HBI.out e.symm)
                  have s4 : w2.frozen? ⟨ba, x, none⟩ = false := (World.frozen?_of_block (w := wo) (hgw.block ba hbal.out (fun e => HB.out e.symm))).trans HFZ.out
                  have hge : sv.ownBlock = some gg ∨ wo.heap.size ≤ gg := hat2.elim .inl (fun h => .inr (by rw [h]; simp))
                  clear hgrow hat2 hlt2
                  refine hK.out _ _ ⟨s2, s3, s0⟩ (fun hHeld => ?_)
                  clear hK K
                  try simp only [Act.put, List.setIfInBounds_toArray, List.set_cons_zero, List.set_cons_succ]
                  refine wpAnyH_take (i := 23) (v := ?_) rfl (by kernel_rfl) (by kernel_rfl) (by kernel_rfl) (fun _ _ _ h => h) (Or.inl ⟨by rfl, ?_⟩) (by assumption) ?_
                  rotate_left
                  · intro w hSw; (try dsimp only at hSw); go_simp; try with_reducible rfl
                  try simp only [Act.put, List.setIfInBounds_toArray, List.set_cons_zero, List.set_cons_succ]
                  refine wpAnyH_ready (rs := [24]) (by kernel_rfl) (by simp) ?_
                  refine AllReadyH.cons rfl (fun K hK => ?_) ?_
                  · go_simp
                    refine hK.out _ _ ⟨(keep_cell (b := ba) _ _ _ hne1).1 s2, (keep_cell (b := ba) _ _ _ hne2).1 s3, (keep_cell (b := ba) _ _ _ hne3).1 s0⟩ (fun hHeld => ?_)
                    clear hK K
                    try simp only [Act.put, List.setIfInBounds_toArray, List.set_cons_zero, List.set_cons_succ]
                    refine wpAnyH_done (by kernel_rfl) ?_ _
                    go_wp2
                    go_meet
                    obtain ⟨cs2, r1, r2⟩ := FIN.out _ _ _ hown1 hgw hge
                    exact ⟨rfl, cs2, r1, r2⟩
                  exact AllReadyH.nil
                exact AllReadyH.nil
              exact AllReadyH.nil
            refine AllReadyH.cons rfl (fun K hK => ?_) ?_
            · go_simp
              refine hK.out _ _ ⟨q2 _, q3 _, q0 _⟩ (fun hHeld => ?_)
              clear hK K
              try simp only [Act.put, List.setIfInBounds_toArray, List.set_cons_zero, List.set_cons_succ]
              refine wpAnyH_ready (rs := [19]) (by kernel_rfl) (by simp) ?_
              refine AllReadyH.cons rfl (fun K hK => ?_) ?_
              · go_simp
                refine hK.out _ _ ⟨q2 _, q3 _, q0 _⟩ (fun hHeld => ?_)
                clear hK K
                try simp only [Act.put, List.setIfInBounds_toArray, List.set_cons_zero, List.set_cons_succ]
                refine wpAnyH_ready (rs := [22]) (by kernel_rfl) (by simp) ?_
                refine AllReadyH.cons rfl (fun K hK => ?_) ?_
                · refine step_append_lies _ (by rfl) _ _ 31 (by rfl) B 3 i0 _ 1 8 Try.underlying31 hi hz0 hz1 hz2 rfl (by decide) _ _ _ (by rfl) (own_ext' HOW.out (((Ext.refl wo).alloc _).drew)) ⟨wo.heap.size, 0, none⟩ 1 1 [.int .i64 k] (by rfl) (by rfl) (World.news_of_block (cs := #[.int .i64 k]) (t := 3) (fr := (0, 0)) (new1 wo _)) (by simp [Value.oneCell']) (by omega) (by unfold maxLen; omega) (by omega) (by simp; omega) _ rfl ?_
                  intro gg cp w2 hown1 hgrow hat2 hlt2
                  have hgw := grown_of_ext (((Ext.refl wo).alloc _).drew) hgrow
                  have s0 := hgrow.cell (q0 _) (fun e => HBB.out e.symm); have s1 := hgrow.cell (q1 _) (fun e => HB.out e.symm); have s2 := hgrow.cell (q2 _) (fun e => HBS.out e.symm); have s3 := hgrow.cell (q3 _) (fun e => HBI.out e.symm)
                  have s4 : w2.frozen? ⟨ba, x, none⟩ = false := (World.frozen?_of_block (w := wo) (hgw.block ba hbal.out (fun e => HB.out e.symm))).trans HFZ.out
                  have hge : sv.ownBlock = some gg ∨ wo.heap.size ≤ gg := hat2.elim .inl (fun h => .inr (by rw [h]; simp))
                  clear hgrow hat2 hlt2
                  refine hK.out _ _ ⟨s2, s3, s0⟩ (fun hHeld => ?_)
                  clear hK K
                  try simp only [Act.put, List.setIfInBounds_toArray, List.set_cons_zero, List.set_cons_succ]
                  refine wpAnyH_take (i := 23) (v := ?_) rfl (by kernel_rfl) (by kernel_rfl) (by kernel_rfl) (fun _ _ _ h => h) (Or.inl ⟨by rfl, ?_⟩) (by assumption) ?_
                  rotate_left
                  · intro w hSw; (try dsimp only at hSw); go_simp; try with_reducible rfl
                  try simp only [Act.put, List.setIfInBounds_toArray, List.set_cons_zero, List.set_cons_succ]
                  refine wpAnyH_ready (rs := [24]) (by kernel_rfl) (by simp) ?_
                  refine AllReadyH.cons rfl (fun K hK => ?_) ?_
                  · go_simp
                    refine hK.out _ _ ⟨(keep_cell (b := ba) _ _ _ hne1).1 s2, (keep_cell (b := ba) _ _ _ hne2).1 s3, (keep_cell (b := ba) _ _ _ hne3).1 s0⟩ (fun hHeld => ?_)
                    clear hK K
                    try simp only [Act.put, List.setIfInBounds_toArray, List.set_cons_zero, List.set_cons_succ]
                    refine wpAnyH_done (by kernel_rfl) ?_ _
                    go_wp2
                    go_meet
                    obtain ⟨cs2, r1, r2⟩ := FIN.out _ _ _ hown1 hgw hge
                    exact ⟨rfl, cs2, r1, r2⟩
                  exact AllReadyH.nil
                exact AllReadyH.nil
              exact AllReadyH.nil
            exact AllReadyH.nil
          case rest =>
            clear BX
            obtain ⟨rfl, cs2, X8, BX⟩ := hcut
            obtain ⟨F2, hF2⟩ : ∃ F2, F2 = (fun u => if u = x then F' u ++ [k] else F' u) := ⟨_, rfl⟩
            rw [← hF2] at X8
            have HFL2 : Hid (∀ u, (F2 u).length ≤ k + 1) := Lib.hid (fun u => by
              have := HFL.out u
              rw [hF2]; dsimp only; split
              · rw [List.length_append, List.length_singleton]; omega
              · omega)
            have hlp2 := Lib.hid (hlp.out.2 F2 hF2)
            have hlp1 := Lib.hid hlp.out.1
            clear hF2 X7 hlp
            go_wp2_with fail
            obtain ⟨sv, e4, hown, hstep⟩ := X8.out.put hlie.out hok.2
            obtain ⟨p0, p1, p2, p3⟩ := X8.out.cells
            have hbo : sv.ownBlock ≠ some ba := fun e => by have := (hown.lt _ e).1; have := hlie.out.la; omega
            have hbi : sv.ownBlock ≠ some bi := fun e => by have := (hown.lt _ e).1; have := hlie.out.li; omega
            have hbs : sv.ownBlock ≠ some bs := fun e => by have := (hown.lt _ e).1; have := hlie.out.ls; omega
            have hbb : sv.ownBlock ≠ some wr.heap.size := fun e => by have := own_kind hown e BX.out; exact absurd this (by decide)
            have hfz := Lib.frozen_of_heap X8.out.H y
            have FIN : Hid (∀ (w2 : World) (gg cp : Nat), w2.ownsRow B 3 1 (.slice (some ⟨gg, 0, none⟩) ((F2 y).length + 1) cp) ((F2 y).length + 1) (iv (zl (F2 y)) ++ [.int .i64 k]) → wc.grownBy w2 sv.ownBlock → (sv.ownBlock = some gg ∨ wc.heap.size ≤ gg) →
                ∃ cs2, Hid (Beg w1 (some ⟨g, o, none⟩) M cap N bs bi ba bn bl B (w2.setCell ⟨ba, y, none⟩ (.slice (some ⟨gg, 0, none⟩) ((F2 y).length + 1) cp)) fv fs cs2 (fun u => if u = y then F2 u ++ [k] else F2 u) F) ∧ Hid ((w2.setCell ⟨ba, y, none⟩ (.slice (some ⟨gg, 0, none⟩) ((F2 y).length + 1) cp)).heap[wr.heap.size]? = some (.cells #[.int .i64 x, .int .i64 y] 37 (0, 0)))) := Lib.hid (fun w2 gg cp h1 h2 h3 => by
              obtain ⟨cs2, hB2⟩ := hstep w2 gg cp k h1 h2 h3
              exact ⟨cs2, Lib.hid hB2, Lib.hid (heap_other (heap_grown BX.out h2 (fun e => hbb e.symm)) _ _ (Nat.ne_of_gt hbaw.out))⟩)
            have e0 : wc.cell? ⟨wr.heap.size, 1, none⟩ = some (.int .i64 y) := by rw [Lib.cell_of_heap BX.out]; rfl
            have EA : Hid (∀ ob, (wc.alloc ob).cell? ⟨wr.heap.size, 1, none⟩ = some (.int .i64 y) ∧ (wc.alloc ob).cell? ⟨ba, y, none⟩ = some sv ∧ (wc.alloc ob).cell? ⟨bs, 0, none⟩ = some (.pointer (some ⟨bi, 0, none⟩)) ∧ (wc.alloc ob).cell? ⟨bi, 1, none⟩ = some (.slice (some ⟨ba, 0, none⟩) N N)) := Lib.hid (fun ob => ⟨((Ext.refl _).alloc ob).cell e0, ((Ext.refl _).alloc ob).cell e4, ((Ext.refl _).alloc ob).cell p0, ((Ext.refl _).alloc ob).cell p3⟩)
            have q0 := fun ob => (EA.out ob).1; have q1 := fun ob => (EA.out ob).2.1; have q2 := fun ob => (EA.out ob).2.2.1; have q3 := fun ob => (EA.out ob).2.2.2
            have hfx := HFL2.out y
            have HOW := Lib.hid hown
            have HB := Lib.hid hbo; have HBB := Lib.hid hbb; have HBI := Lib.hid hbi; have HBS := Lib.hid hbs; have HFZ := Lib.hid hfz
            have hbal : Hid (ba < wc.heap.size) := Lib.hid (Array.getElem?_eq_some_iff.1 X8.out.H).1
            have hZo := X8.out.Z
            clear hown hbo hbb hbi hbs hfz hstep p1 p2
            have hne1 : bs ≠ ba := hlie.out.sa
            have hne2 : bi ≠ ba := hlie.out.ia
            have hne3 : wr.heap.size ≠ ba := Nat.ne_of_gt hbaw.out
            refine wp_region_held_drew (S := (fun w' => w'.cell? ⟨bs, 0, none⟩ = some (.pointer (some ⟨bi, 0, none⟩)) ∧ w'.cell? ⟨bi, 1, none⟩ = some (.slice (some ⟨ba, 0, none⟩) N N) ∧ w'.cell? ⟨wr.heap.size, 1, none⟩ = some (.int .i64 y))) (by kernel_rfl) ⟨p0, p3, e0⟩ (fun hHeld => ?_)
            refine wpAnyH_take (i := 0) (v := ?_) rfl (by kernel_rfl) (by kernel_rfl) (by kernel_rfl) (fun _ _ _ h => h) (Or.inl ⟨by rfl, ?_⟩) (by assumption) ?_
            rotate_left
            · intro w hSw; (try dsimp only at hSw); go_simp; try with_reducible rfl
            try simp only [Act.put, List.setIfInBounds_toArray, List.set_cons_zero, List.set_cons_succ]
            refine wpAnyH_take (i := 1) (v := ?_) rfl (by kernel_rfl) (by kernel_rfl) (by kernel_rfl) (fun _ _ _ h => h) (Or.inl ⟨by rfl, ?_⟩) (by assumption) ?_
            rotate_left
            · intro w hSw; (try dsimp only at hSw); go_simp; try with_reducible rfl
            try simp only [Act.put, List.setIfInBounds_toArray, List.set_cons_zero, List.set_cons_succ]
            refine wpAnyH_take (i := 2) (v := ?_) rfl (by kernel_rfl) (by kernel_rfl) (by kernel_rfl) (fun _ _ _ h => h) (Or.inl ⟨by rfl, ?_⟩) (by assumption) ?_
            rotate_left
            · intro w hSw; (try dsimp only at hSw); go_simp; try with_reducible rfl
            try simp only [Act.put, List.setIfInBounds_toArray, List.set_cons_zero, List.set_cons_succ]
            refine wpAnyH_take (i := 3) (v := ?_) rfl (by kernel_rfl) (by kernel_rfl) (by kernel_rfl) (fun _ _ _ h => h) (Or.inl ⟨by rfl, ?_⟩) (by assumption) ?_
            rotate_left
            · intro w hSw; (try dsimp only at hSw); go_simp; try with_reducible rfl
            try simp only [Act.put, List.setIfInBounds_toArray, List.set_cons_zero, List.set_cons_succ]
            refine wpAnyH_take (i := 4) (v := ?_) rfl (by kernel_rfl) (by kernel_rfl) (by kernel_rfl) (fun _ _ _ h => h) (Or.inl ⟨by rfl, ?_⟩) (by assumption) ?_
            rotate_left
            · intro w hSw; (try dsimp only at hSw); go_simp; try with_reducible rfl
            try simp only [Act.put, List.setIfInBounds_toArray, List.set_cons_zero, List.set_cons_succ]
            refine wpAnyH_take (i := 5) (v := ?_) rfl (by kernel_rfl) (by kernel_rfl) (by kernel_rfl) (fun _ _ _ h => h) (Or.inl ⟨by rfl, ?_⟩) (by assumption) ?_
            rotate_left
            · intro w hSw; (try dsimp only at hSw); go_simp; try with_reducible rfl
            try simp only [Act.put, List.setIfInBounds_toArray, List.set_cons_zero, List.set_cons_succ]
            refine wpAnyH_take (i := 6) (v := ?_) rfl (by kernel_rfl) (by kernel_rfl) (by kernel_rfl) (fun _ _ _ h => h) (Or.inl ⟨by rfl, ?_⟩) (by assumption) ?_
            rotate_left
            · intro w hSw; (try dsimp only at hSw); go_simp; try with_reducible rfl
            try simp only [Act.put, List.setIfInBounds_toArray, List.set_cons_zero, List.set_cons_succ]
            refine wpAnyH_take (i := 7) (v := ?_) rfl (by kernel_rfl) (by kernel_rfl) (by kernel_rfl) (fun _ _ _ h => h) (Or.inl ⟨by rfl, ?_⟩) (by assumption) ?_
            rotate_left
            · intro w hSw; (try dsimp only at hSw); go_simp; try with_reducible rfl
            try simp only [Act.put, List.setIfInBounds_toArray, List.set_cons_zero, List.set_cons_succ]
            refine wpAnyH_take (i := 8) (v := ?_) rfl (by kernel_rfl) (by kernel_rfl) (by kernel_rfl) (fun _ _ _ h => h) (Or.inl ⟨by rfl, ?_⟩) (by assumption) ?_
            rotate_left
            · intro w hSw; (try dsimp only at hSw); go_simp; try with_reducible rfl
            try simp only [Act.put, List.setIfInBounds_toArray, List.set_cons_zero, List.set_cons_succ]
            refine wpAnyH_take (i := 9) (v := ?_) rfl (by kernel_rfl) (by kernel_rfl) (by kernel_rfl) (fun _ _ _ h => h) (Or.inl ⟨by rfl, ?_⟩) (by assumption) ?_
            rotate_left
            · intro w hSw; (try dsimp only at hSw); go_simp; try with_reducible rfl
            try simp only [Act.put, List.setIfInBounds_toArray, List.set_cons_zero, List.set_cons_succ]
            refine wpAnyH_take (i := 10) (v := ?_) rfl (by kernel_rfl) (by kernel_rfl) (by kernel_rfl) (fun _ _ _ h => h) (Or.inl ⟨by rfl, ?_⟩) (by assumption) ?_
            rotate_left
            · intro w hSw; (try dsimp only at hSw); go_simp; try with_reducible rfl
            try simp only [Act.put, List.setIfInBounds_toArray, List.set_cons_zero, List.set_cons_succ]
            refine wpAnyH_take (i := 11) (v := ?_) rfl (by kernel_rfl) (by kernel_rfl) (by kernel_rfl) (fun _ _ _ h => h) (Or.inl ⟨by rfl, ?_⟩) (by assumption) ?_
            rotate_left
            · intro w hSw; (try dsimp only at hSw); go_simp; try with_reducible rfl
            try simp only [Act.put, List.setIfInBounds_toArray, List.set_cons_zero, List.set_cons_succ]
            refine wpAnyH_take (i := 12) (v := ?_) rfl (by kernel_rfl) (by kernel_rfl) (by kernel_rfl) (fun _ _ _ h => h) (Or.inl ⟨by rfl, ?_⟩) (by assumption) ?_
            rotate_left
            · intro w hSw; (try dsimp only at hSw); go_simp; try with_reducible rfl
            try simp only [Act.put, List.setIfInBounds_toArray, List.set_cons_zero, List.set_cons_succ]
            refine wpAnyH_take (i := 13) (v := ?_) rfl (by kernel_rfl) (by kernel_rfl) (by kernel_rfl) (fun _ _ _ h => h) (Or.inl ⟨by rfl, ?_⟩) (by assumption) ?_
            rotate_left
            · intro w hSw; (try dsimp only at hSw); go_simp; try with_reducible rfl
            try simp only [Act.put, List.setIfInBounds_toArray, List.set_cons_zero, List.set_cons_succ]
            refine wpAnyH_take (i := 14) (v := ?_) rfl (by kernel_rfl) (by kernel_rfl) (by kernel_rfl) (fun _ _ _ h => h) (Or.inl ⟨by rfl, ?_⟩) (by assumption) ?_
            rotate_left
            · intro w hSw; (try dsimp only at hSw); go_simp; try with_reducible rfl
            try simp only [Act.put, List.setIfInBounds_toArray, List.set_cons_zero, List.set_cons_succ]
            refine wpAnyH_take (i := 15) (v := ?_) rfl (by kernel_rfl) (by kernel_rfl) (by kernel_rfl) (fun _ _ _ h => h) (Or.inl ⟨by rfl, ?_⟩) (by assumption) ?_
            rotate_left
            · intro w hSw; (try dsimp only at hSw); go_simp; try with_reducible rfl
            try simp only [Act.put, List.setIfInBounds_toArray, List.set_cons_zero, List.set_cons_succ]
            refine wpAnyH_take (i := 16) (v := ?_) rfl (by kernel_rfl) (by kernel_rfl) (by kernel_rfl) (fun _ _ _ h => h) (Or.inl ⟨by rfl, ?_⟩) (by assumption) ?_
            rotate_left
            · intro w hSw; (try dsimp only at hSw); go_simp; try with_reducible rfl
            try simp only [Act.put, List.setIfInBounds_toArray, List.set_cons_zero, List.set_cons_succ]
            refine wpAnyH_take (i := 17) (v := ?_) rfl (by kernel_rfl) (by kernel_rfl) (by kernel_rfl) (fun _ _ _ h => h) (Or.inl ⟨by rfl, ?_⟩) (by assumption) ?_
            rotate_left
            · intro w hSw; (try dsimp only at hSw); go_simp; try with_reducible rfl
            try simp only [Act.put, List.setIfInBounds_toArray, List.set_cons_zero, List.set_cons_succ]
            refine wpAnyH_take (i := 18) (v := ?_) rfl (by kernel_rfl) (by kernel_rfl) (by kernel_rfl) (fun _ _ _ h => h) (Or.inl ⟨by rfl, ?_⟩) (by assumption) ?_
            rotate_left
            · intro w hSw; (try dsimp only at hSw); go_simp; try with_reducible rfl
            try simp only [Act.put, List.setIfInBounds_toArray, List.set_cons_zero, List.set_cons_succ]
            refine wpAnyH_take (i := 20) (v := ?_) rfl (by kernel_rfl) (by kernel_rfl) (by kernel_rfl) (fun _ _ _ h => h) (Or.inl ⟨by rfl, ?_⟩) (by assumption) ?_
            rotate_left
            · intro w hSw; (try dsimp only at hSw); go_simp; try with_reducible rfl
            try simp only [Act.put, List.setIfInBounds_toArray, List.set_cons_zero, List.set_cons_succ]
            refine wpAnyH_ready (rs := [19, 21]) (by kernel_rfl) (by simp) ?_
            refine AllReadyH.cons rfl (fun K hK => ?_) ?_
            · go_simp
              refine hK.out _ _ ⟨p0, p3, e0⟩ (fun hHeld => ?_)
              clear hK K
              try simp only [Act.put, List.setIfInBounds_toArray, List.set_cons_zero, List.set_cons_succ]
              refine wpAnyH_ready (rs := [21]) (by kernel_rfl) (by simp) ?_
              refine AllReadyH.cons rfl (fun K hK => ?_) ?_
              · go_simp
                refine hK.out _ _ ⟨q2 _, q3 _, q0 _⟩ (fun hHeld => ?_)
                clear hK K
                try simp only [Act.put, List.setIfInBounds_toArray, List.set_cons_zero, List.set_cons_succ]
                refine wpAnyH_ready (rs := [22]) (by kernel_rfl) (by simp) ?_
                refine AllReadyH.cons rfl (fun K hK => ?_) ?_
                · refine step_append_lies _ (by rfl) _ _ 31 (by rfl) B 3 i0 _ 1 8 Try.underlying31 hi hz0 hz1 hz2 rfl (by decide) _ _ _ (by rfl) (own_ext' HOW.out (((Ext.refl wc).alloc _).drew)) ⟨wc.heap.size, 0, none⟩ 1 1 [.int .i64 k] (by rfl) (by rfl) (World.news_of_block (cs := #[.int .i64 k]) (t := 3) (fr := (0, 0)) (new1 wc _)) (by simp [Value.oneCell']) (by omega) (by unfold maxLen; omega) (by omega) (by simp; omega) _ rfl ?_
                  intro gg cp w2 hown1 hgrow hat2 hlt2
                  have hgw := grown_of_ext (((Ext.refl wc).alloc _).drew) hgrow
                  have s0 := hgrow.cell (q0 _) (fun e => HBB.out e.symm); have s1 := hgrow.cell (q1 _) (fun e => HB.out e.symm); have s2 := hgrow.cell (q2 _) (fun e => HBS.out e.symm); have s3 := hgrow.cell (q3 _) (fun e => HBI.out e.symm)
                  have s4 : w2.frozen? ⟨ba, y, none⟩ = false := (World.frozen?_of_block (w := wc) (hgw.block ba hbal.out (fun e => HB.out e.symm))).trans HFZ.out
                  have hge : sv.ownBlock = some gg ∨ wc.heap.size ≤ gg := hat2.elim .inl (fun h => .inr (by rw [h]; simp))
                  clear hgrow hat2 hlt2
                  refine hK.out _ _ ⟨s2, s3, s0⟩ (fun hHeld => ?_)
                  clear hK K
                  try simp only [Act.put, List.setIfInBounds_toArray, List.set_cons_zero, List.set_cons_succ]
                  refine wpAnyH_take (i := 23) (v := ?_) rfl (by kernel_rfl) (by kernel_rfl) (by kernel_rfl) (fun _ _ _ h => h) (Or.inl ⟨by rfl, ?_⟩) (by assumption) ?_
                  rotate_left
                  · intro w hSw; (try dsimp only at hSw); go_simp; try with_reducible rfl
                  try simp only [Act.put, List.setIfInBounds_toArray, List.set_cons_zero, List.set_cons_succ]
                  refine wpAnyH_ready (rs := [24]) (by kernel_rfl) (by simp) ?_
                  refine AllReadyH.cons rfl (fun K hK => ?_) ?_
                  · go_simp
                    refine hK.out _ _ ⟨(keep_cell (b := ba) _ _ _ hne1).1 s2, (keep_cell (b := ba) _ _ _ hne2).1 s3, (keep_cell (b := ba) _ _ _ hne3).1 s0⟩ (fun hHeld => ?_)
                    clear hK K
                    try simp only [Act.put, List.setIfInBounds_toArray, List.set_cons_zero, List.set_cons_succ]
                    refine wpAnyH_done (by kernel_rfl) ?_ _
                    obtain ⟨cs3, r1, -⟩ := FIN.out _ _ _ hown1 hgw hge
                    rw [hlp2.out, ← hlp1.out] at r1
                    go_wp2
                    go_roundw
                    case rel => exact ⟨k + 1, _, _, cs3, by omega, by go_num, r1⟩
                    case measure => simp [RowKit.intOf]; omega
                  exact AllReadyH.nil
                exact AllReadyH.nil
              exact AllReadyH.nil
            refine AllReadyH.cons rfl (fun K hK => ?_) ?_
            · go_simp
              refine hK.out _ _ ⟨q2 _, q3 _, q0 _⟩ (fun hHeld => ?_)
              clear hK K
              try simp only [Act.put, List.setIfInBounds_toArray, List.set_cons_zero, List.set_cons_succ]
              refine wpAnyH_ready (rs := [19]) (by kernel_rfl) (by simp) ?_
              refine AllReadyH.cons rfl (fun K hK => ?_) ?_
              · go_simp
                refine hK.out _ _ ⟨q2 _, q3 _, q0 _⟩ (fun hHeld => ?_)
                clear hK K
                try simp only [Act.put, List.setIfInBounds_toArray, List.set_cons_zero, List.set_cons_succ]
                refine wpAnyH_ready (rs := [22]) (by kernel_rfl) (by simp) ?_
                refine AllReadyH.cons rfl (fun K hK => ?_) ?_
                · refine step_append_lies _ (by rfl) _ _ 31 (by rfl) B 3 i0 _ 1 8 Try.underlying31 hi hz0 hz1 hz2 rfl (by decide) _ _ _ (by rfl) (own_ext' HOW.out (((Ext.refl wc).alloc _).drew)) ⟨wc.heap.size, 0, none⟩ 1 1 [.int .i64 k] (by rfl) (by rfl) (World.news_of_block (cs := #[.int .i64 k]) (t := 3) (fr := (0, 0)) (new1 wc _)) (by simp [Value.oneCell']) (by omega) (by unfold maxLen; omega) (by omega) (by simp; omega) _ rfl ?_
                  intro gg cp w2 hown1 hgrow hat2 hlt2
                  have hgw := grown_of_ext (((Ext.refl wc).alloc _).drew) hgrow
                  have s0 := hgrow.cell (q0 _) (fun e => HBB.out e.symm); have s1 := hgrow.cell (q1 _) (fun e => HB.out e.symm); have s2 := hgrow.cell (q2 _) (fun e => HBS.out e.symm); have s3 := hgrow.cell (q3 _) (fun e => HBI.out e.symm)
                  have s4 : w2.frozen? ⟨ba, y, none⟩ = false := (World.frozen?_of_block (w := wc) (hgw.block ba hbal.out (fun e => HB.out e.symm))).trans HFZ.out
                  have hge : sv.ownBlock = some gg ∨ wc.heap.size ≤ gg := hat2.elim .inl (fun h => .inr (by rw [h]; simp))
                  clear hgrow hat2 hlt2
                  refine hK.out _ _ ⟨s2, s3, s0⟩ (fun hHeld => ?_)
                  clear hK K
                  try simp only [Act.put, List.setIfInBounds_toArray, List.set_cons_zero, List.set_cons_succ]
                  refine wpAnyH_take (i := 23) (v := ?_) rfl (by kernel_rfl) (by kernel_rfl) (by kernel_rfl) (fun _ _ _ h => h) (Or.inl ⟨by rfl, ?_⟩) (by assumption) ?_
                  rotate_left
                  · intro w hSw; (try dsimp only at hSw); go_simp; try with_reducible rfl
                  try simp only [Act.put, List.setIfInBounds_toArray, List.set_cons_zero, List.set_cons_succ]
                  refine wpAnyH_ready (rs := [24]) (by kernel_rfl) (by simp) ?_
                  refine AllReadyH.cons rfl (fun K hK => ?_) ?_
                  · go_simp
                    refine hK.out _ _ ⟨(keep_cell (b := ba) _ _ _ hne1).1 s2, (keep_cell (b := ba) _ _ _ hne2).1 s3, (keep_cell (b := ba) _ _ _ hne3).1 s0⟩ (fun hHeld => ?_)
                    clear hK K
                    try simp only [Act.put, List.setIfInBounds_toArray, List.set_cons_zero, List.set_cons_succ]
                    refine wpAnyH_done (by kernel_rfl) ?_ _
                    obtain ⟨cs3, r1, -⟩ := FIN.out _ _ _ hown1 hgw hge
                    rw [hlp2.out, ← hlp1.out] at r1
                    go_wp2
                    go_roundw
                    case rel => exact ⟨k + 1, _, _, cs3, by omega, by go_num, r1⟩
                    case measure => simp [RowKit.intOf]; omega
                  exact AllReadyH.nil
                exact AllReadyH.nil
              exact AllReadyH.nil
            exact AllReadyH.nil
      · have hkM : k = A.length := by have := HM.out; omega
        have hb3 := hb
        rw [hkM] at hb3
        clear hkM hb
        go_wp2
        go_ret
        have hl0 := hlie.out
        refine ⟨bs, bi, ba, bn, bl, B, fv, fs, cs, rfl, ?_, ?_⟩
        · have e1 := hl0.gs; have e2 := hl0.gi; have e3 := hl0.ga; have e4 := hl0.gn; have e5 := hl0.gl
          exact ⟨by omega, by omega, by omega, by omega, by omega, hl0.ls, hl0.li, hl0.la, hl0.ln, hl0.ll, hl0.si, hl0.sa, hl0.sn, hl0.sl, hl0.ia, hl0.in_, hl0.il, hl0.an, hl0.al, hl0.nl⟩
        · have h3 := hb3.out
          exact ⟨h3.S, h3.I, h3.n, h3.l, h3.H, h3.Hn, h3.Hr, h3.Hs, h3.R, h3.C, X1.trans h3.X, h3.Z⟩
end Go.Proofs.Ytaipcpdncmnelaa.Pt
