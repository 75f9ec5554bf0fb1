/- Packed texts: PrtComp -/
import Derived.Test.YtaipcpdncmnelaaPu07
import Derived.Deep.CutRange
set_option linter.unusedVariables false
set_option linter.unusedSimpArgs false
/- The program's Components and Connected, as compP computes them. -/
namespace Go.Proofs.Ytaipcpdncmnelaa.Pt
open Go.RowKit Go.Sort Go.Lib Fx Tp

def seeC (A : Arcs) (x : Nat) (s : List Bool × List Nat) (e : Nat) : List Bool × List Nat :=
  if s.1.getD (oth A e x) false = true then s else (s.1.set (oth A e x) true, s.2 ++ [oth A e x])
def expT (A : Arcs) (s : List Bool × List Nat) (x : Nat) : List Bool × List Nat := (incT A x).foldl (seeC A x) s
def bfsT (A : Arcs) : Nat → Nat → List Bool × List Nat → List Bool × List Nat
  | 0, _, s => s
  | f + 1, i, s => if i < s.2.length then bfsT A f (i + 1) (expT A s (s.2.getD i 0)) else s
def compStep (N : Nat) (A : Arcs) (t : List Bool × List (List Nat)) (v : Nat) : List Bool × List (List Nat) :=
  if t.1.getD v false = true then t else ((bfsT A N 0 (t.1.set v true, [v])).1, t.2 ++ [sortN (bfsT A N 0 (t.1.set v true, [v])).2])
def compK (N : Nat) (A : Arcs) (k : Nat) : List Bool × List (List Nat) := (List.range k).foldl (compStep N A) (List.replicate N false, [])
def compP (N : Nat) (A : Arcs) : List (List Nat) := (compK N A N).2
theorem compK_succ (N : Nat) (A : Arcs) (k : Nat) : compK N A (k + 1) = compStep N A (compK N A k) k := by unfold compK; rw [List.range_succ, List.foldl_append]; rfl
structure BfI (N : Nat) (s : List Bool × List Nat) : Prop where
  len : s.1.length = N
  nd : s.2.Nodup
  mkd : ∀ x ∈ s.2, x < N ∧ s.1.getD x false = true
theorem BfI.le {N : Nat} {s : List Bool × List Nat} (h : BfI N s) : s.2.length ≤ N := nodup_len h.nd (fun x hx => (h.mkd x hx).1)
theorem BfI.see {N : Nat} {A : Arcs} {x e : Nat} {s : List Bool × List Nat} (h : BfI N s) (hw : oth A e x < N) : BfI N (seeC A x s e) := by
  unfold seeC
  split
  · exact h
  · rename_i hm
    refine ⟨by simp [h.len], ?_, fun y hy => ?_⟩
    · rw [List.nodup_append]
      refine ⟨h.nd, by simp, fun a ha b hb e => ?_⟩
      rw [List.mem_singleton.1 hb] at e
      rw [e] at ha; exact hm (h.mkd _ ha).2
    · rw [getD_set, h.len]
      rcases List.mem_append.1 hy with hy | hy
      · refine ⟨(h.mkd y hy).1, ?_⟩
        split
        · rfl
        · exact (h.mkd y hy).2
      · rw [List.mem_singleton.1 hy]
        exact ⟨hw, by rw [if_pos ⟨rfl, hw⟩]⟩
theorem BfI.seeAll {N : Nat} {A : Arcs} {x : Nat} : ∀ (L : List Nat) {s : List Bool × List Nat}, BfI N s → (∀ e ∈ L, oth A e x < N) → BfI N (L.foldl (seeC A x) s)
  | [], _, h, _ => h
  | e :: L, _, h, k => BfI.seeAll L (h.see (k e (List.mem_cons_self ..))) (fun y hy => k y (List.mem_cons_of_mem _ hy))
theorem oth_lt {N : Nat} {A : Arcs} (ok : Ok N A) {e x : Nat} (h : e ∈ incT A x) : oth A e x < N := inc_lt ok (oth_inc h).1
theorem bfsT_end (A : Arcs) (f : Nat) (s : List Bool × List Nat) : bfsT A f s.2.length s = s := by
  cases f with
  | zero => rfl
  | succ f => unfold bfsT; rw [if_neg (by omega)]
theorem seeC_pre (A : Arcs) (x : Nat) (s : List Bool × List Nat) (e : Nat) : ∃ t, (seeC A x s e).2 = s.2 ++ t := by
  unfold seeC; split
  · exact ⟨[], by simp⟩
  · exact ⟨[_], rfl⟩
theorem seeC_preL (A : Arcs) (x : Nat) : ∀ (L : List Nat) (s : List Bool × List Nat), ∃ t, (L.foldl (seeC A x) s).2 = s.2 ++ t
  | [], s => ⟨[], by simp⟩
  | e :: L, s => by
    obtain ⟨t1, h1⟩ := seeC_pre A x s e
    obtain ⟨t2, h2⟩ := seeC_preL A x L (seeC A x s e)
    exact ⟨t1 ++ t2, by rw [List.foldl_cons, h2, h1, List.append_assoc]⟩
theorem bfsT_pre (A : Arcs) : ∀ (f i : Nat) (s : List Bool × List Nat), ∃ t, (bfsT A f i s).2 = s.2 ++ t
  | 0, _, s => ⟨[], by simp [bfsT]⟩
  | f + 1, i, s => by
    unfold bfsT; split
    · obtain ⟨t1, h1⟩ := seeC_preL A (s.2.getD i 0) (incT A (s.2.getD i 0)) s
      obtain ⟨t2, h2⟩ := bfsT_pre A f (i + 1) (expT A s (s.2.getD i 0))
      exact ⟨t1 ++ t2, by rw [h2]; unfold expT; rw [h1, List.append_assoc]⟩
    · exact ⟨[], by simp⟩
theorem foldl_take' {α β : Type} (f : β → α → β) (s : β) (L : List α) (k : Nat) (h : k < L.length) : (L.take (k + 1)).foldl f s = f ((L.take k).foldl f s) L[k] := by
  rw [List.take_succ_eq_append_getElem h, List.foldl_append]; rfl
theorem comp_len (N : Nat) (A : Arcs) : ∀ k, (compK N A k).2.length ≤ k
  | 0 => by simp [compK]
  | k + 1 => by
    have := comp_len N A k
    rw [compK_succ]; unfold compStep; split
    · omega
    · rw [List.length_append, List.length_singleton]; omega
set_option maxHeartbeats 16000000 in
set_option maxRecDepth 100000 in
theorem comp_any (N : Nat) (a : Option Addr) (A : Arcs) (cap : Nat) (w : World) (hN : N ≤ 64) (h : ArcIn w a (zarc A)) (hA : A.length ≤ 256) (ok : Ok N A) :
    Calls Try.prog 11 #[.agg #[.int .i64 N, .slice a A.length cap]] w fun e w' => (∃ fv, e = .returned fv ∧ RowsAt w' w.heap.size fv (compP N A)) ∧ Ext w w' := by
  have hval := fun w1 (x : Ext w w1) => valid_any N a (zarc A) cap w1 (by omega) (by omega) (h.ext x) (zarc_ok hN ok) (by rw [zarc_len]; omega)
  rw [valid_ok hN hA ok, zarc_len] at hval
  have hbg := fun w1 (x : Ext w w1) => begin_any N a A cap w1 hN (h.ext x) hA ok
  obtain ⟨M, hM⟩ : ∃ M, M = A.length := ⟨_, rfl⟩
  rw [← hM] at hA hval hbg ⊢
  have hmk := run_make_row' (P := Try.prog) 33 4 (.bool false) 1 Try.underlying33 info_bool rfl .i64 .i64 N (by omega) (by omega)
  obtain ⟨i0, hi, hz0, hz1, hz2⟩ := info_parts info_int
  obtain ⟨j0, hj, hjz0, hjz1, hjz2⟩ := info_parts info_row
  have HV := Lib.hid hval; have HB := Lib.hid hbg; have HM := Lib.hid hM; have HOK := Lib.hid ok; have HARC := Lib.hid h
  clear h hM hval hbg ok
  go_enter Try.func11, Try.ntmps11
  go_wp2_with (first
    | (go_at_call 28; refine (HB.out _ (((Ext.refl _).alloc _).trans x1)).mono ?_; rintro e w2 ⟨bs, bi, ba, bn, bl, B, fv0, fs0, cs0, rfl, hlie, hbeg⟩; have b2 := box_two (x1.trans hbeg.X); have b20 := b2.1; have b21 := b2.2; have b22 := fun ob => ((Ext.refl w2).alloc ob).cell b20; have HLIE := Lib.hid hlie; have HBEG := Lib.hid hbeg; clear hlie hbeg)
    | (go_at_call 27; refine (HV.out _ ((Ext.refl _).alloc _)).mono ?_; rintro e w1 ⟨rfl, x1⟩; have b1 := box_two x1; have b10 := b1.1; have b11 := b1.2))
  have X2 : Hid (Ext w w2) := Lib.hid ((((Ext.refl w).alloc _).trans x1).trans HBEG.out.X)
  have HRD : Hid (∀ wr, Ext w2 wr → (wr.cell? ⟨bs, 0, none⟩ = some (.pointer (some ⟨bi, 0, none⟩)) ∧ wr.cell? ⟨bi, 0, none⟩ = some (.slice a M cap) ∧ wr.cell? ⟨bi, 1, none⟩ = some (.slice (some ⟨ba, 0, none⟩) N N)) ∧ ∀ v, v < N → ∃ b c, wr.cell? ⟨ba, v, none⟩ = some (.slice b (incT A v).length c) ∧ IntIn wr b (zl (incT A v))) := Lib.hid (fun wr x => by
    have hb := HBEG.out.ext x
    obtain ⟨p0, -, p2, p3⟩ := hb.cells
    refine ⟨⟨p0, p2, p3⟩, fun v hv => ?_⟩
    obtain ⟨sv, h5, h6⟩ := hb.Hr v hv
    obtain ⟨b, c, rfl, hin, -⟩ := own_ints h6 (by rw [zl_len])
    rw [zl_len] at h5
    exact ⟨b, c, by rw [Lib.cell_of_heap hb.H]; exact h5, hin⟩)
  clear b1 b2 b10 b11 b20 b21 b22 HV HB hmk
  obtain ⟨bm, hbm⟩ : ∃ bm, bm = w2.heap.size := ⟨_, rfl⟩
  rw [← hbm]
  have HBM := Lib.hid hbm
  clear hbm
  go_loopw [4, 22] (fun o' i' wr => ∃ (k : Nat) (fv : Value), k ≤ N ∧ fv = o' ∧ i' = .int .i64 k ∧ Hid (BlkB wr bm (compK N A k).1 ∧ (compK N A k).1.length = N) ∧ Hid (RowsAt wr (bm + 1) fv (compK N A k).2) ∧ Ext w2 wr) (fun _ i' _ => N - (RowKit.intOf i').toNat)
  case atStart => exact ⟨0, _, Nat.zero_le _, rfl, rfl, Lib.hid ⟨by rw [HBM.out]; exact BlkB.made w2 N, by simp [compK]⟩, Lib.hid (RowsAt.nil _ _), (Ext.refl _).alloc _⟩
  case round =>
    obtain ⟨k, fv, hk, rfl, rfl, hblk, hrows, hx⟩ := hrel
    have hcs := compK_succ N A k
    have hcl := comp_len N A k
    obtain ⟨T, hT⟩ : ∃ T, T = compK N A k := ⟨_, rfl⟩
    rw [← hT] at hblk hrows hcs hcl
    obtain ⟨mt, F⟩ := T
    dsimp only at hblk hrows hcl
    have hml := hblk.out.2
    by_cases hlt : k < N
    · have e0 := hblk.out.1.cellD (j := k) (by omega)
      clear hT
      by_cases hm : mt.getD k false = true
      · rw [hm] at e0
        have HS : Hid (compK N A (k + 1) = (mt, F)) := Lib.hid (by rw [hcs]; unfold compStep; rw [if_pos hm])
        clear hm hcs
        go_wp2
        go_roundw
        case rel => exact ⟨k + 1, _, by omega, rfl, by go_num, by rw [HS.out]; exact hblk, by rw [HS.out]; exact hrows, hx⟩
        case measure => simp [RowKit.intOf]; omega
      · have hf : mt.getD k false = false := by simpa using hm
        have HS : Hid (compK N A (k + 1) = ((bfsT A N 0 (mt.set k true, [k])).1, F ++ [sortN (bfsT A N 0 (mt.set k true, [k])).2])) := Lib.hid (by rw [hcs]; unfold compStep; rw [if_neg hm])
        rw [hf] at e0
        have e1 := hblk.out.1.frozen k
        have hbs := Lib.hid (hblk.out.1.set k true)
        have hbml := Lib.hid hblk.out.1.lt
        obtain ⟨S1, hS1⟩ : ∃ S1, S1 = bfsT A N 0 (mt.set k true, [k]) := ⟨_, rfl⟩
        rw [← hS1] at HS
        have HS1 := Lib.hid hS1
        have hI0 : Hid (BfI N (mt.set k true, [k])) := Lib.hid ⟨by simp [hml], by simp, fun x hx => by
          rw [List.mem_singleton.1 hx]
          exact ⟨hlt, by rw [getD_set, if_pos ⟨rfl, by omega⟩]⟩⟩
        obtain ⟨wv, hwv⟩ : ∃ wv, wv = wr.setCell ⟨bm, k, none⟩ (.bool true) := ⟨_, rfl⟩
        have hxv : Ext w2 wv := by rw [hwv]; exact hx.setCell (by show w2.heap.size ≤ bm; have := HBM.out; omega) _
        have KV : Hid (Keep (· = bm) wr wv) := Lib.hid (by rw [hwv]; exact (Keep.refl _ wr).setCell _ _ (.inl rfl))
        rw [← hwv] at hbs
        have hrv : Hid (RowsAt wv (bm + 1) fv F) := Lib.hid (by
          obtain ⟨fs, hf⟩ := hrows.out
          exact ⟨fs, hf.keep KV.out (fun g hg e => by have := (hf.uses hg).1; omega)⟩)
        have HSV : Hid (wv.heap.size = wr.heap.size) := Lib.hid (by rw [hwv]; simp [World.setCell])
        have hown0 : Hid ((wv.alloc (.cells #[.int .i64 k] 3)).ownsRow wv.heap.size 3 1 (.slice (some ⟨wv.heap.size, 0, none⟩) 1 1) 1 (iv (zl [k]))) := Lib.hid (World.ownsRow_lit wv #[.int .i64 k] 1 (Nat.le_refl _) (by unfold maxLen; omega) rfl)
        clear hm hf hcs hS1 hblk hrows
        go_wp2_with fail
        rw [← hwv]
        go_loopw [7, 8] (fun o' i' wq => ∃ (i : Nat) (s : List Bool × List Nat), i' = .int .i64 i ∧ Hid (BfI N s ∧ i ≤ s.2.length ∧ bfsT A (N - i) i s = S1) ∧ Hid (wq.ownsRow wv.heap.size 3 1 o' s.2.length (iv (zl s.2))) ∧ Hid (BlkB wq bm s.1) ∧ Hid (Keep (· = bm) wv wq) ∧ Ext w2 wq) (fun _ i' _ => N - (RowKit.intOf i').toNat)
        case atStart =>
          first
            | exact ⟨0, (mt.set k true, [k]), rfl, Lib.hid ⟨hI0.out, Nat.zero_le _, HS1.out.symm⟩, by rw [← HSV.out]; exact hown0, Lib.hid (hbs.out.ext ((Ext.refl _).alloc _)), Lib.hid ((Keep.refl _ wv).alloc _), hxv.alloc _⟩
            | exact ⟨0, (mt.set k true, [k]), rfl, Lib.hid ⟨hI0.out, Nat.zero_le _, HS1.out.symm⟩, hown0, Lib.hid (hbs.out.ext ((Ext.refl _).alloc _)), Lib.hid ((Keep.refl _ wv).alloc _), hxv.alloc _⟩
        case round =>
          clear e0 e1 hwv
          obtain ⟨i, s, rfl, hI, hown, hblk, hK, hy⟩ := hrel
          have hle := hI.out.1.le
          have hil := hI.out.2.1
          have hIl := Lib.hid hI.out.1.len
          obtain ⟨ov, oc, rfl, hin, -⟩ := own_ints hown.out (by rw [zl_len])
          rw [zl_len] at *
          obtain ⟨sn, hsn⟩ : ∃ sn, sn = s.2.length := ⟨_, rfl⟩
          rw [← hsn] at hown hle hil ⊢
          have HSN := Lib.hid hsn
          by_cases hlt' : i < sn
          · have hil2 : i < s.2.length := by omega
            obtain ⟨g, o, rfl, q0⟩ := hin i (by rw [zl_len]; exact hil2)
            rw [zl_at _ _ hil2] at q0
            have hxN := (hI.out.1.mkd _ (List.getElem_mem hil2)).1
            obtain ⟨x, hxe⟩ : ∃ x, x = s.2[i] := ⟨_, rfl⟩
            rw [← hxe] at q0 hxN
            have hstep : Hid (bfsT A (N - (i + 1)) (i + 1) (expT A s x) = S1) := Lib.hid (by
              have h1 := hI.out.2.2
              rw [show N - i = (N - (i + 1)) + 1 by omega] at h1
              unfold bfsT at h1
              rw [if_pos hil2, List.getD_eq_getElem?_getD, List.getElem?_eq_getElem hil2, Option.getD_some, ← hxe] at h1
              exact h1)
            obtain ⟨⟨p0, p2, p3⟩, -⟩ := HRD.out wr hy
            obtain ⟨eb, ec, r1', r2⟩ := (HRD.out w2 (Ext.refl _)).2 x hxN
            have r1 := hy.cell r1'
            clear r1'
            have hrl : (incT A x).length ≤ A.length := incK_len A A.length x
            obtain ⟨R, hR⟩ : ∃ R, R = incT A x := ⟨_, rfl⟩
            obtain ⟨rn, hrn⟩ : ∃ rn, rn = R.length := ⟨_, rfl⟩
            rw [← hR] at r1 r2 hrl
            rw [← hrn] at r1 hrl
            rw [← HM.out] at hrl
            have HR := Lib.hid hR; have HRN := Lib.hid hrn; have HXE := Lib.hid hxe; have HR2 := Lib.hid r2
            have E := fun w5 (x5 : Ext wr w5) => edges_any bi ba N x rn eb ec w5 (x5.cell p3) (x5.cell r1) hxN
            have HE := Lib.hid E
            have b0 : (0 : Int) ≤ (i : Int) := by omega
            have b1 : (i : Int) < (sn : Int) := by omega
            clear hsn hin hxe hR hrn r2 E p2
            go_wp2_with fail
            go_cut [48, 49, 50] from 40 to 50 (fun s48 s49 s50 wx => s48 = .slice eb rn ec ∧ s49 = .int .i64 rn ∧ s50 = .int .i64 0 ∧ Hid (Ext wr wx))
            case first =>
              go_region_with (go_at_call 29; refine (HE.out _ (by first | exact (Ext.refl _).drew | exact Ext.refl _)).mono ?_; rintro e w6 ⟨rfl, rfl⟩)
              all_goals go_wp2
              all_goals go_meet
              all_goals exact ⟨rfl, rfl, rfl, Lib.hid (by first | exact (Ext.refl _).drew | exact Ext.refl _)⟩
            case rest =>
              obtain ⟨rfl, rfl, rfl, hxc⟩ := hcut
              have hownc := Lib.hid (own_ext' hown.out hxc.out)
              have hblkc := Lib.hid (hblk.out.ext hxc.out)
              have hKc := Lib.hid (hK.out.ext hxc.out)
              have hyc := hy.trans hxc.out
              have hI1 := Lib.hid hI.out.1
              clear hown hblk hK hy HE q0 p0 p3 r1
              obtain ⟨wo, hwo⟩ : ∃ wo : World, wo = wc := ⟨_, rfl⟩
              subst hwo
              go_wp2
              go_loopw [7, 50] (fun o' i' wq => ∃ (j : Nat) (s2 : List Bool × List Nat), j ≤ rn ∧ i' = .int .i64 j ∧ Hid (s2 = (R.take j).foldl (seeC A x) s ∧ BfI N s2 ∧ ∃ t, s2.2 = s.2 ++ t) ∧ Hid (wq.ownsRow wv.heap.size 3 1 o' s2.2.length (iv (zl s2.2))) ∧ Hid (BlkB wq bm s2.1) ∧ Hid (Keep (· = bm) wv wq) ∧ Ext w2 wq) (fun _ j' _ => rn - (RowKit.intOf j').toNat)
              case atStart => exact ⟨0, s, Nat.zero_le _, rfl, Lib.hid ⟨rfl, hI1.out, [], by simp⟩, by rw [← HSN.out]; exact hownc, hblkc, hKc, hyc⟩
              case round =>
                clear hownc hblkc hKc hyc
                obtain ⟨j, s2, hjr, rfl, hs2, hown, hblk, hK, hy⟩ := hrel
                obtain ⟨hs2a, hs2b, t, hs2c⟩ := hs2.out
                have hle2 := hs2b.le
                have hln2 := hs2b.len
                obtain ⟨ov2, oc2, rfl, hin2, -⟩ := own_ints hown.out (by rw [zl_len])
                rw [zl_len] at *
                by_cases hlj : j < rn
                · have hjR : j < R.length := by rw [← HRN.out]; exact hlj
                  obtain ⟨g2, o2, heb, u0⟩ := (HR2.out.ext hy) j (by rw [zl_len]; exact hjR)
                  rw [zl_at _ _ hjR] at u0
                  subst heb
                  have hei : R[j] ∈ incT A x := by
                    have : ∀ e ∈ R, e ∈ incT A x := fun e he => by rw [← HR.out]; exact he
                    exact this _ (List.getElem_mem hjR)
                  have hst2 := foldl_take' (seeC A x) s R j hjR
                  rw [← hs2a] at hst2
                  obtain ⟨e, he⟩ : ∃ e, e = R[j] := ⟨_, rfl⟩
                  rw [← he] at u0 hei hst2
                  have huN := oth_lt HOK.out hei
                  have hak := arcN_ok HOK.out (mem_incT.1 hei).1
                  have hsee := hs2b.see (A := A) (x := x) (e := e) huN
                  obtain ⟨⟨p0, p2, p3⟩, -⟩ := HRD.out wr hy
                  have OT := fun w5 (x5 : Ext wr w5) => other_any bi a A M cap e x (.int .i64 0) w5 HM.out (HARC.out.ext ((X2.out.trans hy).trans x5)) (x5.cell p2) hei (by omega)
                  have hi3 : i < s2.2.length := by rw [hs2c, List.length_append]; omega
                  obtain ⟨g3, o3, hov, q0⟩ := hin2 i (by rw [zl_len]; exact hi3)
                  rw [zl_at _ _ hi3] at q0
                  subst hov
                  have hxi : s2.2[i] = x := by
                    have : s2.2[i]? = some x := by rw [hs2c, List.getElem?_append_left hil2, List.getElem?_eq_getElem hil2, HXE.out]
                    rw [List.getElem?_eq_getElem hi3] at this
                    exact Option.some.inj this
                  rw [hxi] at q0
                  obtain ⟨u, hu⟩ : ∃ u, u = oth A e x := ⟨_, rfl⟩
                  rw [← hu] at OT huN
                  have HOT := Lib.hid OT; have HST2 := Lib.hid hst2; have HU := Lib.hid hu; have HS2 := Lib.hid hs2a; have HSEE := Lib.hid hsee; have HC2 := Lib.hid hs2c
                  obtain ⟨sm, hsm⟩ : ∃ sm, sm = s2.2.length := ⟨_, rfl⟩
                  rw [← hsm] at hown hi3 hle2 ⊢
                  have HSM := Lib.hid hsm
                  have b0 : (0 : Int) ≤ (i : Int) := by omega
                  have b1 : (i : Int) < (sm : Int) := by omega
                  clear he hei hak hsee OT hu hst2 hs2a hsm hxi hin2 hs2 hs2c p2 p3
                  go_wp2_with fail
                  go_cut [11] from 54 to 63 (fun s11 wx => s11 = .int .i64 u ∧ Hid (Ext wr wx))
                  case first =>
                    go_region_with (go_at_call 30; refine (HOT.out _ (by first | exact (Ext.refl _).drew | exact Ext.refl _)).mono ?_; rintro r w6 ⟨rfl, x6⟩)
                    all_goals go_wp2
                    all_goals go_meet
                    all_goals exact ⟨rfl, Lib.hid (((Ext.refl _).drew).trans x6)⟩
                  case rest =>
                    obtain ⟨rfl, hxd⟩ := hcut
                    have hownd := Lib.hid (own_ext' hown.out hxd.out)
                    have hblkd := Lib.hid (hblk.out.ext hxd.out)
                    have hKd := Lib.hid (hK.out.ext hxd.out)
                    have hyd := hy.trans hxd.out
                    have m0 := hblkd.out.cellD (j := u) (by omega)
                    have m1 := hblkd.out.frozen u
                    clear hown hblk hK hy p0 q0 u0 HOT b0 b1
                    by_cases hmu : s2.1.getD u false = true
                    · rw [hmu] at m0
                      have hS2 : Hid (seeC A x s2 e = s2) := Lib.hid (by unfold seeC; rw [← HU.out, if_pos hmu])
                      clear hmu
                      go_wp2
                      go_roundw
                      case rel => exact ⟨j + 1, s2, by omega, by go_num, Lib.hid ⟨by rw [HST2.out, hS2.out], hs2b, t, HC2.out⟩, by rw [← HSM.out]; exact hownd, hblkd, hKd, hyd⟩
                      case measure => simp [RowKit.intOf]; omega
                    · have hmf : s2.1.getD u false = false := by simpa using hmu
                      rw [hmf] at m0
                      have hS2 : Hid (seeC A x s2 e = (s2.1.set u true, s2.2 ++ [u])) := Lib.hid (by unfold seeC; rw [← HU.out, if_neg hmu])
                      have hsm1 : sm + 1 ≤ N := by
                        have := HSEE.out.le
                        rw [hS2.out] at this
                        rw [List.length_append, List.length_singleton, ← HSM.out] at this
                        exact this
                      have hbs2 := Lib.hid (hblkd.out.set u true)
                      have hbl2 : Hid (bm < wc.heap.size) := Lib.hid hblkd.out.lt
                      have hbv : Hid (bm < wv.heap.size) := Lib.hid (by have h1 := hbml.out; have h2 := HSV.out; omega)
                      have hown5 : Hid ((wc.setCell ⟨bm, u, none⟩ (.bool true)).ownsRow wv.heap.size 3 1 (.slice (some ⟨g3, o3, none⟩) sm oc2) sm (iv (zl s2.2))) := Lib.hid (own_keep hownd.out (keep_set wc bm u _) (fun q hq e => by have := (hownd.out.lt q hq).1; have := hbv.out; omega))
                      have hK5 : Hid (Keep (· = bm) wv (wc.setCell ⟨bm, u, none⟩ (.bool true))) := Lib.hid (hKd.out.setCell _ _ (.inl rfl))
                      have hy5 : Ext w2 (wc.setCell ⟨bm, u, none⟩ (.bool true)) := hyd.setCell (by show w2.heap.size ≤ bm; have := HBM.out; omega) _
                      have hsz5 : Hid (wv.heap.size ≤ (wc.setCell ⟨bm, u, none⟩ (.bool true)).heap.size) := Lib.hid hK5.out.size
                      clear hmu hmf
                      go_wp2_with (at_builtin; refine wpList_append_lies _ rfl _ _ 31 rfl wv.heap.size 3 i0 _ 1 8 Try.underlying31 hi hz0 hz1 hz2 rfl (by decide) _ _ _ rfl (hown5.out.alloc _) ⟨wc.heap.size, 0, none⟩ 1 1 [.int .i64 u] rfl rfl ?c1 ?c2 (by decide) ?c3 ?c4 ?c5 _ rfl ?_)
                      case c1 => exact new_cells' _ [_] _ _ (by simp [World.setCell])
                      case c2 => simp [Value.oneCell']
                      case c3 => unfold maxLen; omega
                      case c4 => omega
                      case c5 => have := hsz5.out; rw [size_set] at this; simp [World.setCell]; omega
                      intro gg cc w7 hown7 hgrow7 _ _
                      have hblk7 : Hid (BlkB w7 bm (s2.1.set u true)) := Lib.hid (heap_grown (heap_ext hbs2.out ((Ext.refl _).alloc _)) hgrow7 (fun e => by have := (hown5.out.lt _ e.symm).1; have := hbv.out; omega))
                      have hK7 : Hid (Keep (· = bm) wv w7) := Lib.hid ((hK5.out.alloc _).grown hgrow7 (fun q hq hlt => by have := (hown5.out.lt q hq).1; omega))
                      have hy7 : Ext w2 w7 := Below.grown (hy5.alloc _) hgrow7 (by have := hy5.size; rw [size_set] at this; simp [World.setCell]; omega) (fun q hq => by have h1 := (hown5.out.lt q hq).1; have h2 := hxv.size; omega)
                      have hown8 : Hid (w7.ownsRow wv.heap.size 3 1 (.slice (some ⟨gg, 0, none⟩) (sm + 1) cc) (s2.2 ++ [u]).length (iv (zl (s2.2 ++ [u])))) := Lib.hid (by rw [zl_app, iv_app, List.length_append, ← HSM.out]; exact hown7)
                      clear hown7 hgrow7
                      go_wp2
                      go_roundw
                      case rel => exact ⟨j + 1, (s2.1.set u true, s2.2 ++ [u]), by omega, by go_num, Lib.hid ⟨by rw [HST2.out, hS2.out], by have := HSEE.out; rw [hS2.out] at this; exact this, t ++ [u], by rw [HC2.out, List.append_assoc]⟩, hown8, hblk7, hK7, hy7⟩
                      case measure => simp [RowKit.intOf]; omega
                · have hjn : R.take j = R := List.take_of_length_le (by rw [← HRN.out]; omega)
                  rw [hjn] at hs2a
                  have hfin : Hid (BfI N s2 ∧ i + 1 ≤ s2.2.length ∧ bfsT A (N - (i + 1)) (i + 1) s2 = S1) := Lib.hid ⟨hs2b, by rw [hs2c, List.length_append]; omega, by
                    have := hstep.out
                    unfold expT at this
                    rw [← HR.out, ← hs2a] at this
                    exact this⟩
                  clear hjn hs2a hs2 hs2c
                  go_wp2
                  go_roundw
                  case rel => exact ⟨i + 1, s2, by go_num, hfin, hown, hblk, hK, hy⟩
                  case measure => simp [RowKit.intOf]; omega
          · have hisn : i = s.2.length := by omega
            have hend : s = S1 := by
              have h1 := hI.out.2.2
              rw [hisn, bfsT_end] at h1
              exact h1
            have hsne : s.2 ≠ [] := fun e => by
              -- the first vertex stays in the list
              have := bfsT_pre A N 0 (mt.set k true, [k])
              rw [← HS1.out, ← hend] at this
              obtain ⟨t, ht⟩ := this
              rw [e] at ht; simp at ht
            have hK2 := hK; have hown2 := hown
            rw [HSN.out] at hown2
            obtain ⟨pg, pc, hpv, hpb, hpl, hsort⟩ := sort_keep wr hown2.out hsne (by omega)
            rw [← HSN.out] at hpv hsort
            injection hpv with e1 e2 e3
            subst e1; subst e3
            have HSO := Lib.hid hsort
            have HEND := Lib.hid hend
            clear hsort hin hisn hend hown2 hI e2 hsn
            obtain ⟨fs, hfs⟩ := hrv.out
            have HFS := Lib.hid hfs
            clear hfs
            have hFl := hcl
            have hwsz := hK.out.size
            go_wp2_with (go_at_call 31; refine HSO.out.mono ?_; rintro e ws ⟨rfl, ⟨l, hl1, hl2, hl3⟩, k10⟩; revert k10)
            intro k10
            have KS : Hid (Keep (fun b => b = bm ∨ wv.heap.size ≤ b) wv ws) := Lib.hid (Keep.trans' (S := fun b => b = bm ∨ wv.heap.size ≤ b) (hK.out.mono (fun _ _ e => Or.inl e)) k10 (fun q hq e => Or.inr (by rw [e]; exact hpb)))
            have HF5 : Hid (RowsF ws (bm + 1) fv fs F) := Lib.hid (HFS.out.keep KS.out (fun q hq e => by
              have h1 := HFS.out.uses hq
              rcases e with e | e
              · omega
              · omega))
            have HL1 := Lib.hid hl1; have HL2 := Lib.hid hl2; have HL3 := Lib.hid hl3; have HK10 := Lib.hid k10
            have hbmS : Hid (bm < ws.heap.size) := Lib.hid (by have h1 := hbml.out; have h2 := KS.out.size; have h3 := HSV.out; omega)
            clear hl1 hl2 hl3 k10
            go_wp2_with (at_builtin; refine wpList_append_lies _ rfl _ _ 28 rfl (bm + 1) 31 j0 _ 1 24 Try.underlying28 hj hjz0 hjz1 hjz2 rfl (by decide) _ _ _ rfl (HF5.out.own.alloc _) ⟨ws.heap.size, 0, none⟩ 1 1 [.slice (some ⟨pg, 0, none⟩) sn oc] rfl rfl ?k1 ?k2 (by decide) ?k3 ?k4 ?k5 _ rfl ?_)
            case k1 => exact new_cells' _ [_] _ _ rfl
            case k2 => simp [Value.oneCell']
            case k3 => unfold maxLen; omega
            case k4 => omega
            case k5 => have := hbmS.out; simp; omega
            intro gg cc w7 hown7 hgrow7 hat7 _
            have hll : l.length = sn := by rw [HL2.out.length_eq, HSN.out]
            have P := RowsF.push (w := ws.alloc (.cells #[.slice (some ⟨pg, 0, none⟩) sn oc] 31)) (w2 := w7) (k := l) (pa := some ⟨pg, 0, none⟩) (pc := oc) (g := gg) (n := F.length + 1) (c := cc) (HF5.out.ext ((Ext.refl _).alloc _)) (HL1.out.ext ((Ext.refl _).alloc _)) (fun q e => by
                cases e
                have h1 := HK10.out.size
                have h2 := hbml.out
                have h9 := HSV.out
                refine ⟨by show bm + 1 ≤ pg; omega, by show pg < (ws.alloc _).heap.size; simp; omega, fun e2 => ?_⟩
                have h3 := (HFS.out.own.lt _ e2).2
                have h4 : pg < wv.heap.size := h3
                omega) (by rw [hll]; exact hown7) rfl hgrow7 (hat7.elim .inl (fun e => .inr (by rw [e]; simp)))
            have hlS : l = sortN S1.2 := asc_unique ((HL2.out.trans (by rw [HEND.out])).trans (sortN_perm S1.2).symm) HL3.out (sortN_asc _)
            have hP : Hid (RowsAt w7 (bm + 1) (.slice (some ⟨gg, 0, none⟩) (F.length + 1) cc) (compK N A (k + 1)).2) := Lib.hid (by rw [HS.out]; rw [← hlS]; exact ⟨_, P⟩)
            have hblk7 : Hid (BlkB w7 bm (compK N A (k + 1)).1 ∧ (compK N A (k + 1)).1.length = N) := Lib.hid (by
              rw [HS.out, ← HEND.out]
              dsimp only
              have h1 := HK10.out.heap hblk.out (show ¬ bm = pg by have := hbml.out; have := HSV.out; omega)
              exact ⟨heap_grown (heap_ext h1 ((Ext.refl _).alloc _)) hgrow7 (fun e => by have := (HF5.out.own.lt _ e.symm).1; omega), hIl.out⟩)
            have hxs : Ext w2 ws := Below.trans hy (HK10.out.below hy.size (fun q hq e => by have h1 := hxv.size; omega))
            have hx7 : Ext w2 w7 := Below.grown (hxs.alloc _) hgrow7 (by have := hxs.size; simp; omega) (fun q hq => by have h1 := (HF5.out.own.lt q hq).1; have := HBM.out; omega)
            clear P hown7 hgrow7 hat7
            go_wp2
            go_roundw
            case rel => exact ⟨k + 1, _, by omega, rfl, by go_num, hblk7, hP, hx7⟩
            case measure => simp [RowKit.intOf]; omega
    · have hkN : k = N := by omega
      subst hkN
      have hres : F = compP k A := by unfold compP; rw [← hT]
      rw [hres] at hrows
      clear hres hT hcs
      go_wp2
      go_ret
      have := X2.out.size
      have := HBM.out
      exact ⟨⟨_, rfl, hrows.out.low (by omega)⟩, X2.out.trans hx⟩
end Go.Proofs.Ytaipcpdncmnelaa.Pt
