/- Packed texts: PrtCuts -/
import Derived.Test.YtaipcpdncmnelaaPu13
set_option linter.unusedVariables false
set_option linter.unusedSimpArgs false
/- Cuts: the vertices in several blocks that are no loops. -/
namespace Go.Proofs.Ytaipcpdncmnelaa.Pt
open Go.RowKit Go.Sort Go.Lib Go.Maps Fx Tp

theorem int_law : Keyed Try.prog 3 := int_keyed Try.underlying3
theorem bool_zero (w : World) : (zeroValue 4).run Try.prog w = .ok (.bool false) w := by kernel_rfl
theorem cntF_succ (N : Nat) (A : Arcs) (X : List (List Nat)) (k : Nat) (h : k < X.length) : cntF N A X (k + 1) = rowC A (cntF N A X k) X[k] := by
  unfold cntF; rw [List.take_succ_eq_append_getElem h, List.foldl_append]; rfl
theorem seeV_ms {s : List Nat × List Int} {v : Nat} : (seeV s v).1.length ≤ s.1.length + 1 := by
  unfold seeV; split
  · omega
  · simp
theorem edges_ms (A : Arcs) : ∀ (L : List Nat) (s : List Nat × List Int), (L.foldl (edgV A) s).1.length ≤ s.1.length + 2 * L.length
  | [], s => by simp
  | e :: L, s => by
    have h1 := edges_ms A L (edgV A s e)
    have h2 : (edgV A s e).1.length ≤ s.1.length + 2 := by
      unfold edgV
      have a := seeV_ms (s := s) (v := (arcN A e).1)
      have b := seeV_ms (s := seeV s (arcN A e).1) (v := (arcN A e).2)
      omega
    rw [List.foldl_cons, List.length_cons]; omega
/-- Rows read where one block alone has turned. -/
theorem rows_keep {w w' : World} {B bc : Nat} {a : Option Addr} {LL : List (List Int)} (h : RowsB w B a LL) (k : Keep (· = bc) w w') (hb : bc < B) : RowsB w' B a LL := fun j hj => by
  obtain ⟨g, o, ra, rc, h1, h2, h3, h4, h5⟩ := h j hj
  refine ⟨g, o, ra, rc, h1, h2, k.cell h3 (fun e => ?_), fun i hi => ?_, h5⟩
  · have e : g = bc := e
    omega
  · obtain ⟨q, o', ha, hc⟩ := h4 i hi
    refine ⟨q, o', ha, k.cell hc (fun e => ?_)⟩
    have e : q = bc := e
    have := h5 q o' ha
    omega
theorem map_blk {H : Type} {P : Program} {k : TypeId} {R : Value → Option (DataW H × List MemPlace)} {w w' : World} {b n n' : Nat} {D : DataW H} (h : w.ownsMap P k R b n D) (e : w'.heap[b]? = w.heap[b]?) (hn : n ≤ n') : w'.ownsMap P k R b n' D := by
  obtain ⟨es, clock, hb, F, hs, hD⟩ := h
  exact ⟨es, clock, e.trans hb, F, by omega, hD⟩
theorem CntI.sees {N k : Nat} : ∀ (L : List Nat) {s : List Nat × List Int}, CntI N k s → CntI N k (L.foldl seeV s)
  | [], _, h => h
  | v :: L, _, h => CntI.sees L (h.see v)
theorem wf_small (v : Nat) (h : v ≤ 1000) : (Lit.int .i64 (v : Int)).wf = true := by
  unfold Lit.wf
  rw [Bool.and_eq_true, decide_eq_true_eq, decide_eq_true_eq]
  constructor
  · show (-9223372036854775808 : Int) ≤ _; omega
  · show _ ≤ (9223372036854775807 : Int); omega
theorem cutK_succ (c : List Int) (v : Nat) : cutK c (v + 1) = cutK c v ++ (if 1 < c.getD v 0 then [v] else []) := by
  unfold cutK
  rw [List.range_succ, List.filter_append]
  by_cases e : 1 < c.getD v 0
  · rw [if_pos e, List.filter_cons_of_pos (by rw [decide_eq_true e]), List.filter_nil]
  · rw [if_neg e, List.filter_cons_of_neg (by rw [decide_eq_false e]; decide), List.filter_nil]
theorem cutK_len (c : List Int) (v : Nat) : (cutK c v).length ≤ v := by
  unfold cutK; exact Nat.le_trans (List.length_filter_le _ _) (by rw [List.length_range]; exact Nat.le_refl _)
/-- The block's own edges' cells behind the map. -/
def MapM (w : World) (bm n : Nat) (ms : List Nat) : Prop := w.ownsMap Try.prog 3 (plainElem (H := Unit) Try.prog 4) bm n (metD ms)
set_option maxHeartbeats 16000000 in
set_option maxRecDepth 100000 in
theorem cuts_of (VIS : Vis) (N : Nat) (a : Option Addr) (A : Arcs) (cap : Nat) (w : World) (hN : N ≤ 64) (h : ArcIn w a (zarc A)) (hA : A.length ≤ 256) (ok : Ok N A) :
    Calls Try.prog 18 #[.agg #[.int .i64 N, .slice a A.length cap]] w fun e w' => (∃ b c, e = .returned (.slice b (cutsT N A).length c) ∧ IntIn w' b (zl (cutsT N A))) ∧ Ext w w' := by
  have hval := fun w1 (x : Ext w w1) => valid_any N a (zarc A) cap w1 (by omega) (by omega) (h.ext x) (zarc_ok hN ok) (by rw [zarc_len]; omega)
  rw [valid_ok hN hA ok, zarc_len] at hval
  have hbk := fun w1 (x : Ext w w1) => blocks_of VIS N a A cap w1 hN (h.ext x) hA ok
  have BO := blk_ok ok
  have hXl := blocks_len ok
  obtain ⟨M, hM⟩ : ∃ M, M = A.length := ⟨_, rfl⟩
  rw [← hM] at hA hval hbk hXl ⊢
  have hmk := run_make_row' (P := Try.prog) 31 3 (.int .i64 0) 8 Try.underlying31 info_int rfl .i64 .i64 N (by omega) (by omega)
  have hmm := @run_makeMap Try.prog
  obtain ⟨i0, hi, hz0, hz1, hz2⟩ := info_parts info_int
  obtain ⟨X, hX⟩ : ∃ X, X = blocksT N A := ⟨_, rfl⟩
  rw [← hX] at hbk hXl
  have HBN : Hid (cutsT N A = cutK (cntF N A X X.length) N) := Lib.hid (by rw [hX]; rfl)
  have HLT : Hid (∀ C ∈ X, C ≠ [] ∧ (∀ e ∈ C, e < M) ∧ C.length ≤ M) := Lib.hid (fun C hC => by
    rw [hX] at hC
    have := blocks_mem.1 hC
    refine ⟨BO.ne C this, fun e he => by rw [hM]; exact BO.lt C this e he, ?_⟩
    rw [hM]
    exact nodup_le ((BO.asc C this).imp (fun h => Nat.ne_of_lt h)) (BO.lt C this))
  have HV := Lib.hid hval; have HB := Lib.hid hbk; have HM := Lib.hid hM; have HOK := Lib.hid ok; have HARC := Lib.hid h
  obtain ⟨xn, hxn⟩ : ∃ xn, xn = X.length := ⟨_, rfl⟩
  rw [← hxn] at HB hXl
  have HXN := Lib.hid hxn
  clear h hM hval hbk ok VIS BO hX hxn
  go_enter Try.func18, Try.ntmps18
  go_wp2_with (first
    | (go_at_call 22; have z := x1; refine (HB.out _ (x1w.out.trans ((Ext.refl _).alloc _))).mono ?_; rintro e w2 ⟨⟨fa, fc, rfl, hr⟩, x2⟩; have HR := Lib.hid hr; have X2 := Lib.hid x2; clear hr x2)
    | (go_at_call 27; refine (HV.out _ ((Ext.refl _).alloc _)).mono ?_; rintro e w1 ⟨rfl, x1⟩; have b1 := box_two x1; have b10 := b1.1; have b11 := b1.2; have b12 := fun ob => ((Ext.refl w1).alloc ob).cell b10; have b13 := fun ob => ((Ext.refl w1).alloc ob).cell b11; have x1w : Hid (Ext w w1) := Lib.hid (((Ext.refl w).alloc _).trans x1)))
  obtain ⟨bc, hbc⟩ : ∃ bc, bc = w1.heap.size := ⟨_, rfl⟩
  have hxw2 : Hid (Ext w w2) := Lib.hid ((x1w.out.trans ((Ext.refl _).alloc _)).trans X2.out)
  have hrB : Hid (RowsB w2 (bc + 1) fa (X.map zl)) := Lib.hid (HR.out.mono (by rw [hbc]; simp))
  have hbw : Hid (w.heap.size < bc) := Lib.hid (by rw [hbc]; have := x1.size; simp at this; omega)
  have hcb0 : Hid (BlkI w2 bc (List.replicate N 0)) := Lib.hid (by rw [hbc]; exact (BlkI.made w1 N).ext X2.out)
  have hbx : Hid (w2.cell? ⟨w.heap.size, 0, none⟩ = some (.int .i64 N) ∧ w2.cell? ⟨w.heap.size, 1, none⟩ = some (.slice a M cap)) := Lib.hid ⟨X2.out.cell (b12 _), X2.out.cell (b13 _)⟩
  rw [← hbc]
  have HBC := Lib.hid hbc
  clear b1 b10 b11 b12 b13 HV HB HR X2 hmk hbc x1
  go_loopw [23] (fun i' wr => ∃ k : Nat, k ≤ xn ∧ i' = .int .i64 k ∧ Hid (BlkI wr bc (cntF N A X k)) ∧ Hid (Keep (· = bc) w2 wr)) (fun i' _ => xn - (RowKit.intOf i').toNat)
  case atStart => exact ⟨0, Nat.zero_le _, rfl, hcb0, Lib.hid (Keep.refl _ _)⟩
  case round =>
    obtain ⟨k, hk, rfl, hcb, hK⟩ := hrel
    have hx : Hid (Ext w wr) := Lib.hid (Below.trans hxw2.out (hK.out.below hxw2.out.size (fun q hq e => by have := hbw.out; have e : q = bc := e; omega)))
    have b10 := hK.out.cell hbx.out.1 (show ¬ w.heap.size = bc by have := hbw.out; omega)
    have b11 := hK.out.cell hbx.out.2 (show ¬ w.heap.size = bc by have := hbw.out; omega)
    have hci := cnt_ok N A X k (by rw [← HXN.out]; exact hk)
    by_cases hlt : k < xn
    · have hkX : k < X.length := by rw [← HXN.out]; exact hlt
      obtain ⟨g, o, ra, rc, rfl, rg, r0, r1, r5⟩ := hrB.out k (by simpa using hkX)
      have r0 := hK.out.cell r0 (show ¬ g = bc by omega)
      rw [List.getElem_map] at r0 r1
      rw [zl_len] at r0
      obtain ⟨hne, hltC, hCM⟩ := HLT.out _ (List.getElem_mem hkX)
      have hst := cntF_succ N A X k hkX
      obtain ⟨C, hC⟩ : ∃ C, C = X[k] := ⟨_, rfl⟩
      rw [← hC] at r0 r1 hne hltC hst hCM
      clear hC
      obtain ⟨c0, hc0⟩ : ∃ c0, c0 = cntF N A X k := ⟨_, rfl⟩
      rw [← hc0] at hst hcb hci
      have hpos : 0 < C.length := List.length_pos_iff.2 hne
      obtain ⟨q, oq, rfl, q0⟩ := r1 0 (by rw [zl_len]; exact hpos)
      have hqb := r5 q oq rfl
      have q0 := hK.out.cell q0 (show ¬ q = bc by omega)
      rw [zl_at _ _ hpos] at q0
      have hhd : C[0] = hd C := by unfold hd; rw [List.getD_eq_getElem?_getD, List.getElem?_eq_getElem hpos]; rfl
      rw [hhd] at q0
      have hhM := hltC _ (hd_mem hne)
      obtain ⟨t, ht⟩ : ∃ t, t = hd C := ⟨_, rfl⟩
      rw [← ht] at q0 hhM
      have q0' : wr.cell? ⟨q, oq, none⟩ = some (.int .i64 t) := q0
      obtain ⟨cn, hcn⟩ : ∃ cn, cn = C.length := ⟨_, rfl⟩
      rw [← hcn] at r0 hpos hCM
      have HCN := Lib.hid hcn; have HLC := Lib.hid hltC; have HR1 := Lib.hid r1
      have htA : t < A.length := by rw [← HM.out]; exact hhM
      obtain ⟨ga, oa, rfl, d0, d1⟩ := (HARC.out.ext hx.out) t (by rw [zarc_len]; exact htA)
      rw [zarc_at A t htA, ← arcN_at htA] at d0 d1
      obtain ⟨x, hxe⟩ : ∃ x, x = (arcN A t).1 := ⟨_, rfl⟩
      obtain ⟨y, hye⟩ : ∃ y, y = (arcN A t).2 := ⟨_, rfl⟩
      rw [← hxe] at d0; rw [← hye] at d1
      have HIB : Hid (isLp A C = ((x : Int) == (y : Int))) := Lib.hid (by unfold isLp; rw [← ht, ← hxe, ← hye])
      have HCI := Lib.hid hci
      clear hxe hye hcn ht hhd hltC hne hc0 hci r1 r5
      have b0 : (0 : Int) ≤ (t : Int) := by omega
      have b1 : (t : Int) < (M : Int) := by omega
      have b2 : (0 : Int) < (cn : Int) := by omega
      go_wp2_with fail
      go_cut [34] from 27 to 34 (fun s34 wx => s34 = .bool ((x : Int) == (y : Int)) ∧ Hid (Ext wr wx))
      case first =>
        go_region_with (go_at_call 34; refine (loop_any x y _).mono ?_; rintro e w6 ⟨rfl, x6⟩)
        all_goals go_wp2
        all_goals go_meet
        all_goals exact ⟨rfl, Lib.hid (((Ext.refl _).drew).trans x6)⟩
      case rest =>
        obtain ⟨rfl, hxc⟩ := hcut
        have hcbc := Lib.hid (hcb.out.ext hxc.out)
        have hKc := Lib.hid (hK.out.ext hxc.out)
        clear hcb hK b10 b11 r0 d0 d1 q0 q0'
        by_cases hxy : (x : Int) = (y : Int)
        · have hS : Hid (cntF N A X (k + 1) = c0) := Lib.hid (by rw [hst]; unfold rowC; rw [if_pos (by rw [HIB.out, (eq_facts hxy).1])])
          rw [(eq_facts hxy).1]
          clear hst hxy
          go_wp2
          go_roundw
          case rel => exact ⟨k + 1, by omega, by go_num, by rw [hS.out]; exact hcbc, hKc⟩
          case measure => simp [RowKit.intOf]; omega
        · have hS : Hid (cntF N A X (k + 1) = (C.foldl (edgV A) ([], c0)).2) := Lib.hid (by rw [hst]; unfold rowC; rw [if_neg (by rw [HIB.out, (neq_facts hxy).1]; simp)])
          rw [(neq_facts hxy).1]
          clear hst hxy
          have hm0 : MapM (wc.alloc (.map #[] 0)) wc.heap.size (2 * 0) ((List.take 0 C).foldl (edgV A) ([], c0)).1 := World.ownsMap_made _ _ _ _
          have hb0 := hcbc.out.ext ((Ext.refl _).alloc (.map #[] 0))
          have hk0 := hKc.out.alloc (.map #[] 0)
          have HM0 := Lib.hid hm0; have HB0 := Lib.hid hb0; have HK0 := Lib.hid hk0
          have hbmw : Hid (w2.heap.size ≤ wc.heap.size) := Lib.hid hKc.out.size
          clear hm0 hb0 hk0
          go_wp2
          obtain ⟨bm, hbm⟩ : ∃ bm, bm = wc.heap.size := ⟨_, rfl⟩
          rw [← hbm] at HM0 hbmw
          rw [← hbm]
          clear hbm
          go_loopw [38] (fun i' wr => ∃ j : Nat, j ≤ cn ∧ i' = .int .i64 j ∧ Hid (MapM wr bm (2 * j) ((C.take j).foldl (edgV A) ([], c0)).1) ∧ Hid (BlkI wr bc ((C.take j).foldl (edgV A) ([], c0)).2) ∧ Hid (Keep (· = bc) w2 wr)) (fun i' _ => cn - (RowKit.intOf i').toNat)
          case atStart => exact ⟨0, Nat.zero_le _, rfl, HM0, HB0, HK0⟩
          case round =>
            obtain ⟨j, hj, rfl, hmp, hcb2, hK2⟩ := hrel
            have hxw : Hid (Ext w wr) := Lib.hid (Keep.extW hxw2.out hK2.out (fun q hq e => by have := hbw.out; have e : q = bc := e; omega))
            have b10 := hK2.out.cell hbx.out.1 (show ¬ w.heap.size = bc by have := hbw.out; omega)
            have b11 := hK2.out.cell hbx.out.2 (show ¬ w.heap.size = bc by have := hbw.out; omega)
            by_cases hjl : j < cn
            · have hjC : j < C.length := by rw [← HCN.out]; exact hjl
              obtain ⟨q', o', hq', qj⟩ := HR1.out j (by rw [zl_len]; exact hjC)
              cases hq'
              have qj := hK2.out.cell qj (show ¬ q = bc by omega)
              rw [zl_at _ _ hjC] at qj
              have heM := HLC.out _ (List.getElem_mem hjC)
              have hstep : (C.take (j + 1)).foldl (edgV A) ([], c0) = edgV A ((C.take j).foldl (edgV A) ([], c0)) C[j] := by
                rw [List.take_succ_eq_append_getElem hjC, List.foldl_append]; rfl
              obtain ⟨e, he⟩ : ∃ e, e = C[j] := ⟨_, rfl⟩
              rw [← he] at qj heM hstep
              clear he
              obtain ⟨s, hs⟩ : ∃ s, s = (C.take j).foldl (edgV A) ([], c0) := ⟨_, rfl⟩
              rw [← hs] at hstep hmp hcb2
              have hci : CntI N k s := by rw [hs]; exact HCI.out.edges _
              clear hs
              have heA : e < A.length := by rw [← HM.out]; exact heM
              obtain ⟨g2, o2, hg2, d0, d1⟩ := (HARC.out.ext hxw.out) e (by rw [zarc_len]; exact heA)
              cases hg2
              rw [zarc_at A e heA, ← arcN_at heA] at d0 d1
              have hao := arcN_ok HOK.out heA
              rw [show edgV A s e = seeV (seeV s (arcN A e).1) (arcN A e).2 from rfl] at hstep
              obtain ⟨x2, hx2⟩ : ∃ z, z = (arcN A e).1 := ⟨_, rfl⟩
              obtain ⟨y2, hy2⟩ : ∃ z, z = (arcN A e).2 := ⟨_, rfl⟩
              rw [← hx2] at d0 hstep hao
              rw [← hy2] at d1 hstep hao
              obtain ⟨hao1, hao2⟩ := hao
              have HSTEP := Lib.hid hstep; have HCI2 := Lib.hid hci
              have hbml : Hid (bm < wr.heap.size) := Lib.hid hmp.out.lt
              have hbcl : Hid (bc < wr.heap.size) := Lib.hid hcb2.out.lt
              clear hx2 hy2 hstep hci
              have e0 : (0 : Int) ≤ (e : Int) := by omega
              have e1 : (e : Int) < (M : Int) := by omega
              go_wp2_with fail
              go_cut [54, 55, 56] from 42 to 56 (fun s54 s55 s56 wx => s55 = .int .i64 2 ∧ s56 = .int .i64 0 ∧ ∃ gb, s54 = .slice (some ⟨gb, 0, none⟩) 2 2 ∧ Hid (wx.cell? ⟨gb, 0, none⟩ = some (.int .i64 x2) ∧ wx.cell? ⟨gb, 1, none⟩ = some (.int .i64 y2)) ∧ Hid (wr.heap.size ≤ gb) ∧ Hid (Ext wr wx))
              case first =>
                go_region
                all_goals go_wp2
                all_goals go_meet
                all_goals exact ⟨rfl, rfl, wr.heap.size, rfl, Lib.hid ⟨by first | (rw [Lib.cell_of_heap (heap_alloc_new wr _)]; rfl) | (rw [World.cell?_drew, Lib.cell_of_heap (heap_alloc_new wr _)]; rfl) | rfl, by first | (rw [Lib.cell_of_heap (heap_alloc_new wr _)]; rfl) | (rw [World.cell?_drew, Lib.cell_of_heap (heap_alloc_new wr _)]; rfl) | rfl⟩, Lib.hid (Nat.le_refl _), Lib.hid (((Ext.refl _).alloc _).drew)⟩
              case rest =>
                obtain ⟨rfl, rfl, gb, rfl, hends, hgb, hxe⟩ := hcut
                have hm3 : Hid (MapM wc bm (2 * j) s.1) := Lib.hid (map_blk hmp.out (hxe.out.block _ hbml.out) (Nat.le_refl _))
                have hb3 := Lib.hid (hcb2.out.ext hxe.out)
                have hK3 := Lib.hid (hK2.out.ext hxe.out)
                have hgbc : gb ≠ bc := by have := hgb.out; have := hbcl.out; omega
                have hgbm : gb ≠ bm := by have := hgb.out; have := hbml.out; omega
                have hbmc : bm ≠ bc := by
                  intro z
                  have h1 := hmp.out
                  have h2 := hcb2.out
                  rw [z] at h1
                  obtain ⟨es, clock, h3, -⟩ := h1
                  unfold BlkI at h2
                  rw [h2] at h3
                  cases h3
                clear hmp hcb2 hK2 b10 b11 qj d0 d1 e0 e1
                go_wp2
                go_loopw [56] (fun i' wr => ∃ i : Nat, i ≤ 2 ∧ i' = .int .i64 i ∧ Hid (MapM wr bm (2 * j + i) (([x2, y2].take i).foldl seeV s).1) ∧ Hid (BlkI wr bc (([x2, y2].take i).foldl seeV s).2) ∧ Hid (Keep (· = bc) w2 wr) ∧ Hid (wr.cell? ⟨gb, 0, none⟩ = some (.int .i64 x2) ∧ wr.cell? ⟨gb, 1, none⟩ = some (.int .i64 y2))) (fun i' _ => 2 - (RowKit.intOf i').toNat)
                case atStart => exact ⟨0, Nat.zero_le _, rfl, hm3, hb3, hK3, hends⟩
                case round =>
                  obtain ⟨i, hi2, rfl, hm4, hb4, hK4, hE4⟩ := hrel
                  by_cases hil : i < 2
                  · obtain ⟨v, hvN, hcell, hst⟩ : ∃ v : Nat, v < N ∧ wr.cell? ⟨gb, i, none⟩ = some (.int .i64 v) ∧ ([x2, y2].take (i + 1)).foldl seeV s = seeV (([x2, y2].take i).foldl seeV s) v := by
                      match i, hil with
                      | 0, _ => exact ⟨x2, hao1, hE4.out.1, rfl⟩
                      | 1, _ => exact ⟨y2, hao2, hE4.out.2, rfl⟩
                    obtain ⟨s4, hs4⟩ : ∃ s4, s4 = ([x2, y2].take i).foldl seeV s := ⟨_, rfl⟩
                    rw [← hs4] at hst hm4 hb4
                    have hci4 : CntI N k s4 := by rw [hs4]; exact HCI2.out.sees _
                    have HST := Lib.hid hst
                    have hcell0 : wr.cell? ⟨gb, 0 + i, none⟩ = some (.int .i64 v) := by rw [Nat.zero_add]; exact hcell
                    have hwf := wf_small v (by omega)
                    have hjM : j ≤ 256 := by omega
                    clear hst hs4
                    by_cases hms : v ∈ s4.1
                    · have hat : (metD s4.1).atKey (.int .i64 (v : Int)) (.lit (.bool false)) = .lit (.bool true) := by rw [metD_at v _ _ rfl, decide_eq_true hms]
                      have hS4 : Hid (([x2, y2].take (i + 1)).foldl seeV s = s4) := Lib.hid (by rw [HST.out]; unfold seeV; rw [if_pos hms])
                      clear hms
                      go_wp2_with (at_lookup; refine wpList_lookup_own_bool _ rfl _ _ 51 rfl 3 4 int_law Try.underlying51 Try.underlying4 (bool_zero _) bm (2 * j + i) _ rfl hm4.out _ _ rfl (keyOf_int_mk Try.underlying3 hwf) true hat ?_)
                      go_roundw
                      case rel => exact ⟨i + 1, by omega, by go_num, by rw [hS4.out]; exact Lib.hid (map_blk hm4.out rfl (by omega)), by rw [hS4.out]; exact hb4, hK4, hE4⟩
                      case measure => simp [RowKit.intOf]; omega
                    · have hat : (metD s4.1).atKey (.int .i64 (v : Int)) (.lit (.bool false)) = .lit (.bool false) := by rw [metD_at v _ _ rfl, decide_eq_false hms]
                      have hS4 : Hid (([x2, y2].take (i + 1)).foldl seeV s = (s4.1 ++ [v], s4.2.set v (s4.2.getD v 0 + 1))) := Lib.hid (by rw [HST.out]; unfold seeV; rw [if_neg hms])
                      clear hms
                      have l0 := hci4.lo v
                      have l1 := hci4.hi v
                      have l2 : v < s4.2.length := by rw [hci4.len]; exact hvN
                      obtain ⟨z, hz⟩ : ∃ z, z = s4.2.getD v 0 := ⟨_, rfl⟩
                      rw [← hz] at hS4 l0 l1
                      have HZ := Lib.hid hz
                      clear hz
                      have ws := wrap_in (x := z + 1) (by omega) (by omega)
                      go_wp2_with (first
                        | (at_lookup; refine wpList_lookup_own_bool _ rfl _ _ 51 rfl 3 4 int_law Try.underlying51 Try.underlying4 (bool_zero _) bm (2 * j + i) _ rfl hm4.out _ _ rfl (keyOf_int_mk Try.underlying3 hwf) false hat ?_)
                        | (at_mapUpdate; refine wpList_mapUpdate_own _ rfl _ _ _ 51 rfl 3 4 int_law Try.underlying51 _ bm (2 * j + i) _ rfl hm4.out (by unfold maxLen; omega) _ _ _ rfl rfl (keyOf_int_mk Try.underlying3 hwf) _ [] (plainElem_bool Try.underlying4 true) ?_; intro w1 hown1 hgrow1; have hb5 : Hid (BlkI w1 bc s4.2) := Lib.hid ((hgrow1.block bc hb4.out.lt (by intro z; injection z with z; exact hbmc z.symm)).trans hb4.out); have c5 : w1.cell? ⟨bc, v, none⟩ = some (.int .i64 z) := (by rw [HZ.out]; exact hb5.out.cellD l2); have c50 : w1.cell? ⟨bc, 0 + v, none⟩ = some (.int .i64 z) := (by rw [HZ.out]; exact hb5.out.cell0 l2); have f5 := hb5.out.frozen v; have HO1 := Lib.hid hown1; have HG1 := Lib.hid hgrow1; clear hown1 hgrow1))
                      have hB6 : Hid (BlkI (w1.setCell ⟨bc, v, none⟩ (.int .i64 (z + 1))) bc (s4.2.set v (z + 1))) := Lib.hid (hb5.out.set v _)
                      have hM6 : Hid (MapM (w1.setCell ⟨bc, v, none⟩ (.int .i64 (z + 1))) bm (2 * j + i + 1) (s4.1 ++ [v])) := Lib.hid (by
                        unfold MapM
                        rw [metD_snoc]
                        exact map_blk HO1.out (Below.heap_setCell _ _ _ _ hbmc) (Nat.le_refl _))
                      have k6 : Keep (· = bc) w1 (w1.setCell ⟨bc, v, none⟩ (.int .i64 (z + 1))) := (Keep.refl _ _).setCell _ _ (.inl rfl)
                      have hK6 : Hid (Keep (· = bc) w2 (w1.setCell ⟨bc, v, none⟩ (.int .i64 (z + 1)))) := Lib.hid ((hK4.out.grown HG1.out (fun z hz hzl => by injection hz with hz; have := hbmw.out; omega)).trans k6)
                      have hE6 := Lib.hid (And.intro (k6.cell (HG1.out.cell hE4.out.1 (by intro z; injection z with z; exact hgbm z)) hgbc) (k6.cell (HG1.out.cell hE4.out.2 (by intro z; injection z with z; exact hgbm z)) hgbc))
                      clear k6 c5 c50 f5
                      go_roundw
                      case rel => exact ⟨i + 1, by omega, by go_num, by rw [hS4.out]; exact hM6, by rw [hS4.out]; exact hB6, hK6, hE6⟩
                      case measure => simp [RowKit.intOf]; omega
                  · have hi3 : i = 2 := by omega
                    subst hi3
                    have hS5 : Hid (([x2, y2].take 2).foldl seeV s = (C.take (j + 1)).foldl (edgV A) ([], c0)) := Lib.hid (by rw [HSTEP.out]; rfl)
                    go_wp2
                    go_roundw
                    case rel => exact ⟨j + 1, by omega, by go_num, by rw [← hS5.out]; exact hm4, by rw [← hS5.out]; exact hb4, hK4⟩
                    case measure => simp [RowKit.intOf]; omega
            · have hjn : (C.take j).foldl (edgV A) ([], c0) = C.foldl (edgV A) ([], c0) := by rw [List.take_of_length_le]; have := HCN.out; omega
              have hb7 : Hid (BlkI wr bc (cntF N A X (k + 1))) := Lib.hid (by rw [hS.out, ← hjn]; exact hcb2.out)
              clear hjn
              go_wp2
              go_roundw
              case rel => exact ⟨k + 1, by omega, by go_num, hb7, hK2⟩
              case measure => simp [RowKit.intOf]; omega
    · have hkn : k = X.length := by have := HXN.out; omega
      obtain ⟨cc, hcc⟩ : ∃ cc, cc = cntF N A X k := ⟨_, rfl⟩
      have hres : cutsT N A = cutK cc N := by rw [HBN.out, hcc, hkn]
      rw [← hcc] at hcb hci
      have HRES := Lib.hid hres
      have hcl := hci.len
      clear hres hkn hcc
      clear hK
      have HX := Lib.hid hx.out
      go_wp2
      obtain ⟨wk, hwk⟩ : ∃ wk, wk = wr := ⟨_, rfl⟩
      rw [← hwk] at hcb HX
      rw [← hwk]
      clear hwk
      go_loopw [11, 77] (fun o' i' wr => ∃ (v : Nat) (ov : Value), v ≤ N ∧ ov = o' ∧ i' = .int .i64 v ∧ Hid (wr.ownsRow wk.heap.size 3 1 ov (cutK cc v).length (iv (zl (cutK cc v)))) ∧ Hid (Ext wk wr)) (fun _ i' _ => N - (RowKit.intOf i').toNat)
      case atStart => exact ⟨0, _, Nat.zero_le _, rfl, rfl, Lib.hid (World.ownsRow_nil _ _ _ _), Lib.hid (Ext.refl _)⟩
      case round =>
        obtain ⟨v, ov, hvN, rfl, rfl, hown, hxk⟩ := hrel
        by_cases hvl : v < N
        · have hcv := (hcb.out.ext hxk.out).cellD (j := v) (by rw [hcl]; exact hvl)
          have hcv0 := (hcb.out.ext hxk.out).cell0 (j := v) (by rw [hcl]; exact hvl)
          have hst := cutK_succ cc v
          have hkl := cutK_len cc v
          obtain ⟨z, hz⟩ : ∃ z, z = cc.getD v 0 := ⟨_, rfl⟩
          rw [← hz] at hcv hcv0 hst
          clear hz
          obtain ⟨R, hR⟩ : ∃ R, R = cutK cc v := ⟨_, rfl⟩
          rw [← hR] at hst hown hkl
          clear hR
          by_cases hgt : 1 < z
          · have hS : Hid (cutK cc (v + 1) = R ++ [v]) := Lib.hid (by rw [hst, if_pos hgt])
            clear hst
            go_wp2_with (at_builtin; refine wpList_append_lies _ rfl _ _ 31 rfl wk.heap.size 3 i0 _ 1 8 Try.underlying31 hi hz0 hz1 hz2 rfl (by decide) _ _ _ rfl (hown.out.alloc _) ⟨wr.heap.size, 0, none⟩ 1 1 [.int .i64 v] rfl rfl ?c1 ?c2 (by decide) ?c3 ?c4 ?c5 _ rfl ?_)
            case c1 => exact new_cells' _ [_] _ _ rfl
            case c2 => simp [Value.oneCell']
            case c3 => unfold maxLen; omega
            case c4 => omega
            case c5 => have := hxk.out.size; simp; omega
            intro gg cp w3 hown3 hgrow3 _ _
            have hx3 : Hid (Ext wk w3) := Lib.hid (Below.grown (hxk.out.alloc _) hgrow3 (by have := hxk.out.size; simp; omega) (fun q hq => by have := (hown.out.lt q hq).1; omega))
            have hown4 : Hid (w3.ownsRow wk.heap.size 3 1 (.slice (some ⟨gg, 0, none⟩) (R.length + 1) cp) (R ++ [v]).length (iv (zl (R ++ [v])))) := Lib.hid (by rw [zl_app, iv_app, List.length_append]; exact hown3)
            clear hown3 hgrow3
            go_wp2
            go_roundw
            case rel => exact ⟨v + 1, _, by omega, rfl, by go_num, by rw [hS.out]; exact hown4, hx3⟩
            case measure => simp [RowKit.intOf]; omega
          · have hS : Hid (cutK cc (v + 1) = R) := Lib.hid (by rw [hst, if_neg hgt, List.append_nil])
            clear hst
            go_wp2
            go_roundw
            case rel => exact ⟨v + 1, _, by omega, rfl, by go_num, by rw [hS.out]; exact hown, hxk⟩
            case measure => simp [RowKit.intOf]; omega
        · have hvn : v = N := by omega
          subst hvn
          rw [← HRES.out] at hown
          go_wp2
          go_ret
          obtain ⟨ra, rc, rfl, hin, -⟩ := own_ints hown.out (by rw [zl_len])
          exact ⟨⟨ra, rc, by rw [zl_len]; rfl, hin⟩, HX.out.trans hxk.out⟩
end Go.Proofs.Ytaipcpdncmnelaa.Pt
