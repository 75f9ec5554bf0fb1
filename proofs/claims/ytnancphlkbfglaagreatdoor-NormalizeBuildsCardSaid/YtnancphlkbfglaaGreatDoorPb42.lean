/- Packed texts: NorBuiD, NorFew, NorCnt, TreAll -/
import Derived.Test.YtnancphlkbfglaaGreatDoorPb27
import Derived.Test.YtnancphlkbfglaaGreatDoorPb33
import Derived.Test.YtnancphlkbfglaaGreatDoorPb41
import Derived.Test.YtnancphlkbfglaaGreatDoorPb39
import Derived.Test.YtnancphlkbfglaaGreatDoorPb18
import Derived.Test.YtnancphlkbfglaaGreatDoorPb25
import Derived.Test.YtnancphlkbfglaaGreatDoorPb01
set_option linter.unusedVariables false
set_option linter.unusedSimpArgs false
namespace Go.Proofs.YtnancphlkbfglaaGreatDoor.Nm
open Go.RowKit Go.Sort Go.Lib Go.Shelf Fx Lx Tr At
theorem doc0 {w0 w3 : World} (x : Ext w0 w3) (nm : ByteArray) (dir : Bool) : Doc w0 w3.heap.size (w3.heap.size + 1) nm dir (w3.alloc (.cells #[.string nm, .bool dir, .slice none 0 0, .slice none 0 0, .slice none 0 0, .slice none 0 0, .slice none 0 0, .int .i64 0] 88)) (.slice none 0 0) (.slice none 0 0) (.slice none 0 0) (.slice none 0 0) [] [] ⟨[], [], [], []⟩ 0 :=
  ⟨heap_alloc_new _ _, World.ownsRow_nil _ _ _ _, World.ownsRow_nil _ _ _ _, World.ownsRow_nil _ _ _ _, World.ownsRow_nil _ _ _ _, AtLs.nil _, rfl, AtLs.nil _, x.alloc _, by simp, x.size, Nat.lt_succ_self _⟩
set_option maxHeartbeats 8000000 in
set_option maxRecDepth 100000 in
theorem buildD_any (nm : ByteArray) (dir : Bool) (b : Option Addr) (L : List Stm) (cap n : Nat) (w : World) (hn : n ≤ w.heap.size) (h : StmsAt n w b L) (hlen : L.length ≤ maxLen) (hs : cntL L ≤ 1099511627776) (hbig : BigL L) (hnm : nm.size ≤ 9223372036854775807) (hfw : ∀ p ∈ flatL 0 L, p.1.refs.length ≤ 10 ∧ p.1.attrs.length ≤ 20) :
    Calls Tryz.prog 11 #[.agg #[.string nm, .bool dir, .slice b L.length cap]] w fun e w' => DocR (buildT nm dir L) e w' ∧ Ext w w' := by
  obtain ⟨R, hR⟩ : ∃ R, R = buildT nm dir L := ⟨_, rfl⟩
  rw [← hR]
  unfold buildT at hR
  have hok := fun hv => ok_valid (nm := nm) (L := L) hv hfw
  have hvc := fun (w5 : World) (x : Ext w w5) => validR_big nm dir b L cap n w5 (Nat.le_trans hn x.size) (StmsAt.below (x.mono hn) L h) (by rw [cntL_flat]; exact hs) hbig hnm
  obtain ⟨V, hV⟩ : ∃ V, V = validE nm L := ⟨_, rfl⟩
  rw [← hV] at hR hok hvc
  obtain ⟨N, hN⟩ : ∃ N, N = L.length := ⟨_, rfl⟩
  rw [← hN] at hvc hlen ⊢
  have HOK := Lib.hid hok; have HVC := Lib.hid hvc; have HR := Lib.hid hR; have HST := Lib.hid h; have HN := Lib.hid hN; have HNN := Lib.hid hn
  clear hok hvc hR h hN hn hs hbig hnm hfw hV
  go_enter Tryz.func11, Tryz.ntmps11
  by_cases hv0 : V = 0
  case neg =>
    obtain ⟨f1, f2⟩ := nfacts hv0
    have hr : Hid (R = .error V) := Lib.hid (by rw [HR.out, if_pos hv0])
    go_wp2_with (go_at_call 31; refine (HVC.out _ (((Ext.refl _).alloc _).alloc _)).mono ?_; rintro e w3 ⟨rfl, x3⟩; have HG3 := Lib.hid (two_newG x3); obtain ⟨z0, z1, z2, z3, z4⟩ := cells5g HG3.out; have zf : ∀ j, w3.frozen? ⟨w.heap.size + 1, j, none⟩ = false := (fun j => Lib.frozen_of_heap HG3.out j))
    (try simp only [Exit.inBlock, Exit.then]); refine bodyPost_ret (results_gr rfl _ _ (w.heap.size + 1) _ (.int .i64 V) rfl rfl rfl (set5g HG3.out _ _ _ _ _)) rfl ?_
    rw [hr.out]
    exact ⟨⟨rfl, hv0⟩, ext5g ((((Ext.refl _).alloc _).alloc _).trans x3) (Nat.le_succ _) _ _ _ _ _⟩
  subst hv0
  obtain ⟨f1, f2⟩ := efacts 0
  go_wp2_with (first
    | (go_at_call 31; refine (HVC.out _ (((Ext.refl _).alloc _).alloc _)).mono ?_; rintro e w3 ⟨rfl, x3⟩; have HG3 := Lib.hid (two_newG x3); have tc := boxes x3; have t0 := tc.1 0 _ rfl; have t1 := tc.1 1 _ rfl; have t2 := tc.1 2 _ rfl; have X3 := Lib.hid ((((Ext.refl _).alloc _).alloc _).trans x3 : Ext w w3); have HT3 := Lib.hid (box_newG x3); have t2m := fun (o1 : Obj) => ((Ext.refl w3).alloc o1).cell t2; clear tc x3))
  have HB0 := Lib.hid (doc0 X3.out nm dir)
  obtain ⟨w6, hw6⟩ : ∃ w6, w6 = (w3.alloc (.cells #[.string nm, .bool dir, .slice none 0 0, .slice none 0 0, .slice none 0 0, .slice none 0 0, .slice none 0 0, .int .i64 0] 88)) := ⟨_, rfl⟩
  have x36 : Ext w3 w6 := by rw [hw6]; exact (Ext.refl _).alloc _
  rw [← hw6] at HB0
  have HG6 := Lib.hid (At.heap_ext HG3.out x36)
  obtain ⟨BR, hBR⟩ : ∃ r, r = blkL ⟨-1, [], []⟩ ⟨[], [], [], []⟩ L := ⟨_, rfl⟩
  obtain ⟨ok1, ok2, ok3⟩ := HOK.out trivial
  have hblk := blkD_any w w3.heap.size (w3.heap.size + 1) nm dir n HNN.out (cntL L) L b cap ⟨-1, [], []⟩ (.slice none 0 0) (.slice none 0 0) ⟨[], [], [], []⟩ 0 w6 (Nat.le_refl _) HST.out (by rw [← HN.out]; exact hlen) ok3 Sml.nil ⟨by decide, by decide, SmA.nil _, SmA.nil _⟩ (by omega) ⟨_, _, _, _, _, _, HB0.out⟩ (AtL.nil _) (AtL.nil _)
  have hsm := fun S' => Sml.stms L 0 ⟨-1, [], []⟩ ⟨[], [], [], []⟩ S' ok3 Sml.nil ⟨by decide, by decide, SmA.nil _, SmA.nil _⟩
  rw [← hBR] at hblk hsm
  rw [← HN.out] at hblk
  have HBL := Lib.hid hblk; have HSM := Lib.hid hsm
  have hR := HR.out
  rw [if_neg (by decide), ← hBR] at hR
  have HR2 := Lib.hid hR
  have HOK2 := Lib.hid ok2; have HOK1 := Lib.hid ok1
  have hbig : w.heap.size + 1 < w3.heap.size := (Array.getElem?_eq_some_iff.1 HG3.out).1
  obtain ⟨bb, hbb⟩ : ∃ x, x = w3.heap.size := ⟨_, rfl⟩
  rw [← hw6]
  rw [← hbb] at HBL hbig
  rw [← hbb]
  obtain ⟨B, hB⟩ : ∃ x, x = bb + 1 := ⟨_, rfl⟩
  rw [← hB] at HBL
  clear hblk hsm hR HR HOK HVC HST hBR x36 HG3 HT3 hw6 hbb hB t0 t1 t2 t2m HB0 ok1 ok2 ok3 f1 f2
  cases BR with
  | error er =>
    have hr : Hid (R = .error er) := Lib.hid HR2.out
    go_upto_region 7 with (go_at_call 32; refine HBL.out.mono ?_; rintro e w7 ⟨rfl, ⟨her, S7, nv, av, cv, lv, aw, ks, d7⟩, kb7⟩; obtain ⟨g1, g2⟩ := nfacts her; have HG7 := Lib.hid (kb7.blk _ _ _ _ HG6.out (by decide) (by decide) (by decide) (by decide) (by decide)); obtain ⟨z0, z1, z2, z3, z4⟩ := cells5g HG7.out; have zf : ∀ j, w7.frozen? ⟨w.heap.size + 1, j, none⟩ = false := (fun j => Lib.frozen_of_heap HG7.out j); obtain ⟨-, -, -, -, -, -, s7⟩ := d7.cells; have x7 := d7.X)
    have hbn : bb ≠ w.heap.size + 1 := by omega
    have s8 := cell_set5 hbn s7 (.string ⟨#[]⟩) (.bool false) (.slice none 0 0) (.slice none 0 0) (.slice none 0 0)
    have s9 := cell_set5 hbn ((Ext.refl w7).drew.cell s7) (.string ⟨#[]⟩) (.bool false) (.slice none 0 0) (.slice none 0 0) (.slice none 0 0)
    clear g1 g2
    go_region
    all_goals go_wp2_with fail
    all_goals refine bodyPost_ret (results_gr rfl _ _ (w.heap.size + 1) _ (.int .i64 er) rfl rfl rfl (At.heap_ext (set5g HG7.out _ _ _ _ _) (Ext.refl _).drew)) rfl ?_
    all_goals rw [hr.out]
    all_goals exact ⟨⟨rfl, her⟩, (ext5g x7 (Nat.le_succ _) _ _ _ _ _).drew⟩
  | ok S =>
    have hS := HSM.out S rfl
    have hSm := hS.mono (m' := 10000) (k' := 1000) (by have := HOK2.out; omega) (by have := HOK2.out; omega)
    have hfi := fun (w7 : World) (nv av cv lv : Value) (aw : List Value) (ks : List (Lk × Value)) (d7 : Doc w bb B nm dir w7 nv av cv lv aw ks S 0) => finish_any d7 hSm (by have := HOK1.out; omega)
    have hr : Hid (R = finT nm dir S) := Lib.hid HR2.out
    rw [← hr.out] at hfi
    have HFI := Lib.hid hfi
    clear hS hSm hfi hr HR2 HSM HOK1 HOK2
    obtain ⟨f1, f2⟩ := efacts 0
    cases R with
    | error er =>
      go_wp2_with (first
        | (go_at_call 32; refine HBL.out.mono ?_; rintro e w7 ⟨rfl, ⟨nv, av, cv, lv, aw, ks, d7⟩, kb7⟩; have HG7 := Lib.hid (kb7.blk _ _ _ _ HG6.out (by decide) (by decide) (by decide) (by decide) (by decide)); obtain ⟨-, -, -, -, -, -, s7⟩ := d7.cells; have X7 := Lib.hid d7.X; have D7 := Lib.hid d7; clear d7 kb7)
        | (go_at_call 33; refine Calls.mono (by with_reducible exact HFI.out _ _ _ _ _ _ _ D7.out) ?_; rintro e w8 ⟨⟨rfl, her⟩, x8⟩; have HG8 := Lib.hid (At.heap_ext HG7.out x8); obtain ⟨z0, z1, z2, z3, z4⟩ := cells5g HG8.out; have zf : ∀ j, w8.frozen? ⟨w.heap.size + 1, j, none⟩ = false := (fun j => Lib.frozen_of_heap HG8.out j); unfold gr0V))
      (try simp only [Exit.inBlock, Exit.then]); refine bodyPost_ret (results_gr rfl _ _ (w.heap.size + 1) _ (.int .i64 er) rfl rfl rfl (set5g HG8.out _ _ _ _ _)) rfl ?_
      exact ⟨⟨rfl, her⟩, ext5g (X7.out.trans x8) (Nat.le_succ _) _ _ _ _ _⟩
    | ok g =>
      go_wp2_with (first
        | (go_at_call 32; refine HBL.out.mono ?_; rintro e w7 ⟨rfl, ⟨nv, av, cv, lv, aw, ks, d7⟩, kb7⟩; have HG7 := Lib.hid (kb7.blk _ _ _ _ HG6.out (by decide) (by decide) (by decide) (by decide) (by decide)); obtain ⟨-, -, -, -, -, -, s7⟩ := d7.cells; have X7 := Lib.hid d7.X; have D7 := Lib.hid d7; clear d7 kb7)
        | (go_at_call 33; refine Calls.mono (by with_reducible exact HFI.out _ _ _ _ _ _ _ D7.out) ?_; rintro e w8 ⟨⟨v, rfl, hgi⟩, x8⟩; have HGI := Lib.hid hgi; obtain ⟨gn, gnc, ge, gec, gc, gcc, hv, -⟩ := hgi; subst hv; have HG8 := Lib.hid (At.heap_ext HG7.out x8); obtain ⟨z0, z1, z2, z3, z4⟩ := cells5g HG8.out; have zf : ∀ j, w8.frozen? ⟨w.heap.size + 1, j, none⟩ = false := (fun j => Lib.frozen_of_heap HG8.out j)))
      (try simp only [Exit.inBlock, Exit.then]); refine bodyPost_ret (results_gr rfl _ _ (w.heap.size + 1) _ (.int .i64 0) rfl rfl rfl (set5g HG8.out _ _ _ _ _)) rfl ?_
      exact ⟨⟨_, rfl, HGI.out.box HG8.out _ _ _ _ _⟩, ext5g (X7.out.trans x8) (Nat.le_succ _) _ _ _ _ _⟩
end Go.Proofs.YtnancphlkbfglaaGreatDoor.Nm

namespace Go.Proofs.YtnancphlkbfglaaGreatDoor.Nm
open Go.RowKit Go.Sort Go.Lib Go.Shelf Fx Lx Tr
mutual
def fewS (dep : Nat) : Stm → Bool
  | .mk _ _ rs al b => decide (rs.length ≤ 10) && decide (al.length ≤ 20) && (decide (b.length ≤ 20) && decide (dep ≤ 7) && fewA (dep + 1) b)
def fewA (dep : Nat) : List Stm → Bool
  | [] => true
  | x :: r => fewS dep x && fewA dep r
end
def fewB (dep : Nat) (L : List Stm) : Bool := decide (L.length ≤ 20) && decide (dep ≤ 8) && fewA dep L
theorem fewS_mk (dep : Nat) (k : Int) (n : ByteArray) (rs al : List Two) (b : List Stm) : fewS dep (.mk k n rs al b) = (decide (rs.length ≤ 10) && decide (al.length ≤ 20) && fewB (dep + 1) b) := by
  rw [fewS]; unfold fewB
  rw [show decide (dep + 1 ≤ 8) = decide (dep ≤ 7) by rw [decide_eq_decide]; omega]
theorem fewA_cons (dep : Nat) (x : Stm) (r : List Stm) : fewA dep (x :: r) = (fewS dep x && fewA dep r) := by rw [fewA]
theorem fewA_nil (dep : Nat) : fewA dep [] = true := by rw [fewA]
set_option maxHeartbeats 4000000 in
set_option maxRecDepth 100000 in
theorem few_any : ∀ (K : Nat) (L : List Stm) (b : Option Addr) (cap n dep : Nat) (w : World), sizeL L ≤ K → L.length ≤ maxLen → dep ≤ 9 → n ≤ w.heap.size → StmsAt n w b L →
    Calls Tryz.prog 8 #[.slice b L.length cap, .int .i64 dep] w fun e w' => e = .returned (.bool (fewB dep L)) ∧ Ext w w' := by
  intro K
  induction K using Nat.strongRecOn with
  | _ K ih =>
  intro L b cap n dep w hK hmax hdep hn hL
  obtain ⟨V, hV⟩ : ∃ V, V = fewB dep L := ⟨_, rfl⟩
  rw [← hV]
  unfold fewB at hV
  obtain ⟨N, hN⟩ : ∃ N, N = L.length := ⟨_, rfl⟩
  rw [← hN] at hV hmax ⊢
  unfold maxLen at hmax
  by_cases h20 : N ≤ 20
  · by_cases h8 : dep ≤ 8
    · rw [decide_eq_true h20, decide_eq_true h8, Bool.true_and, Bool.true_and] at hV
      have f1 : decide ((20 : Int) < N) = false := decide_eq_false (by omega)
      have f2 : decide ((8 : Int) < dep) = false := decide_eq_false (by omega)
      have f1' : ¬ (20 : Int) < N := by omega
      have f2' : ¬ (8 : Int) < dep := by omega
      have HV : Hid (V = fewA dep (L.drop 0)) := Lib.hid hV
      have HN := Lib.hid hN; have HL := Lib.hid hL; have HK := Lib.hid hK; have HNW := Lib.hid hn; have HIH := Lib.hid ih
      clear hV hN hL hK hn ih
      go_enter Tryz.func8, Tryz.ntmps8
      go_wp2_with fail
      go_loopw [5] (fun i' wr => ∃ k : Nat, k ≤ N ∧ i' = .int .i64 k ∧ Ext w wr ∧ Hid (V = fewA dep (L.drop k))) (fun i' _ => N - (RowKit.intOf i').toNat)
      case atStart => exact ⟨0, by omega, rfl, Ext.refl _, HV⟩
      case round =>
        obtain ⟨k, hk, rfl, hx, hb⟩ := hrel
        clear HV
        by_cases hlt : k < N
        · have hkl : k < L.length := by rw [← HN.out]; exact hlt
          have hbn : Below n w wr := Below.mono hx HNW.out
          obtain ⟨g, o, rfl, hg, hst⟩ := StmsAt.at L (StmsAt.below hbn L HL.out) k hkl
          have hsz : sizeS L[k] ≤ K := Nat.le_trans (sizeL_at L k hkl) HK.out
          have hbv := hb.out
          rw [List.drop_eq_getElem_cons hkl, fewA_cons] at hbv
          obtain ⟨s, hs⟩ : ∃ s, s = L[k] := ⟨_, rfl⟩
          rw [← hs] at hst hsz hbv
          clear hs hb
          obtain ⟨kind, nm, rs, al, body⟩ := s
          have hbd := sizeS_body (.mk kind nm rs al body)
          simp only [Stm.body, Stm.name, Stm.refs, Stm.attrs] at hbd
          rw [StmAt] at hst
          obtain ⟨r, rc, a', atc, b', bc, c0, c1, c2, c3, c4, hr, ha, hbs, hl1, hl2, hl3, hl4, hl5⟩ := hst
          have hwn : n ≤ wr.heap.size := Nat.le_trans HNW.out hx.size
          have hcall := HIH.out (sizeL body) (by omega) body b' bc n (dep + 1) wr (Nat.le_refl _) hl5 (by omega) hwn (StmsAt.below (Below.refl _ _) body hbs)
          rw [fewS_mk] at hbv
          have hrl : rs.length ≤ 9223372036854775807 := by unfold maxLen at hl3; omega
          have hal : al.length ≤ 9223372036854775807 := by unfold maxLen at hl4; omega
          generalize fewB (dep + 1) body = cc at hbv hcall
          have hdp : ((dep + 1 : Nat) : Int) = (dep : Int) + 1 := by omega
          rw [hdp] at hcall
          have HC := Lib.hid hcall
          clear hcall hbd hsz hr ha hbs hl1 hl2 hl3 hl4 hl5 hg hbn hwn hdp
          generalize rs.length = R at *
          generalize al.length = A at *
          generalize body.length = B at *
          by_cases e1 : R ≤ 10
          · have g1 : ¬ (10 : Int) < R := by omega
            by_cases e2 : A ≤ 20
            · have g2 : ¬ (20 : Int) < A := by omega
              rw [decide_eq_true e1, decide_eq_true e2, Bool.true_and, Bool.true_and] at hbv
              cases cc
              · rw [Bool.false_and] at hbv
                have hf := Lib.hid hbv
                clear hbv
                go_wp2_with (go_at_call 8; refine HC.out.mono ?_; rintro e w5 ⟨rfl, x5⟩)
                go_returns
                exact ⟨by rw [hf.out]; rfl, hx.trans x5⟩
              · rw [Bool.true_and] at hbv
                have hf := Lib.hid hbv
                clear hbv
                go_wp2_with (go_at_call 8; refine HC.out.mono ?_; rintro e w5 ⟨rfl, x5⟩)
                go_roundw
                case rel => exact ⟨k + 1, by omega, by go_num, hx.trans x5, hf⟩
                case measure => simp [RowKit.intOf]; omega
            · have g2 : (20 : Int) < A := by omega
              have hf : Hid (V = false) := Lib.hid (by rw [hbv, decide_eq_false e2]; simp)
              clear hbv e2
              go_wp2_with fail
              go_returns
              exact ⟨by rw [hf.out]; rfl, hx⟩
          · have g1 : (10 : Int) < R := by omega
            have hf : Hid (V = false) := Lib.hid (by rw [hbv, decide_eq_false e1]; simp)
            clear hbv e1
            go_wp2_with fail
            go_returns
            exact ⟨by rw [hf.out]; rfl, hx⟩
        · have hf : Hid (V = true) := Lib.hid (by rw [hb.out, List.drop_eq_nil_of_le (by rw [← HN.out]; omega), fewA_nil])
          clear hb
          go_wp2_with fail
          go_returns
          exact ⟨by rw [hf.out]; rfl, hx⟩
    · have f1' : ¬ (20 : Int) < N := by omega
      have f2' : (8 : Int) < dep := by omega
      have hf : Hid (V = false) := Lib.hid (by rw [hV, decide_eq_false h8]; simp)
      clear hV hN hL hK hn ih h8
      go_enter Tryz.func8, Tryz.ntmps8
      go_wp2_with fail
      go_returns
      exact ⟨by rw [hf.out]; rfl, Ext.refl _⟩
  · have f1' : (20 : Int) < N := by omega
    have hf : Hid (V = false) := Lib.hid (by rw [hV, decide_eq_false h20]; simp)
    clear hV hN hL hK hn ih h20
    go_enter Tryz.func8, Tryz.ntmps8
    go_wp2_with fail
    go_returns
    exact ⟨by rw [hf.out]; rfl, Ext.refl _⟩
end Go.Proofs.YtnancphlkbfglaaGreatDoor.Nm

namespace Go.Proofs.YtnancphlkbfglaaGreatDoor.Nm
open Go.Lib Fx Lx Tr
def cntF : Nat → Nat
  | 0 => 0
  | k + 1 => 20 * (1 + cntF k)
theorem fewB_parts {dep : Nat} {L : List Stm} (h : fewB dep L = true) : L.length ≤ 20 ∧ dep ≤ 8 ∧ fewA dep L = true := by
  unfold fewB at h
  rw [Bool.and_eq_true, Bool.and_eq_true, decide_eq_true_eq, decide_eq_true_eq] at h
  exact ⟨h.1.1, h.1.2, h.2⟩
theorem fewS_parts {dep : Nat} {x : Stm} (h : fewS dep x = true) : x.refs.length ≤ 10 ∧ x.attrs.length ≤ 20 ∧ fewB (dep + 1) x.body = true := by
  obtain ⟨k, n, rs, al, b⟩ := x
  rw [fewS_mk, Bool.and_eq_true, Bool.and_eq_true, decide_eq_true_eq, decide_eq_true_eq] at h
  exact ⟨h.1.1, h.1.2, h.2⟩
theorem few_count : ∀ (k : Nat) (L : List Stm) (dep lev : Nat), dep + k = 9 → fewB dep L = true → (flatL lev L).length ≤ cntF k ∧ ∀ p ∈ flatL lev L, p.1.refs.length ≤ 10 ∧ p.1.attrs.length ≤ 20
  | 0, L, dep, lev, hk, h => by have := (fewB_parts h).2.1; omega
  | k + 1, L, dep, lev, hk, h => by
    obtain ⟨h20, _, hA⟩ := fewB_parts h
    have H : ∀ M : List Stm, fewA dep M = true → (flatL lev M).length ≤ M.length * (1 + cntF k) ∧ ∀ p ∈ flatL lev M, p.1.refs.length ≤ 10 ∧ p.1.attrs.length ≤ 20 := by
      intro M
      induction M with
      | nil => intro _; rw [flatL_nil]; exact ⟨by simp, fun p hp => by cases hp⟩
      | cons x r ih =>
        intro hM
        rw [fewA_cons, Bool.and_eq_true] at hM
        obtain ⟨g1, g2, g3⟩ := fewS_parts hM.1
        obtain ⟨i1, i2⟩ := ih hM.2
        obtain ⟨j1, j2⟩ := few_count k x.body (dep + 1) (if x.kind = 5 then lev + 1 else lev) (by omega) g3
        rw [flatL_cons, flatS_eq]
        refine ⟨?_, fun p hp => ?_⟩
        · rw [List.length_append, List.length_cons, List.length_cons, Nat.add_mul]
          omega
        · rcases List.mem_append.1 hp with hp | hp
          · rcases List.mem_cons.1 hp with rfl | hp
            · exact ⟨g1, g2⟩
            · exact j2 p hp
          · exact i2 p hp
    obtain ⟨h1, h2⟩ := H L hA
    refine ⟨Nat.le_trans h1 ?_, h2⟩
    exact Nat.mul_le_mul_right _ h20
theorem few_flat {L : List Stm} (h : fewB 0 L = true) : (flatL 0 L).length ≤ 1099511627776 ∧ ∀ p ∈ flatL 0 L, p.1.refs.length ≤ 10 ∧ p.1.attrs.length ≤ 20 := by
  obtain ⟨h1, h2⟩ := few_count 9 L 0 0 rfl h
  exact ⟨Nat.le_trans h1 (by decide), h2⟩
end Go.Proofs.YtnancphlkbfglaaGreatDoor.Nm

namespace Go.Proofs.YtnancphlkbfglaaGreatDoor.Tr
open Go.Lib Fx Lx
mutual
def AllS (p : Stm → Prop) : Stm → Prop
  | .mk k n r a b => p (.mk k n r a b) ∧ AllL p b
def AllL (p : Stm → Prop) : List Stm → Prop
  | [] => True
  | x :: r => AllS p x ∧ AllL p r
end
end Go.Proofs.YtnancphlkbfglaaGreatDoor.Tr
