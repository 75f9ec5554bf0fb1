/- Packed texts: NorBuild -/
import Derived.Test.YtnancphlkbfglaaGreatDoorPb26
import Derived.Test.YtnancphlkbfglaaGreatDoorPb22
import Derived.Test.YtnancphlkbfglaaGreatDoorPb34
import Derived.Test.YtnancphlkbfglaaGreatDoorPb40
import Derived.Test.YtnancphlkbfglaaGreatDoorPb23
set_option linter.unusedVariables false
set_option linter.unusedSimpArgs false
namespace Go.Proofs.YtnancphlkbfglaaGreatDoor.Nm
open Go.RowKit Go.Sort Go.Lib Go.Shelf Fx Lx Tr At
theorem box_newG {w w3 : World} {o : Obj} {cs : Array Value} {T : TypeId} (x : Ext ((w.alloc (.cells cs T)).alloc o) w3) : w3.heap[w.heap.size]? = some (.cells cs T (0, 0)) :=
  At.heap_ext (At.heap_ext (heap_alloc_new w (.cells cs T)) ((Ext.refl _).alloc o)) x
theorem getT_size {L : List Two} {x : ByteArray} (h : ∀ r ∈ L, r.2.size ≤ 64) : (getT L x).1.size ≤ 64 := by
  cases hg : (getT L x).2
  · rw [getT_false hg]; decide
  · have hm := (mrgT_iff x (getT L x).1 L).2 (Prod.ext rfl hg)
    exact h _ (mrgT_mem hm)
theorem heap_set_ne {w0 w : World} {bb m1 m2 B : Nat} {av cv lv : Value} {aw : List Value} {ks : List (Lk × Value)} {S : St} {NV : List (Nd × Value)} {gn c nn gg : Nat} {cs : Array Value} (hg : w.heap[gg]? = some (.cells cs 31 (0, 0))) (f : FinAt w0 bb m1 m2 B w (.slice (some ⟨gn, 0, none⟩) nn c) av cv lv aw ks S NV) (k j : Nat) (u : Value) :
    (w.setCell ⟨gn, k * 6 + j, none⟩ u).heap[gg]? = some (.cells cs 31 (0, 0)) := cel_keep hg (set_grown w gn _ u) (row_ty f.N) (nope (by decide))
theorem heap_set_ne2 {w0 w : World} {bb m1 m2 B : Nat} {av cv lv : Value} {aw : List Value} {ks : List (Lk × Value)} {S : St} {NV : List (Nd × Value)} {gn c nn gg : Nat} {cs : Array Value} (hg : w.heap[gg]? = some (.cells cs 24 (0, 0))) (f : FinAt w0 bb m1 m2 B w (.slice (some ⟨gn, 0, none⟩) nn c) av cv lv aw ks S NV) (k j : Nat) (u : Value) :
    (w.setCell ⟨gn, k * 6 + j, none⟩ u).heap[gg]? = some (.cells cs 24 (0, 0)) := cel_keep hg (set_grown w gn _ u) (row_ty f.N) (nope (by decide))
theorem nod_next {w0 : World} {bb m1 m2 B gg gt : Nat} {G T : Obj} {nv av cv lv : Value} {aw : List Value} {ks : List (Lk × Value)} {S : St} {i : Nat} {NV : List (Nd × Value)} {wr w' : World} {y1 y2 y3 y4 : Nd × Value} (h : NodAt w0 bb m1 m2 B gg gt G T nv av cv lv aw ks S i NV wr) (hi : i < S.N.length)
    (f : FinAt w0 bb m1 m2 B w' nv av cv lv aw ks S ((((NV.set i y1).set i y2).set i y3).set i y4)) (hg : w'.heap[gg]? = some G) (ht : w'.heap[gt]? = some T) (hy : finN S.N[i] (S.A.getD i []) = y4.1) : NodAt w0 bb m1 m2 B gg gt G T nv av cv lv aw ks S (i + 1) ((((NV.set i y1).set i y2).set i y3).set i y4) w' := by
  refine ⟨f, by simp [h.len], fun k hk hki => ?_, fun k hk hki => ?_, hg, ht⟩
  · simp only [List.set_set]
    by_cases e : i = k
    · subst e
      rw [List.getElem?_set_self (by rw [h.len]; exact hk), hy]
      exact ⟨y4.2, rfl⟩
    · rw [List.getElem?_set_ne e]
      exact h.done k hk (by omega)
  · simp only [List.set_set]
    rw [List.getElem?_set_ne (by omega)]
    exact h.todo k hk (by omega)
theorem bld0 {w0 w3 : World} (x : Ext w0 w3) : Bld w0 (w3.heap.size + 1 + 1) w3.heap.size (w3.heap.size + 1) (w3.heap.size + 3) (((w3.alloc (.map #[] 0)).alloc (.map #[] 0)).alloc (.cells #[.slice none 0 0, .slice none 0 0, .map (some w3.heap.size), .slice none 0 0, .map (some (w3.heap.size + 1)), .slice none 0 0] 68)) (.slice none 0 0) (.slice none 0 0) (.slice none 0 0) (.slice none 0 0) [] [] ⟨[], [], [], []⟩ [] [] := by
  have hs := x.size
  have hm1 := World.ownsMap_made w3 Tryz.prog 9 RH
  have hm2 := World.ownsMap_made (w3.alloc (.map #[] 0)) Tryz.prog 9 RH
  rw [World.size_alloc] at hm2
  refine ⟨?_, World.ownsRow_nil _ _ _ _, World.ownsRow_nil _ _ _ _, World.ownsRow_nil _ _ _ _, World.ownsRow_nil _ _ _ _, AtLs.nil _, rfl, AtLs.nil _, ⟨0, _, (hm1.alloc _).alloc _, Nat.le_refl _, IdxD.nil⟩, ⟨0, _, hm2.alloc _, Nat.le_refl _, TakD.nil⟩, ((x.alloc _).alloc _).alloc _, by simp, by omega, by omega, by omega, by omega, by omega, by omega, by omega⟩
  have h := heap_alloc_new ((w3.alloc (.map #[] 0)).alloc (.map #[] 0)) (.cells #[.slice none 0 0, .slice none 0 0, .map (some w3.heap.size), .slice none 0 0, .map (some (w3.heap.size + 1)), .slice none 0 0] 68)
  rw [World.size_alloc, World.size_alloc] at h
  exact h
theorem two_newG {w w3 : World} {o : Obj} {cs : Array Value} {T : TypeId} (x : Ext ((w.alloc o).alloc (.cells cs T)) w3) : w3.heap[w.heap.size + 1]? = some (.cells cs T (0, 0)) := by
  have h := heap_alloc_new (w.alloc o) (.cells cs T)
  rw [World.size_alloc] at h
  exact At.heap_ext h x
set_option maxHeartbeats 8000000 in
set_option maxRecDepth 100000 in
theorem build_any (nm : ByteArray) (dir : Bool) (b : Option Addr) (L : List Stm) (cap n : Nat) (w : World) (hn : n ≤ w.heap.size) (h : StmsAt n w b L) (hlen : L.length ≤ maxLen) (hs : cntL L ≤ 1099511627776) (hbig : BigL L) (hnm : nm.size ≤ 9223372036854775807) (hfw : ∀ p ∈ flatL 0 L, p.1.refs.length ≤ 10 ∧ p.1.attrs.length ≤ 20) (he : Env w) :
    Calls Tryz.prog 10 #[.agg #[.string nm, .bool dir, .slice b L.length cap]] w fun e w' => BuildR (buildT nm dir L) e w' ∧ Ext w w' := by
  obtain ⟨R, hR⟩ : ∃ R, R = buildT nm dir L := ⟨_, rfl⟩
  rw [← hR]
  unfold buildT at hR
  have hok := fun hv => ok_valid (nm := nm) (L := L) hv hfw
  have hvc := fun (w5 : World) (x : Ext w w5) => valid_cnt nm dir b L cap n w5 (Nat.le_trans hn x.size) (StmsAt.below (x.mono hn) L h) hs hbig hnm
  obtain ⟨V, hV⟩ : ∃ V, V = validE nm L := ⟨_, rfl⟩
  rw [← hV] at hR hok hvc
  obtain ⟨N, hN⟩ : ∃ N, N = L.length := ⟨_, rfl⟩
  rw [← hN] at hvc hlen ⊢
  have HOK := Lib.hid hok; have HVC := Lib.hid hvc; have HR := Lib.hid hR; have HST := Lib.hid h; have HE := Lib.hid he; have HN := Lib.hid hN; have HNN := Lib.hid hn
  clear hok hvc hR h he hN hn hs hbig hnm hfw hV
  have hmm := @run_makeMap Tryz.prog
  go_enter Tryz.func10, Tryz.ntmps10
  by_cases hv0 : V = 0
  case neg =>
    obtain ⟨f1, f2⟩ := nfacts hv0
    have hr : Hid (R = .error V) := Lib.hid (by rw [HR.out, if_pos hv0])
    go_wp2_with (go_at_call 23; refine (HVC.out _ (((Ext.refl _).alloc _).alloc _)).mono ?_; rintro e w3 ⟨rfl, x3⟩; have HG3 := Lib.hid (two_newG x3); obtain ⟨z0, z1, z2, z3, z4⟩ := cells5g HG3.out; have zf : ∀ j, w3.frozen? ⟨w.heap.size + 1, j, none⟩ = false := (fun j => Lib.frozen_of_heap HG3.out j))
    (try simp only [Exit.inBlock, Exit.then]); refine bodyPost_ret (results_gr rfl _ _ (w.heap.size + 1) _ (.int .i64 V) rfl rfl rfl (set5g HG3.out _ _ _ _ _)) rfl ?_
    rw [hr.out]
    exact ⟨⟨rfl, hv0⟩, ext5g ((((Ext.refl _).alloc _).alloc _).trans x3) (Nat.le_succ _) _ _ _ _ _⟩
  subst hv0
  obtain ⟨f1, f2⟩ := efacts 0
  go_wp2_with (first
    | (go_at_call 23; refine (HVC.out _ (((Ext.refl _).alloc _).alloc _)).mono ?_; rintro e w3 ⟨rfl, x3⟩; have HG3 := Lib.hid (two_newG x3); have tc := boxes x3; have t0 := tc.1 0 _ rfl; have t1 := tc.1 1 _ rfl; have t2 := tc.1 2 _ rfl; have X3 := Lib.hid ((((Ext.refl _).alloc _).alloc _).trans x3 : Ext w w3); have HT3 := Lib.hid (box_newG x3); have t2m := fun (o1 o2 o3 : Obj) => ((((Ext.refl w3).alloc o1).alloc o2).alloc o3).cell t2; clear tc x3))
  have HB0 := Lib.hid (bld0 X3.out)
  obtain ⟨w6, hw6⟩ : ∃ w6, w6 = (((w3.alloc (.map #[] 0)).alloc (.map #[] 0)).alloc (.cells #[.slice none 0 0, .slice none 0 0, .map (some w3.heap.size), .slice none 0 0, .map (some (w3.heap.size + 1)), .slice none 0 0] 68)) := ⟨_, rfl⟩
  have x36 : Ext w3 w6 := by rw [hw6]; exact (((Ext.refl _).alloc _).alloc _).alloc _
  rw [← hw6] at HB0
  have HG6 := Lib.hid (At.heap_ext HG3.out x36); have HT6 := Lib.hid (At.heap_ext HT3.out x36)
  have hss := X3.out.size
  obtain ⟨BR, hBR⟩ : ∃ r, r = blkL ⟨-1, [], []⟩ ⟨[], [], [], []⟩ L := ⟨_, rfl⟩
  obtain ⟨ok1, ok2, ok3⟩ := HOK.out trivial
  have hblk := blk_any w (w3.heap.size + 1 + 1) w3.heap.size (w3.heap.size + 1) (w3.heap.size + 3) n HNN.out HE.out (cntL L) L b cap ⟨-1, [], []⟩ (.slice none 0 0) (.slice none 0 0) ⟨[], [], [], []⟩ 0 w6 (Nat.le_refl _) HST.out (by rw [← HN.out]; exact hlen) ok3 Sml.nil ⟨by decide, by decide, SmA.nil _, SmA.nil _⟩ (by omega) ⟨_, _, _, _, _, _, HB0.out⟩ (AtL.nil _) (AtL.nil _)
  have hsm := fun S' => Sml.stms L 0 ⟨-1, [], []⟩ ⟨[], [], [], []⟩ S' ok3 Sml.nil ⟨by decide, by decide, SmA.nil _, SmA.nil _⟩
  rw [← hBR] at hblk hsm
  rw [← HN.out] at hblk
  have HBL := Lib.hid hblk; have HSM := Lib.hid hsm
  have hR := HR.out
  rw [if_neg (by decide), ← hBR] at hR
  have HR2 := Lib.hid hR
  have HOK2 := Lib.hid ok2; have HOK1 := Lib.hid ok1
  obtain ⟨bb, hbb⟩ : ∃ x, x = w3.heap.size + 1 + 1 := ⟨_, rfl⟩
  obtain ⟨m1, hm1⟩ : ∃ x, x = w3.heap.size := ⟨_, rfl⟩
  obtain ⟨m2, hm2⟩ : ∃ x, x = w3.heap.size + 1 := ⟨_, rfl⟩
  obtain ⟨B, hB⟩ : ∃ x, x = w3.heap.size + 3 := ⟨_, rfl⟩
  rw [← hw6]
  rw [← hbb, ← hB, ← hm2, ← hm1] at HBL
  rw [← hbb, ← hm2, ← hm1]
  clear hblk hsm hR HR HOK HVC HST hBR x36 HG3 HT3 hw6 hbb hm1 hm2 hB t0 t1 t2 t2m hmm HB0 hss ok1 ok2 ok3 f1 f2
  cases BR with
  | error er =>
    have hr : Hid (R = .error er) := Lib.hid HR2.out
    go_wp2_with (go_at_call 24; refine HBL.out.mono ?_; rintro e w7 ⟨⟨rfl, her⟩, kb7, x7⟩; obtain ⟨g1, g2⟩ := nfacts her; have HG7 := Lib.hid (kb7.blk _ _ _ _ HG6.out (by decide) (by decide) (by decide) (by decide) (by decide)); obtain ⟨z0, z1, z2, z3, z4⟩ := cells5g HG7.out; have zf : ∀ j, w7.frozen? ⟨w.heap.size + 1, j, none⟩ = false := (fun j => Lib.frozen_of_heap HG7.out j))
    (try simp only [Exit.inBlock, Exit.then]); refine bodyPost_ret (results_gr rfl _ _ (w.heap.size + 1) _ (.int .i64 er) rfl rfl rfl (set5g HG7.out _ _ _ _ _)) rfl ?_
    rw [hr.out]
    exact ⟨⟨rfl, her⟩, ext5g x7 (Nat.le_succ _) _ _ _ _ _⟩
  | ok S =>
    have hS := HSM.out S rfl
    have hSn := hS.n; have hSa := hS.a; have ok2 := HOK2.out
    have HS := Lib.hid hS
    clear hS HSM
    go_wp2_with (go_at_call 24; refine HBL.out.mono ?_; rintro e w7 ⟨⟨rfl, hb7⟩, kb7, x7⟩; obtain ⟨nv, av, cv, lv, aw, ks, hb7⟩ := hb7; have HG7 := Lib.hid (kb7.blk _ _ _ _ HG6.out (by decide) (by decide) (by decide) (by decide) (by decide)); have HT7 := Lib.hid (kb7.blk _ _ _ _ HT6.out (by decide) (by decide) (by decide) (by decide) (by decide)); obtain ⟨na, nc, rfl, hnc1, hnc2⟩ := row_val hb7.N; have a0 := hb7.cells.1; have HF7 := Lib.hid hb7.fin; clear hb7 kb7 x7)
    obtain ⟨NN, hNN⟩ : ∃ n, n = S.N.length := ⟨_, rfl⟩
    have hC : Hid (NodAt w bb m1 m2 B (w.heap.size + 1) w.heap.size (.cells #[.string ⟨#[]⟩, .bool false, .slice none 0 0, .slice none 0 0, .slice none 0 0] 31 (0, 0)) (.cells #[.string nm, .bool dir, .slice b N cap] 24 (0, 0)) (.slice na NN nc) av cv lv aw ks S 0 (S.N.map rawN) w7) := Lib.hid (by
      rw [hNN]
      exact ⟨HF7.out, by simp, fun k _ h => absurd h (by omega), fun k h _ => by rw [List.getElem?_map, List.getElem?_eq_getElem h]; rfl, HG7.out, HT7.out⟩)
    rw [← hNN] at hSn hSa a0 ⊢
    have HNL := Lib.hid hNN
    clear hNN HF7 HG6 HT6 HG7 HT7 HBL hnc1
    go_loopw [45] (fun i' wr => ∃ (i : Nat) (NV : List (Nd × Value)), i ≤ NN ∧ i' = .int .i64 i ∧ Hid (NodAt w bb m1 m2 B (w.heap.size + 1) w.heap.size (.cells #[.string ⟨#[]⟩, .bool false, .slice none 0 0, .slice none 0 0, .slice none 0 0] 31 (0, 0)) (.cells #[.string nm, .bool dir, .slice b N cap] 24 (0, 0)) (.slice na NN nc) av cv lv aw ks S i NV wr)) (fun i' _ => NN - (RowKit.intOf i').toNat)
    case atStart => exact ⟨0, _, Nat.zero_le _, rfl, hC⟩
    case round =>
      clear hC a0
      obtain ⟨i, NV, hi, rfl, hC⟩ := hrel
      by_cases hlt : i < NN
      · have hi1 : i < S.N.length := by rw [← HNL.out]; exact hlt
        have hia : i < S.A.length := by omega
        have hiv : i < NV.length := by rw [hC.out.len]; exact hi1
        have hraw : NV[i] = rawN S.N[i] := by
          have h := hC.out.todo i hi1 (Nat.le_refl _)
          rw [List.getElem?_eq_getElem hiv] at h
          injection h
        obtain ⟨gn, gc, hnv, -⟩ := row_has hC.out.f.N (by omega)
        injection hnv with e1 e2 e3
        subst e1
        clear e2 e3
        obtain ⟨ga, gac, hav, -, -, -⟩ := row_has hC.out.f.A (by omega)
        subst hav
        obtain ⟨p, pc, hq, -, -⟩ := hC.out.f.At.at hia
        have hcl := hC.out.f.A.cells (g := ga) rfl i _ hq
        rw [add0] at hcl
        obtain ⟨a0, a1, -, -⟩ := hC.out.f.cells
        have hsa := HS.out.at' _ (List.getElem_mem hia)
        have hgd : S.A.getD i [] = S.A[i] := by rw [List.getD_eq_getElem?_getD, List.getElem?_eq_getElem hia]; rfl
        have hfin : finN S.N[i] (S.A.getD i []) = finN S.N[i] S.A[i] := by rw [hgd]
        obtain ⟨q, hqe⟩ : ∃ q, q = S.N[i] := ⟨_, rfl⟩
        rw [← hqe] at hraw hfin
        have hal : AtrIn wr p S.A[i] := hC.out.f.At.get hia hq
        obtain ⟨al, hale⟩ : ∃ l : List Two, l = S.A[i] := ⟨_, rfl⟩
        have hgt : ∀ (w5 : World) (MV : List (Nd × Value)), FinAt w bb m1 m2 B w5 (.slice (some ⟨gn, 0, none⟩) NN nc) (.slice (some ⟨ga, 0, none⟩) S.A.length gac) cv lv aw ks S MV → AtrIn w5 p al := fun w5 MV h => by rw [hale]; exact h.At.get hia hq
        rw [← hale] at hsa hcl hfin hal
        have hzs : ∀ r ∈ al, r.2.size ≤ 4294967280 := fun r hr => by have := (hsa.2 r hr).2; omega
        have e0 := (hC.out.f.nc i hiv 0 (by omega) (.string q.1) (by rw [hraw]; rfl)).1
        rw [Nat.add_zero] at e0
        have hal2 := hsa.1
        have HQE := Lib.hid hqe; have HRAW := Lib.hid hraw; have HFIN := Lib.hid hfin; have HGT := Lib.hid hgt; have HZS := Lib.hid hzs; have HSA := Lib.hid hsa
        obtain ⟨al1, hal1⟩ : ∃ n, n = al.length := ⟨_, rfl⟩
        rw [← hal1] at hcl hal2
        have HAL := Lib.hid hal1
        have hcl0 : wr.cell? ⟨ga, 0 + i, none⟩ = some (.slice p al1 pc) := by rw [Nat.zero_add]; exact hcl
        have b0 : (0 : Int) ≤ (i : Int) := by omega
        have b1 : (i : Int) < (NN : Int) := by omega
        have b2 : (i : Int) < (S.A.length : Int) := by omega
        clear hqe hraw hfin hgt hzs hsa hgd hq hale hal hal1
        go_wp2_with fail
        go_quiet (fail)
        obtain ⟨w8, hw8⟩ : ∃ w8, w8 = wr.drewN nq := ⟨_, rfl⟩
        rw [← hw8]
        have x8 : Ext wr w8 := by rw [hw8]; exact (Ext.refl _).drewN _
        have e8 : w8.cell? ⟨gn, i * 6, none⟩ = some (.string q.1) := x8.cell e0
        have F8 := Lib.hid (hC.out.f.ext x8); have G8 := Lib.hid (At.heap_ext hC.out.g x8); have T8 := Lib.hid (At.heap_ext hC.out.t x8)
        have hat8 := HGT.out _ _ F8.out
        have hlab := lab_any p al pc q.1 w8 hat8 (by rw [← HAL.out]; omega)
        have hnw : ∀ w5 MV, FinAt w bb m1 m2 B w5 (.slice (some ⟨gn, 0, none⟩) NN nc) (.slice (some ⟨ga, 0, none⟩) S.A.length gac) cv lv aw ks S MV → Calls Tryz.prog 26 #[.int .i64 1, .slice p al1 pc, .string ⟨#[119, 105, 100, 116, 104]⟩] w5 fun e w' => e = .returned (.int .i64 (numK 1 al kWidth)) ∧ Ext w5 w' := fun w5 MV h => by
          have h1 := num_any 1 p al pc kWidth w5 (HGT.out _ _ h) (by rw [← HAL.out]; omega) HZS.out (by decide) (HE.out.ext h.X)
          rw [← HAL.out] at h1
          exact h1
        have hnh : ∀ w5 MV, FinAt w bb m1 m2 B w5 (.slice (some ⟨gn, 0, none⟩) NN nc) (.slice (some ⟨ga, 0, none⟩) S.A.length gac) cv lv aw ks S MV → Calls Tryz.prog 26 #[.int .i64 1, .slice p al1 pc, .string ⟨#[104, 101, 105, 103, 104, 116]⟩] w5 fun e w' => e = .returned (.int .i64 (numK 1 al kHeight)) ∧ Ext w5 w' := fun w5 MV h => by
          have h1 := num_any 1 p al pc kHeight w5 (HGT.out _ _ h) (by rw [← HAL.out]; omega) HZS.out (by decide) (HE.out.ext h.X)
          rw [← HAL.out] at h1
          exact h1
        have hge : ∀ w5 MV, FinAt w bb m1 m2 B w5 (.slice (some ⟨gn, 0, none⟩) NN nc) (.slice (some ⟨ga, 0, none⟩) S.A.length gac) cv lv aw ks S MV → Calls Tryz.prog 27 #[.slice p al1 pc, .string ⟨#[112, 111, 114, 116, 115]⟩] w5 fun e w' => e = .returned (.tuple #[.string (getT al kPorts).1, .bool (getT al kPorts).2]) ∧ Ext w5 w' := fun w5 MV h => by
          have h1 := get_any p al pc kPorts w5 (HGT.out _ _ h) (by rw [← HAL.out]; omega)
          rw [← HAL.out] at h1
          exact h1
        have hps := fun (w5 : World) (x : Ext w w5) => ports_any (getT al kPorts).1 w5 (by have := getT_size (x := kPorts) (fun r hr => (HSA.out.2 r hr).2); omega) (HE.out.ext x)
        have hf := HFIN.out
        unfold finN at hf
        rw [← HAL.out] at hlab
        obtain ⟨LB, hLB⟩ : ∃ x, x = labelT al q.1 := ⟨_, rfl⟩
        obtain ⟨WD, hWD⟩ : ∃ x, x = numK 1 al kWidth := ⟨_, rfl⟩
        obtain ⟨HG, hHG⟩ : ∃ x, x = numK 1 al kHeight := ⟨_, rfl⟩
        obtain ⟨⟨gs, gb⟩, hGP⟩ : ∃ x, x = getT al kPorts := ⟨_, rfl⟩
        rw [← hLB] at hlab
        rw [← hWD] at hnw
        rw [← hHG] at hnh
        rw [← hGP] at hge hps
        dsimp only at hge hps
        obtain ⟨PV, hPV⟩ : ∃ x, x = portsV gs := ⟨_, rfl⟩
        rw [← hPV] at hps
        have HFN : Hid (finN S.N[i] (S.A.getD i []) = ⟨q.1, LB, WD, HG, q.2, PV.1⟩) := Lib.hid (by rw [← HQE.out, HFIN.out, hLB, hWD, hHG, hPV]; unfold finN; rw [← hGP])
        have HLAB := Lib.hid hlab; have HNW := Lib.hid hnw; have HNH := Lib.hid hnh; have HGE := Lib.hid hge; have HPS := Lib.hid hps
        have hx0 : NV[i]? = some (rawN q) := by rw [List.getElem?_eq_getElem hiv, HRAW.out]
        have HX0 := Lib.hid hx0
        obtain ⟨c1, z1⟩ := F8.out.nc2 i hx0 1 (by omega) (.string ⟨#[]⟩) rfl
        clear x8 hw8 e0 a0 a1 hcl hcl0 hat8 hlab hnw hnh hge hps hf hLB hWD hHG hGP hPV HAL HSA HZS hx0
        go_wp2_with (first
          | (go_at_call 25; refine HLAB.out.mono ?_; rintro e w9 ⟨rfl, x9⟩; have f9 := F8.out.ext x9; obtain ⟨k1, k2⟩ := f9.nc2 i HX0.out 1 (by omega) (.string ⟨#[]⟩) rfl; obtain ⟨fa, ha⟩ := f9.set2 i HX0.out 1 (by omega) (.string LB) (⟨q.1, LB, 0, 0, q.2, []⟩, .slice none 0 0) rfl (PtL.nil _); have FA := Lib.hid fa; have HA := Lib.hid ha; have GA := Lib.hid (heap_set_ne (At.heap_ext G8.out x9) f9 i 1 (.string LB)); have TA := Lib.hid (heap_set_ne2 (At.heap_ext T8.out x9) f9 i 1 (.string LB)); clear fa ha f9)
          | (have XB2 := XB; go_at_call 26; refine (HNH.out _ _ FB.out).mono ?_; rintro e w11 ⟨rfl, x11⟩; have f11 := FB.out.ext x11; obtain ⟨k3, k4⟩ := f11.nc2 i HA.out 2 (by omega) (.int .i64 0) rfl; obtain ⟨k5, k6⟩ := f11.nc2 i HA.out 3 (by omega) (.int .i64 0) rfl; obtain ⟨f12, h12⟩ := f11.set2 i HA.out 2 (by omega) (.int .i64 WD) (⟨q.1, LB, WD, 0, q.2, []⟩, .slice none 0 0) rfl (PtL.nil _); obtain ⟨f13, h13⟩ := f12.set2 i h12 3 (by omega) (.int .i64 HG) (⟨q.1, LB, WD, HG, q.2, []⟩, .slice none 0 0) rfl (PtL.nil _); have FC := Lib.hid f13; have HC := Lib.hid h13; have GC := Lib.hid (heap_set_ne (heap_set_ne (At.heap_ext GB.out x11) f11 i 2 (.int .i64 WD)) f12 i 3 (.int .i64 HG)); have TC := Lib.hid (heap_set_ne2 (heap_set_ne2 (At.heap_ext TB.out x11) f11 i 2 (.int .i64 WD)) f12 i 3 (.int .i64 HG)); clear f11 f12 h12 f13 h13)
          | (go_at_call 26; refine (HNW.out _ _ FA.out).mono ?_; rintro e w10 ⟨rfl, x10⟩; have FB := Lib.hid (FA.out.ext x10); have GB := Lib.hid (At.heap_ext GA.out x10); have TB := Lib.hid (At.heap_ext TA.out x10); have XB := Lib.hid x10; clear x10)
          | (go_at_call 27; refine (HGE.out _ _ FC.out).mono ?_; rintro e w12 ⟨rfl, x12⟩; have FD := Lib.hid (FC.out.ext x12); have GD := Lib.hid (At.heap_ext GC.out x12); have TD := Lib.hid (At.heap_ext TC.out x12); clear x12)
          | (go_at_call 28; refine (HPS.out _ FD.out.X).mono ?_; rintro e w13 ⟨⟨pv, rfl, hpo⟩, x13⟩; have hpl := own_ptL hpo; obtain ⟨pva, pvc, rfl, -⟩ := id hpl; have f13 := FD.out.ext x13; obtain ⟨k7, k8⟩ := f13.nc2 i HC.out 5 (by omega) (.slice none 0 0) rfl; obtain ⟨f14, h14⟩ := f13.set2 i HC.out 5 (by omega) (.slice pva PV.1.length pvc) (⟨q.1, LB, WD, HG, q.2, PV.1⟩, .slice pva PV.1.length pvc) rfl hpl; have FE := Lib.hid f14; have HHE := Lib.hid h14; have GE := Lib.hid (heap_set_ne (At.heap_ext GD.out x13) f13 i 5 (.slice pva PV.1.length pvc)); have TE := Lib.hid (heap_set_ne2 (At.heap_ext TD.out x13) f13 i 5 (.slice pva PV.1.length pvc)); clear f13 f14 h14 hpl hpo))
        go_roundw
        case rel => exact ⟨i + 1, _, by omega, by go_num, Lib.hid (nod_next hC.out hi1 FE.out GE.out TE.out HFN.out)⟩
        case measure => simp [RowKit.intOf]; omega
      · have hiN : i = NN := by omega
        have HC2 := Lib.hid hC.out
        have hfz := Lib.hid (finNs_at S.N S.A NV HS.out.a hC.out.len (fun k hk => hC.out.done k hk (by rw [hiN, HNL.out]; exact hk)))
        obtain ⟨a0, a1, a3, a5⟩ := hC.out.f.cells
        obtain ⟨ca, cc, rfl, -, -⟩ := row_val hC.out.f.C
        obtain ⟨la, lc, rfl, -, -⟩ := row_val hC.out.f.K
        have t0 : wr.cell? ⟨w.heap.size, 0, none⟩ = some (.string nm) := by rw [Lib.cell_of_heap hC.out.t]; rfl
        have t1 : wr.cell? ⟨w.heap.size, 1, none⟩ = some (.bool dir) := by rw [Lib.cell_of_heap hC.out.t]; rfl
        have a0' := fun ob => ((Ext.refl wr).alloc ob).cell a0; have a3' := fun ob => ((Ext.refl wr).alloc ob).cell a3; have t0' := fun ob => ((Ext.refl wr).alloc ob).cell t0; have t1' := fun ob => ((Ext.refl wr).alloc ob).cell t1
        obtain ⟨wo, hwo⟩ : ∃ wo : World, wo = wr := ⟨_, rfl⟩
        subst hwo
        clear hC hi hlt
        go_wp2_with fail
        clear hiN
        go_cut [12] from 94 to 106 (fun s12 wx => ∃ gb, s12 = .pointer (some ⟨gb, 0, none⟩) ∧ wo.heap.size ≤ gb ∧ Hid (wx.heap[gb]? = some (.cells #[.string nm, .bool dir, .slice na NN nc, .slice none 0 0, .slice ca S.C.length cc] 31 (0, 0))) ∧ Hid (Ext wo wx))
        case first =>
          go_region
          all_goals go_wp2
          all_goals go_meet
          exact ⟨_, rfl, Nat.le_refl _, Lib.hid (heap_alloc_new _ _), Lib.hid (((Ext.refl _).alloc _).drew)⟩
        case rest =>
          obtain ⟨gb, rfl, hgb, HGB, HXC⟩ := hcut
          have d5 := HXC.out.cell a5
          have hgg : w.heap.size + 1 < gb := by
            obtain ⟨hh, -⟩ := Array.getElem?_eq_some_iff.1 HC2.out.g
            omega
          have hwb : w.heap.size < gb := by have := HC2.out.f.Z; have := HC2.out.f.lo; omega
          obtain ⟨KL, hKL⟩ : ∃ n, n = S.K.length := ⟨_, rfl⟩
          obtain ⟨FE, hFE⟩ : ∃ r, r = finEs (finNs S.N S.A) S.K := ⟨_, rfl⟩
          have hD : Hid (LnkAt w bb m1 m2 B (w.heap.size + 1) gb (.cells #[.string ⟨#[]⟩, .bool false, .slice none 0 0, .slice none 0 0, .slice none 0 0] 31 (0, 0)) nm dir (.slice na NN nc) av (.slice ca S.C.length cc) (.slice la KL lc) aw ks S NV FE 0 [] (.slice none 0 0) wc) := Lib.hid (by
            have h := HC2.out.f
            rw [← hKL] at h
            exact ⟨h.ext HXC.out, At.heap_ext HC2.out.g HXC.out, HGB.out, World.ownsRow_nil _ _ _ _, by rw [List.drop_zero, hfz.out, hFE]; cases finEs (finNs S.N S.A) S.K <;> simp, rfl⟩)
          have HKL := Lib.hid hKL; have HFE := Lib.hid hFE
          have hkl5 := HS.out.l
          have hbl := HC2.out.f.lo
          rw [← hKL] at d5 hkl5
          have HNVL := Lib.hid HC2.out.len
          clear hKL hFE a0 a1 a3 a5 t0 t1 a0' a3' t0' t1' HC2 HGB HXC
          go_wp2_with fail
          go_loopw [112] (fun j' wr => ∃ (j : Nat) (E : List Ed) (ev : Value), j ≤ KL ∧ j' = .int .i64 j ∧ Hid (LnkAt w bb m1 m2 B (w.heap.size + 1) gb (.cells #[.string ⟨#[]⟩, .bool false, .slice none 0 0, .slice none 0 0, .slice none 0 0] 31 (0, 0)) nm dir (.slice na NN nc) av (.slice ca S.C.length cc) (.slice la KL lc) aw ks S NV FE j E ev wr)) (fun j' _ => KL - (RowKit.intOf j').toNat)
          case atStart => exact ⟨0, [], _, Nat.zero_le _, rfl, hD⟩
          case round =>
            clear hD d5
            obtain ⟨j, E, ev, hj, rfl, hD⟩ := hrel
            by_cases hlj : j < KL
            · have hjk : j < S.K.length := by rw [← HKL.out]; exact hlj
              have hjs : j < ks.length := by have h := congrArg List.length hD.out.f.Kl; rw [List.length_map] at h; omega
              have hkx : ks[j].1 = S.K[j] := by
                have h := congrArg (fun l => l[j]?) hD.out.f.Kl
                simp only [List.getElem?_map, List.getElem?_eq_getElem hjs, List.getElem?_eq_getElem hjk] at h
                injection h
              obtain ⟨gl, glc, hlv, -, -, -⟩ := row_has hD.out.f.K (by omega)
              injection hlv with e1 e2 e3
              subst e1
              clear e2 e3
              obtain ⟨pv, pvc, hpv, hpi, -⟩ := hD.out.f.Kt.2 j ks[j].2 S.K[j].at' (by rw [List.getElem?_map, List.getElem?_eq_getElem hjs]; rfl) (by rw [List.getElem?_map, List.getElem?_eq_getElem hjk]; rfl)
              have hcl := fun (t : Nat) (ht : t < 5) (u : Value) (hu : (lkC ks[j])[t]? = some u) => hD.out.f.K.cells (g := gl) rfl (j * 5 + t) u (by unfold lksC; rw [fm_get (s := 5) (f := lkC) (fun _ => rfl) ks j hjs t ht]; exact hu)
              simp only [add0] at hcl
              obtain ⟨h1, h2, h3, h4, h5⟩ := HS.out.kt _ (List.getElem_mem hjk)
              obtain ⟨x, hx⟩ : ∃ x, x = S.K[j] := ⟨_, rfl⟩
              obtain ⟨y, hy⟩ : ∃ y, y = ks[j] := ⟨_, rfl⟩
              have hxa : x.a < NV.length := by rw [HNVL.out, hx]; exact h2
              have hxb : x.b < NV.length := by rw [HNVL.out, hx]; exact h3
              have hacc := hD.out.acc
              rw [List.drop_eq_getElem_cons hjk, ← hx] at hacc
              unfold finEs at hacc
              rw [← hx] at hkx hpv hpi h1 h4 h5
              rw [← hy] at hkx hpv hcl
              obtain ⟨y1, y2⟩ := y
              dsimp only at hkx hpv
              subst hkx; subst hpv
              have c0 := hcl 0 (by omega) _ rfl; have c1 := hcl 1 (by omega) _ rfl; have c2 := hcl 2 (by omega) _ rfl; have c3 := hcl 3 (by omega) _ rfl; have c4 := hcl 4 (by omega) _ rfl
              rw [Nat.add_zero] at c0
              obtain ⟨xa, xap, xb, xbp, xt⟩ := y1
              dsimp only at hxa hxb h1 h4 h5 hpi c0 c1 c2 c3 c4
              have HPI := Lib.hid hpi; have HAC := Lib.hid hacc; have H1 := Lib.hid h1
              obtain ⟨xl, hxl⟩ : ∃ n, n = xt.length := ⟨_, rfl⟩
              rw [← hxl] at c4
              have HXL := Lib.hid hxl
              have b0 : (0 : Int) ≤ (j : Int) := by omega
              have b1 : (j : Int) < (KL : Int) := by omega
              have hxl2 := h1.1
              have hzs : ∀ r ∈ xt, r.2.size ≤ 4294967280 := fun r hr => by have := (H1.out.2 r hr).2; omega
              have hlb := fun (w5 : World) (z : Ext wr w5) => lab_any pv xt pvc ⟨#[]⟩ w5 (HPI.out.ext z) (by rw [← HXL.out]; omega)
              have hwt := fun (w5 : World) (z : Ext wr w5) => num_any 2 pv xt pvc kWeight w5 (HPI.out.ext z) (by rw [← HXL.out]; omega) hzs (by decide) (HE.out.ext (hD.out.f.X.trans z))
              have hln := fun (w5 : World) (z : Ext wr w5) => num_any 2 pv xt pvc kLen w5 (HPI.out.ext z) (by rw [← HXL.out]; omega) hzs (by decide) (HE.out.ext (hD.out.f.X.trans z))
              rw [← HXL.out] at hlb hwt hln
              obtain ⟨LB, hLB⟩ : ∃ v, v = labelT xt ⟨#[]⟩ := ⟨_, rfl⟩
              obtain ⟨WT, hWT⟩ : ∃ v, v = numK 2 xt kWeight := ⟨_, rfl⟩
              obtain ⟨LN, hLN⟩ : ∃ v, v = numK 2 xt kLen := ⟨_, rfl⟩
              rw [show numT (ruleT 2 kWeight.data.toList) (getT xt kWeight) = WT from hWT.symm] at hwt
              rw [show numT (ruleT 2 kLen.data.toList) (getT xt kLen) = LN from hLN.symm] at hln
              rw [← hLB] at hlb
              have HLB := Lib.hid hlb; have HWT := Lib.hid hwt; have HLN := Lib.hid hln
              have HVS := Lib.hid (And.intro hLB (And.intro hWT hLN)); have HKJ := Lib.hid hx
              clear hx hy hcl hpi hacc h1 h2 h3 hjs hxl hlb hwt hln hLB hWT hLN hzs
              go_wp2_with fail
              obtain ⟨w4, hw4⟩ : ∃ w4, w4 = wr.alloc (.cells #[.int .i64 xa, .string xap, .int .i64 xb, .string xbp, .slice pv xl pvc] 82) := ⟨_, rfl⟩
              have x4 : Ext wr w4 := by rw [hw4]; exact (Ext.refl _).alloc _
              have hb4 : w4.heap[wr.heap.size]? = some (.cells #[.int .i64 xa, .string xap, .int .i64 xb, .string xbp, .slice pv xl pvc] 82 (0, 0)) := by rw [hw4]; exact heap_alloc_new _ _
              rw [← hw4]
              obtain ⟨l0, l1, l2, l3, l4⟩ := cells5g hb4
              have HB4 := Lib.hid hb4; have X4 := Lib.hid x4
              clear hw4 hb4 c0 c1 c2 c3 c4
              go_cut [15] from 116 to 131 (fun s15 wx => ∃ ge, s15 = .pointer (some ⟨ge, 0, none⟩) ∧ wr.heap.size ≤ ge ∧ Hid (wx.heap[ge]? = some (.cells #[.int .i64 xa, .int .i64 xb, .int .i64 0, .int .i64 0, .string LB, .int .i64 WT, .int .i64 LN] 60 (0, 0))) ∧ Hid (Ext w4 wx))
              case first =>
                go_region_held3 (fun w' => w'.cell? ⟨wr.heap.size, 0, none⟩ = some (.int .i64 xa) ∧ w'.cell? ⟨wr.heap.size, 2, none⟩ = some (.int .i64 xb) ∧ w'.cell? ⟨wr.heap.size, 4, none⟩ = some (.slice pv xl pvc))
                  (refine ⟨Ext.cell (w := w4) ?_ l0, Ext.cell (w := w4) ?_ l2, Ext.cell (w := w4) ?_ l4⟩ <;> (repeat (first | (with_reducible refine Ext.drew ?_) | (with_reducible refine Ext.alloc ?_ _) | ((with_reducible refine Ext.setCell ?_ ?_ _); rotate_left; (first | exact Y5.size | exact Y6.size | exact Y7.size | exact Nat.le_refl _)) | (with_reducible assumption) | (with_reducible exact Ext.refl _))))
                  (first
                    | (go_at_call 25; refine (HLB.out _ (Ext.trans X4.out (by (repeat (with_reducible first | assumption | exact Ext.refl _ | refine Ext.alloc ?_ _ | refine Ext.drew ?_))))).mono ?_; rintro e w5 ⟨rfl, x5⟩; have Y5 := Ext.trans (a := w4) (by (repeat (with_reducible first | assumption | exact Ext.refl _ | refine Ext.alloc ?_ _ | refine Ext.drew ?_))) x5; first | (with_reducible have HZ5 := Lib.hid (edge_new x5)) | (with_reducible have HZ5 := Lib.hid (edge_newd x5)) | skip)
                    | (have q := XB; go_at_call 26; refine (HLN.out _ (Ext.trans X4.out (by (repeat (with_reducible first | assumption | exact Ext.refl _ | refine Ext.alloc ?_ _ | refine Ext.drew ?_))))).mono ?_; rintro e w7 ⟨rfl, x7⟩; have Y7 := Ext.trans (a := w4) (by (repeat (with_reducible first | assumption | exact Ext.refl _ | refine Ext.alloc ?_ _ | refine Ext.drew ?_))) x7; have Y67 := Ext.trans (a := w6) (by (repeat (with_reducible first | assumption | exact Ext.refl _ | refine Ext.alloc ?_ _ | refine Ext.drew ?_))) x7; (first | (have HZ7 := Lib.hid (At.heap_ext HZ6.out Y67)) | (with_reducible have HZ7 := Lib.hid (edge_new x7)) | (with_reducible have HZ7 := Lib.hid (edge_newd x7)) | skip); first | (have hz7 := cells7g HZ7.out; obtain ⟨z0, z1, z2, z3, z4, z5, z6, zf⟩ := hz7) | skip)
                    | (go_at_call 26; refine (HWT.out _ (Ext.trans X4.out (by (repeat (with_reducible first | assumption | exact Ext.refl _ | refine Ext.alloc ?_ _ | refine Ext.drew ?_))))).mono ?_; rintro e w6 ⟨rfl, x6⟩; have Y6 := Ext.trans (a := w4) (by (repeat (with_reducible first | assumption | exact Ext.refl _ | refine Ext.alloc ?_ _ | refine Ext.drew ?_))) x6; have Y56 := Ext.trans (a := w5) (by (repeat (with_reducible first | assumption | exact Ext.refl _ | refine Ext.alloc ?_ _ | refine Ext.drew ?_))) x6; have XB := Lib.hid x6; first | (have HZ6 := Lib.hid (At.heap_ext HZ5.out Y56)) | (with_reducible have HZ6 := Lib.hid (edge_new x6)) | (with_reducible have HZ6 := Lib.hid (edge_newd x6)) | skip))
                all_goals go_wp2
                all_goals go_meet
                all_goals refine ⟨_, rfl, ?_, Lib.hid ?_, Lib.hid ?_⟩
                all_goals first
                  | exact X4.out.size
                  | exact Nat.le_trans X4.out.size Y7.size
                  | exact Nat.le_trans X4.out.size Y6.size
                  | exact Nat.le_trans X4.out.size Y5.size
                  | (with_reducible exact heap_alloc_new _ _)
                  | (with_reducible exact Y7.alloc _)
                  | (have hz := HZ7.out; unfold zeroEd at hz; with_reducible exact set7g hz _ _ _ _ _ _ _)
                  | (have hs6 := Y6.size; with_reducible exact ext7g Y7 hs6 _ _ _ _ _ _ _)
                  | (have hs5 := Y5.size; with_reducible exact ext7g Y7 hs5 _ _ _ _ _ _ _)
                  | (with_reducible exact ext7g Y7 (Nat.le_refl _) _ _ _ _ _ _ _)
              case rest =>
                obtain ⟨ge, rfl, hge, HGE, HXE⟩ := hcut
                obtain ⟨we, hwe⟩ : ∃ we : World, we = wc := ⟨_, rfl⟩
                subst hwe
                have HXW := Lib.hid (X4.out.trans HXE.out)
                have HDC := Lib.hid (hD.out.ext HXW.out)
                have m0 := HXE.out.cell l0; have m1' := HXE.out.cell l1; have m2' := HXE.out.cell l2; have m3 := HXE.out.cell l3
                have hpl := finNs_ports HS.out
                have hpa : NV[xa].1.ports.length ≤ 1000000 := hpl _ (by rw [← hfz.out]; exact List.mem_map_of_mem (List.getElem_mem hxa))
                have hpb : NV[xb].1.ports.length ≤ 1000000 := hpl _ (by rw [← hfz.out]; exact List.mem_map_of_mem (List.getElem_mem hxb))
                have hnv1 : NV.length ≤ 100000 := by rw [HNVL.out]; have := HS.out.n; omega
                have hpx := fun (w5 : World) (z : Ext we w5) => port_any w bb m1 m2 B _ av _ _ aw ks S NV xa xap w5 (HDC.out.f.ext z) hxa hnv1 hpa
                have hpy := fun (w5 : World) (z : Ext we w5) => port_any w bb m1 m2 B _ av _ _ aw ks S NV xb xbp w5 (HDC.out.f.ext z) hxb hnv1 hpb
                have hfa := finE_at (x := ⟨xa, xap, xb, xbp, xt⟩) hxa hxb
                dsimp only at hfa
                rw [← HVS.out.1, ← HVS.out.2.1, ← HVS.out.2.2] at hfa
                simp only [port_dec] at hpx hpy
                obtain ⟨PA, hPA⟩ : ∃ v, v = portT NV[xa].1.ports xap := ⟨_, rfl⟩
                obtain ⟨PB, hPB⟩ : ∃ v, v = portT NV[xb].1.ports xbp := ⟨_, rfl⟩
                rw [← hPA, ← hPB] at hfa
                simp only [← hPA] at hpx
                simp only [← hPB] at hpy
                have hkj : S.K[j] = ⟨xa, xap, xb, xbp, xt⟩ := HKJ.out.symm
                rw [← hkj] at hfa
                have HFA := Lib.hid hfa
                clear hpl hpa hpb hnv1 hPA hPB l0 l1 l2 l3 l4 hfa hkj X4 HXE HKJ
                by_cases hp : PA = -2 ∨ PB = -2
                · have hno : FE = none := HDC.out.none' hjk (by rw [HFA.out, if_pos hp])
                  have hr : Hid (R = .error 5) := Lib.hid (by rw [HR2.out, ← HFE.out, hno])
                  obtain ⟨OA, hOA⟩ : ∃ o, o = !decide (PA = -2) := ⟨_, rfl⟩
                  obtain ⟨OB, hOB⟩ : ∃ o, o = !decide (PB = -2) := ⟨_, rfl⟩
                  rw [← hOA] at hpx
                  rw [← hOB] at hpy
                  have ho : OA = false ∨ (OA = true ∧ OB = false) := by
                    by_cases h : PA = -2
                    · left; rw [hOA, h]; rfl
                    · right; refine ⟨by rw [hOA, decide_eq_false h]; rfl, ?_⟩
                      rcases hp with h1 | h1
                      · exact absurd h1 h
                      · rw [hOB, h1]; rfl
                  have HPX := Lib.hid hpx; have HPY := Lib.hid hpy
                  clear hp hno hOA hOB hpx hpy HFA
                  rcases ho with rfl | ⟨rfl, rfl⟩
                  all_goals (
                    go_wp2_with fail
                    go_at_call 29
                    have hpz := HPX.out we (Ext.refl we)
                    refine Calls.mono (by with_reducible exact hpz) ?_
                    rintro e w8 ⟨rfl, x8⟩
                    have n2 := x8.cell m2'; have n3 := x8.cell m3
                    clear hpz
                    go_wp2_with fail
                    go_at_call 29
                    have hpz := HPY.out w8 x8
                    refine Calls.mono (by with_reducible exact hpz) ?_
                    rintro e w9 ⟨rfl, x9⟩
                    have HG9 := Lib.hid (At.heap_ext HDC.out.g (x8.trans x9))
                    have HX9 := Lib.hid (HDC.out.f.X.trans (x8.trans x9))
                    obtain ⟨z0, z1, z2, z3, z4⟩ := cells5g HG9.out
                    have zf : ∀ j, w9.frozen? ⟨w.heap.size + 1, j, none⟩ = false := fun j => Lib.frozen_of_heap HG9.out j
                    clear hpz n2 n3 m0 m1' m2' m3 HPX HPY HDC x8 x9 HGE HXW
                    go_upto_region 25 with (fail)
                    generalize hQQ : (Exit.then _ _ : Exit → Act → World → Prop) = QQ
                    go_wp2_with fail
                    subst hQQ
                    simp only [Exit.then]
                    rename_i hk
                    refine hk _ _ ?_
                    go_wp
                    refine bodyPost_ret (results_gr rfl _ _ (w.heap.size + 1) _ (.int .i64 5) rfl rfl rfl (set5g HG9.out _ _ _ _ _)) rfl ?_
                    rw [hr.out]
                    exact ⟨⟨rfl, by decide⟩, ext5g HX9.out (Nat.le_succ _) _ _ _ _ _⟩)
                · have ha : PA ≠ -2 := fun h => hp (.inl h)
                  have hb : PB ≠ -2 := fun h => hp (.inr h)
                  rw [decide_eq_false ha, ixP_ne ha] at hpx
                  rw [decide_eq_false hb, ixP_ne hb] at hpy
                  have hq := HFA.out
                  rw [if_neg hp] at hq
                  have HQ := Lib.hid hq; have HPX := Lib.hid hpx; have HPY := Lib.hid hpy
                  obtain ⟨ea, ec, rfl, -, -⟩ := row_val hD.out.e
                  have hel := hD.out.el
                  obtain ⟨j0, hj0, hjz0, hjz1, hjz2⟩ := info_parts info_edge
                  clear hp ha hb hq hpx hpy HFA
                  go_wp2_with fail
                  go_at_call 29
                  have hpz := HPX.out we (Ext.refl we)
                  refine Calls.mono (by with_reducible exact hpz) ?_
                  rintro e w8 ⟨rfl, x8⟩
                  have n2 := x8.cell m2'; have n3 := x8.cell m3
                  clear hpz
                  go_wp2_with fail
                  go_at_call 29
                  have hpz := HPY.out w8 x8
                  refine Calls.mono (by with_reducible exact hpz) ?_
                  rintro e w9 ⟨rfl, x9⟩
                  have X9 := Lib.hid (x8.trans x9); have HGE9 := Lib.hid (At.heap_ext HGE.out X9.out); obtain ⟨q0, q1, q2, q3, q4, q5, q6, qf⟩ := cells7v HGE9.out
                  clear hpz HPX HPY x8 x9
                  go_upto_region 27 with (fail)
                  obtain ⟨wt, hwt⟩ : ∃ wt, wt = (w9.setCell ⟨ge, 2, none⟩ (.int .i64 PA)).setCell ⟨ge, 3, none⟩ (.int .i64 PB) := ⟨_, rfl⟩
                  have hbt : wt.heap[ge]? = some (.cells #[.int .i64 xa, .int .i64 xb, .int .i64 PA, .int .i64 PB, .string LB, .int .i64 WT, .int .i64 LN] 60 (0, 0)) := by rw [hwt]; exact set23 HGE9.out _ _
                  have xt2 : Ext wr wt := by rw [hwt]; exact ((HXW.out.trans X9.out).setCell hge _).setCell hge _
                  have HDT := Lib.hid (hD.out.ext xt2)
                  have HBT := Lib.hid hbt
                  try rw [← hwt]
                  clear hwt hbt xt2 q0 q1 q2 q3 q4 q5 q6 qf HGE9 X9 HDC m0 m1' m2' m3 HXW n2 n3 HGE
                  obtain ⟨q0, q1, q2, q3, q4, q5, q6, qf⟩ := cells7v HBT.out
                  have c3 : wt.cell? ⟨gb, 3, none⟩ = some (.slice ea E.length ec) := by rw [Lib.cell_of_heap HDT.out.gr]; rfl
                  have c3a := fun ob => ((Ext.refl wt).alloc ob).cell c3
                  have hq' := HQ.out
                  have hel2 : E.length ≤ 100000 := by omega
                  clear hel hq'
                  go_wp2_with (at_builtin; refine wpList_append_lies _ rfl _ _ 28 rfl B 60 j0 _ 7 64 Tryz.underlying28 hj0 hjz0 hjz1 hjz2 rfl (by decide) _ _ _ rfl (At.own_ext HDT.out.e ((Ext.refl wt).alloc _)) _ 1 1 (edC ⟨xa, xb, PA, PB, LB, WT, LN⟩) rfl rfl ?c1 ?c2 (by decide) ?c3 ?c4 ?c5 _ rfl ?_)
                  case c1 => exact World.news_of_block (cs := #[.int .i64 xa, .int .i64 xb, .int .i64 PA, .int .i64 PB, .string LB, .int .i64 WT, .int .i64 LN]) (t := 60) (fr := (0, 0)) (heap_alloc_new wt _)
                  case c2 => intro u hu; simp [edC] at hu; rcases hu with rfl | rfl | rfl | rfl | rfl | rfl | rfl <;> rfl
                  case c3 => unfold maxLen; (try simp); omega
                  case c4 => (try simp); omega
                  case c5 => have := HDT.out.f.Z; (try simp); omega
                  intro g7 c7 w7 hown1 hgrow _ _
                  have HD11 := Lib.hid (HDT.out.ext ((Ext.refl wt).alloc (.cells #[.int .i64 xa, .int .i64 xb, .int .i64 PA, .int .i64 PB, .string LB, .int .i64 WT, .int .i64 LN] 60)))
                  have hS7 := cel_keep HD11.out.gr hgrow (row_ty HD11.out.e) (nope (by decide))
                  have e7 : w7.cell? ⟨gb, 3, none⟩ = some (.slice ea E.length ec) := by rw [Lib.cell_of_heap hS7]; rfl
                  have f7 : w7.frozen? ⟨gb, 3, none⟩ = false := Lib.frozen_of_heap hS7 3
                  have FIN := Lib.hid (HD11.out.app hgg (by omega) ⟨xa, xb, PA, PB, LB, WT, LN⟩ rfl hown1 hgrow hjk HQ.out)
                  clear hown1 hgrow hS7 q0 q1 q2 q3 q4 q5 q6 qf c3 c3a HDT HBT
                  go_wp2
                  go_roundw
                  case rel => exact ⟨j + 1, E ++ [⟨xa, xb, PA, PB, LB, WT, LN⟩], _, by omega, by go_num, FIN⟩
                  case measure => simp [RowKit.intOf]; omega
            · have hjK : j = KL := by omega
              have hfe : FE = some E := by
                rw [hD.out.acc, List.drop_eq_nil_of_le (by rw [← HKL.out]; omega)]
                unfold finEs; simp
              obtain ⟨GR, hGR⟩ : ∃ g : Gr, g = ⟨nm, dir, NV.map Prod.fst, E, S.C⟩ := ⟨_, rfl⟩
              have hr : R = if grE GR ≠ 0 then .error (grE GR) else .ok GR := by rw [HR2.out, ← HFE.out, hfe, hGR, hfz.out]
              have hgi := gr_of (nm := nm) (dir := dir) hD.out.f hD.out.e
              rw [← hGR] at hgi
              have hsm : GrSm GR := by rw [hGR, hfz.out]; exact grSm_of (by have := HOK1.out; omega) HS.out (by omega) (by omega) (by rw [← HFE.out]; exact hfe)
              have hvl := fun (w5 : World) (x : Ext wr w5) => validG_any GR _ w5 (hgi.1.ext x) (hgi.2.ext hgi.1 x) hsm
              obtain ⟨c0, c1, c2, c3, c4⟩ := cells5g hD.out.gr
              obtain ⟨ea, ec, rfl, -, -⟩ := row_val hD.out.e
              obtain ⟨GE, hGE⟩ : ∃ v, v = grE GR := ⟨_, rfl⟩
              rw [← hGE] at hr
              simp only [← hGE] at hvl
              have HRR := Lib.hid hr; have HVL := Lib.hid hvl; have HGS := Lib.hid hsm; have HGR := Lib.hid hGR
              clear hfe hr hgi hsm hvl hGE hGR
              go_wp2_with fail
              go_at_call 30
              have hpz := HVL.out wr (Ext.refl wr)
              refine Calls.mono (by with_reducible exact hpz) ?_
              rintro e w8 ⟨rfl, x8⟩
              have D8 := Lib.hid (hD.out.ext x8)
              obtain ⟨z0, z1, z2, z3, z4⟩ := cells5g D8.out.g
              have zf : ∀ j, w8.frozen? ⟨w.heap.size + 1, j, none⟩ = false := fun j => Lib.frozen_of_heap D8.out.g j
              obtain ⟨d0, d1, d2, d3, d4⟩ := cells5g D8.out.gr
              clear hpz c0 c1 c2 c3 c4 x8
              by_cases hg0 : GE = 0
              · subst hg0
                have hr2 := HRR.out
                rw [if_neg (by decide)] at hr2
                have HR3 := Lib.hid hr2
                clear hr2
                obtain ⟨f1, f2⟩ := efacts 0
                go_upto_region 31 with (fail)
                generalize hQQ : (Exit.then _ _ : Exit → Act → World → Prop) = QQ
                go_wp2_with fail
                subst hQQ
                try simp only [Exit.then]
                try (rename_i hk; refine hk _ _ ?_)
                try go_wp
                refine bodyPost_ret (results_gr rfl _ _ (w.heap.size + 1) _ (.int .i64 0) rfl rfl rfl (set5g D8.out.g _ _ _ _ _)) rfl ?_
                rw [HR3.out]
                have hst := gr_set5 D8.out.f D8.out.e D8.out.g (Nat.le_succ _) (.string nm) (.bool dir) (.slice na NN nc) (.slice ea E.length ec) (.slice ca S.C.length cc)
                have hgo := gr_of (nm := nm) (dir := dir) hst.1 hst.2
                rw [← HGR.out] at hgo
                exact ⟨⟨_, rfl, hgo.1, hgo.2, HGS.out⟩, ext5g D8.out.f.X (Nat.le_succ _) _ _ _ _ _⟩
              · obtain ⟨f1, f2⟩ := nfacts hg0
                have hr2 := HRR.out
                rw [if_pos hg0] at hr2
                have HR3 := Lib.hid hr2
                clear hr2
                go_upto_region 30 with (fail)
                generalize hQQ : (Exit.then _ _ : Exit → Act → World → Prop) = QQ
                go_wp2_with fail
                subst hQQ
                simp only [Exit.then]
                rename_i hk
                refine hk _ _ ?_
                go_wp
                refine bodyPost_ret (results_gr rfl _ _ (w.heap.size + 1) _ (.int .i64 GE) rfl rfl rfl (set5g D8.out.g _ _ _ _ _)) rfl ?_
                rw [HR3.out]
                exact ⟨⟨rfl, hg0⟩, ext5g D8.out.f.X (Nat.le_succ _) _ _ _ _ _⟩
end Go.Proofs.YtnancphlkbfglaaGreatDoor.Nm
