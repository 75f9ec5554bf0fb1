/- Packed texts: NorClus, LexDrop, TreHas, TreForm -/
import Derived.Test.YtnancphlkbfglaaGreatDoorPn17
import Derived.BigQuiet
import Derived.Deep.CutRange
import Derived.Test.YtnancphlkbfglaaGreatDoorPn05
import Derived.Lib.Builder
import Derived.WalkKit
import Derived.Lib.Hide
import Derived.BigCall
set_option linter.unusedVariables false
set_option linter.unusedSimpArgs false
/- The program's cluster, given the contract of a block. -/
namespace Go.Proofs.YtnancphlkbfglaaGreatDoor.Nm
open Go.RowKit Go.Sort Go.Lib Go.Shelf Fx Lx Tr At

/-- The contract of a block of at most M statements. -/
def BlkC (w0 : World) (bb m1 m2 B nn M : Nat) : Prop :=
  ∀ (L : List Stm) (b : Option Addr) (cap : Nat) (p : Pl) (pn pe : Value) (S : St) (k : Nat) (w : World), cntL L ≤ M → StmsAt nn w0 b L → L.length ≤ maxLen → okWL L → Sml (10 * k) k S → SmP k p → k + cntL L ≤ 512 → BldE w0 bb m1 m2 B w S → AtL w pn p.n → AtL w pe p.e →
    Calls Tryz.prog 24 #[.pointer (some ⟨bb, 0, none⟩), .slice b L.length cap, .agg #[.int .i64 p.c, pn, pe]] w fun e w' => BlkR w0 bb m1 m2 B (blkL p S L) e w' ∧ KeepB w w' ∧ Ext w0 w'
theorem BlkR.val {w0 : World} {bb m1 m2 B : Nat} {r : Except Int St} {e : Ending} {w' : World} (h : BlkR w0 bb m1 m2 B r e w') : ∃ v : Int, e = .returned (.int .i64 v) := by
  unfold BlkR at h
  split at h <;> exact ⟨_, h.1⟩
/-- A cluster's statements. -/
def clusT (p : Pl) (S : St) (n : ByteArray) (b : List Stm) : Except Int St :=
  if (S.idx n).isSome = true ∨ S.taken n = true then .error 6 else blkL { p with c := S.C.length } { S with C := S.C ++ [(n, p.c)] } b
set_option maxHeartbeats 4000000 in
set_option maxRecDepth 100000 in
theorem clus_of (w0 : World) (bb m1 m2 B nn M k : Nat) (hM : BlkC w0 bb m1 m2 B nn M) (nm : ByteArray) (body : List Stm) (p : Pl) (pn pe : Value) (S : St) (r a b : Option Addr) (Rn An rc ac bc : Nat) (w : World) (hb : BldE w0 bb m1 m2 B w S) (hpn : AtL w pn p.n) (hpe : AtL w pe p.e)
    (hbd : StmsAt nn w0 b body) (hbl : body.length ≤ maxLen) (hcm : cntL body ≤ M) (hok : okWL body) (hs : Sml (10 * k) k S) (hp : SmP k p) (hk : k + cntL body + 1 ≤ 512) (hn : nm.size ≤ 64) :
    Calls Tryz.prog 59 #[.pointer (some ⟨bb, 0, none⟩), .agg #[.int .i64 5, .string nm, .slice r Rn rc, .slice a An ac, .slice b body.length bc], .agg #[.int .i64 p.c, pn, pe]] w fun e w' => BlkR w0 bb m1 m2 B (clusT p S nm body) e w' ∧ KeepB w w' ∧ Ext w0 w' := by
  obtain ⟨R, hR⟩ : ∃ R, R = clusT p S nm body := ⟨_, rfl⟩
  rw [← hR]
  unfold clusT at hR
  obtain ⟨nv, av, cv, lv, aw, ks, h⟩ := hb
  obtain ⟨tk, htk⟩ : ∃ t, t = S.taken nm := ⟨_, rfl⟩
  obtain ⟨ix, hix⟩ : ∃ i, i = S.idx nm := ⟨_, rfl⟩
  rw [← htk, ← hix] at hR
  obtain ⟨BL, hBL⟩ : ∃ n, n = body.length := ⟨_, rfl⟩
  have hblk := fun w5 => hM body b bc { p with c := S.C.length } pn pe { S with C := S.C ++ [(nm, p.c)] } (k + 1) w5 hcm hbd hbl hok (by
    have h4 := hs.mono (m' := 10 * (k + 1)) (k' := k + 1) (by omega) (by omega)
    refine ⟨h4.n, h4.a, ?_, h4.l, h4.at', h4.kt, h4.nn, fun q hq => ?_⟩
    · have := hs.c; simp; omega
    · rcases List.mem_append.1 hq with hq | hq
      · exact h4.cc q hq
      · rw [List.mem_singleton.1 hq]; exact ⟨hn, hp.1, by have := hp.2.1; show p.c ≤ _; omega⟩)
    ⟨by show (-1 : Int) ≤ (S.C.length : Int); omega, by have := hs.c; show (S.C.length : Int) ≤ _; omega, hp.2.2.1.mono (by omega), hp.2.2.2.mono (by omega)⟩ (by omega)
  rw [← hBL] at hblk ⊢
  obtain ⟨w2, hw2⟩ : ∃ w2, w2 = (w.alloc (.cells #[.int .i64 5, .string nm, .slice r Rn rc, .slice a An ac, .slice b BL bc] 56)).alloc (.cells #[.int .i64 p.c, pn, pe] 71) := ⟨_, rfl⟩
  have x2 : Ext w w2 := by rw [hw2]; exact ((Ext.refl _).alloc _).alloc _
  have hs2 : w2.heap[w.heap.size]? = some (.cells #[.int .i64 5, .string nm, .slice r Rn rc, .slice a An ac, .slice b BL bc] 56 (0, 0)) := by rw [hw2]; exact At.heap_ext (heap_alloc_new w _) ((Ext.refl _).alloc _)
  have hp2 : w2.heap[w.heap.size + 1]? = some (.cells #[.int .i64 p.c, pn, pe] 71 (0, 0)) := by
    have h := heap_alloc_new (w.alloc (.cells #[.int .i64 5, .string nm, .slice r Rn rc, .slice a An ac, .slice b BL bc] 56)) (.cells #[.int .i64 p.c, pn, pe] 71)
    rw [World.size_alloc] at h
    rw [hw2]; exact h
  have h2 := h.ext x2
  have l2 := fun q => (h2.ext ((Ext.refl w2).drewN q)).look2 nm hn
  have l1 := fun q => (h2.ext ((Ext.refl w2).drewN q)).look1 nm hn
  rw [show (S.C.any fun q => decide (q.1 = nm)) = tk from htk.symm] at l2
  rw [show idxGo nm 0 S.N = ix from hix.symm] at l1
  obtain ⟨-, -, c2, c3, c4, -⟩ := h2.cells
  have s1 : w2.cell? ⟨w.heap.size, 1, none⟩ = some (.string nm) := by rw [Lib.cell_of_heap hs2]; rfl
  have HR := Lib.hid hR; have HB := Lib.hid h2; have HBK := Lib.hid hblk; have HS2 := Lib.hid hs2; have HP2 := Lib.hid hp2; have HX2 := Lib.hid x2; have HPN := Lib.hid (hpn.ext x2); have HPE := Lib.hid (hpe.ext x2); have HW2 := Lib.hid hw2; have HTK := Lib.hid htk
  have hC := hs.c
  have HX := Lib.hid (show w0.heap.size ≤ w.heap.size from h.X.size)
  have hC2 : S.C.length ≤ 512 := by omega
  clear hR h h2 hblk hs2 hp2 x2 hpn hpe hw2 htk hix hBL hM hbd hbl hcm hok hs hp hk hC
  go_enter Tryz.func59, Tryz.ntmps59
  go_wp2_with fail
  rw [← HW2.out]
  clear HW2
  cases ix with
  | some v =>
    have hr : Hid (R = .error 6) := Lib.hid (by rw [HR.out, if_pos (.inl rfl)])
    clear HR HBK
    dsimp only [Option.getD_some, Option.isSome_some] at l1
    go_quiet (fail)
    go_wp2_with fail
    go_quiet (fail)
    go_wp2
    go_ret
    rw [hr.out]
    exact ⟨⟨rfl, by decide⟩, KeepB.of ((HX2.out.drewN _).drewN _), (HB.out.X.drewN _).drewN _⟩
  | none =>
    dsimp only [Option.getD_none, Option.isSome_none] at l1
    go_quiet (fail)
    obtain ⟨w3, hw3⟩ : ∃ w3, w3 = w2.drewN nq := ⟨_, rfl⟩
    rw [← hw3]
    have x3 : Ext w2 w3 := by rw [hw3]; exact (Ext.refl _).drewN _
    have HB3 := Lib.hid (HB.out.ext x3); have HS3 := Lib.hid (At.heap_ext HS2.out x3); have HP3 := Lib.hid (At.heap_ext HP2.out x3); have HX3 := Lib.hid (HX2.out.trans x3)
    have HPN3 := Lib.hid (HPN.out.ext x3); have HPE3 := Lib.hid (HPE.out.ext x3)
    have l3 := fun q => (HB3.out.ext ((Ext.refl w3).drewN q)).look2 nm hn
    rw [show (S.C.any fun q => decide (q.1 = nm)) = tk from HTK.out.symm] at l3
    obtain ⟨-, -, -, c3', c4', -⟩ := HB3.out.cells
    have s1' : w3.cell? ⟨w.heap.size, 1, none⟩ = some (.string nm) := by rw [Lib.cell_of_heap HS3.out]; rfl
    clear hw3 x3 HB HS2 HP2 HX2 HPN HPE l1 l2 c2 c3 c4 s1
    cases tk with
    | true =>
      have hr : Hid (R = .error 6) := Lib.hid (by rw [HR.out, if_pos (.inr rfl)])
      clear HR HBK
      go_wp2_with fail
      go_quiet (fail)
      go_wp2
      go_ret
      rw [hr.out]
      exact ⟨⟨rfl, by decide⟩, KeepB.of (HX3.out.drewN _), HB3.out.X.drewN _⟩
    | false =>
      have hr : Hid (R = blkL { p with c := S.C.length } { S with C := S.C ++ [(nm, p.c)] } body) := Lib.hid (by rw [HR.out, if_neg (by simp)])
      clear HR HTK
      go_wp2_with fail
      go_quiet (fail)
      go_wp2_with fail
      obtain ⟨w4, hw4⟩ : ∃ w4, w4 = w3.drewN nq := ⟨_, rfl⟩
      rw [← hw4]
      have x4 : Ext w3 w4 := by rw [hw4]; exact (Ext.refl _).drewN _
      have HB4 := Lib.hid (HB3.out.ext x4); have HS4 := Lib.hid (At.heap_ext HS3.out x4); have HP4 := Lib.hid (At.heap_ext HP3.out x4); have HX4 := Lib.hid (HX3.out.trans x4)
      have HPN4 := Lib.hid (HPN3.out.ext x4); have HPE4 := Lib.hid (HPE3.out.ext x4)
      obtain ⟨-, -, -, c3, c4, -⟩ := HB4.out.cells
      have s1 : w4.cell? ⟨w.heap.size, 1, none⟩ = some (.string nm) := by rw [Lib.cell_of_heap HS4.out]; rfl
      clear hw4 x4 HB3 HS3 HP3 HX3 HPN3 HPE3 l3 c3' c4' s1'
      have B4 := HB4.out.ext ((Ext.refl w4).drew)
      obtain ⟨n2, D2, h2, h2n, h2d⟩ := B4.M2
      obtain ⟨w5, r5, h5, g5⟩ := h2.update key9 Tryz.underlying64 (by unfold maxLen; omega) (key := .string nm) (val := .bool true) (Go.WideMaps.keyOf_string_mk Tryz.underlying9 (by unfold maxLen; omega)) rfl
      obtain ⟨B5, K5⟩ := B4.putT h5 (by omega) (h2d.put nm p.c) g5
      have HB5 := Lib.hid B5; have HK5 := Lib.hid (KeepB.trans (KeepB.of ((Ext.refl w4).drew)) K5)
      clear B4 h2 h2n h2d h5 g5 B5 K5
      go_cut [29] from 29 to 34 (fun s29 wx => s29 = .pointer (some ⟨bb, 0, none⟩) ∧ Hid (Bld w0 bb m1 m2 B wx nv av cv lv aw ks S S.N (S.C ++ [(nm, p.c)])) ∧ Hid (KeepB w4 wx))
      case first =>
        go_region
        all_goals go_wp2
        all_goals go_meet
        all_goals first
          | exact ⟨rfl, HB5, HK5⟩
          | exact ⟨rfl, Lib.hid (HB5.out.ext ((Ext.refl _).drew)), Lib.hid (HK5.out.ext ((Ext.refl _).drew))⟩
      case rest =>
        obtain ⟨rfl, HB6, HK6⟩ := hcut
        obtain ⟨w6, hw6⟩ : ∃ w6, w6 = wc := ⟨_, rfl⟩
        subst hw6
        have HS6 := Lib.hid (HK6.out.blk _ _ _ _ HS4.out (by decide) (by decide) (by decide) (by decide) (by decide))
        have HP6 := Lib.hid (HK6.out.blk _ _ _ _ HP4.out (by decide) (by decide) (by decide) (by decide) (by decide))
        have HPN6 := Lib.hid (HK6.out.atL HPN4.out); have HPE6 := Lib.hid (HK6.out.atL HPE4.out)
        have HW6 := Lib.hid ((KeepB.of HX4.out).trans HK6.out)
        obtain ⟨ca, cc, rfl, -, -⟩ := row_val HB6.out.C
        clear HB4 HS4 HP4 HX4 HPN4 HPE4 HB5 HK5 HK6 c3 c4 s1 r5
        obtain ⟨-, -, -, c3, -, -⟩ := HB6.out.cells
        have c3a := fun ob => (HB6.out.ext ((Ext.refl w6).alloc ob)).cells.2.2.2.1
        have s1 : w6.cell? ⟨w.heap.size, 1, none⟩ = some (.string nm) := by rw [Lib.cell_of_heap HS6.out]; rfl
        have s1a := fun ob => ((Ext.refl w6).alloc ob).cell s1
        have p0 : w6.cell? ⟨w.heap.size + 1, 0, none⟩ = some (.int .i64 p.c) := by rw [Lib.cell_of_heap HP6.out]; rfl
        have p0a := fun ob => ((Ext.refl w6).alloc ob).cell p0
        obtain ⟨j0, hj, hjz0, hjz1, hjz2⟩ := info_parts info_clu
        go_wp2_with fail
        go_cut [35] from 35 to 48 (fun s35 wx => s35 = .pointer (some ⟨bb, 0, none⟩) ∧ ∃ g7 c7, Hid (Bld w0 bb m1 m2 B wx nv av (.slice (some ⟨g7, 0, none⟩) (S.C.length + 1) c7) lv aw ks { S with C := S.C ++ [(nm, p.c)] } S.N (S.C ++ [(nm, p.c)])) ∧ Hid (KeepB w6 wx))
        case first =>
          go_region_law (first
            | (refine step_append_lies _ (by rfl) _ _ 29 (by rfl) B 42 j0 _ 2 24 Tryz.underlying29 hj hjz0 hjz1 hjz2 rfl (by decide) _ _ _ (by rfl) (At.own_ext HB6.out.C (((Ext.refl w6).alloc _).drew)) ⟨w6.heap.size, 0, none⟩ 1 1 [.string nm, .int .i64 p.c] (by rfl) (by rfl) (World.news_of_block (cs := #[.string nm, .int .i64 p.c]) (t := 42) (fr := (0, 0)) (heap_alloc_new w6 _)) (by intro u hu; simp at hu; rcases hu with rfl | rfl <;> rfl) (by omega) (by unfold maxLen; omega) (by omega) (by have := HB6.out.Z; simp; omega) _ rfl ?_
               intro g7 c7 w7 hown1 hgrow hat2 hlt2
               have HB7 := Lib.hid (HB6.out.ext (((Ext.refl w6).alloc (.cells #[.string nm, .int .i64 p.c] 42)).drew))
               have hS7 := HB7.out.midS hgrow (row_ty (At.own_ext HB6.out.C (((Ext.refl w6).alloc _).drew))) (by decide)
               have e7 : w7.cell? ⟨bb, 3, none⟩ = some (.slice ca S.C.length cc) := by rw [Lib.cell_of_heap hS7]; rfl
               have f7 : w7.frozen? ⟨bb, 3, none⟩ = false := Lib.frozen_of_heap hS7 3
               have FIN := Lib.hid (HB7.out.appC (nm, p.c) rfl hown1 hgrow)
               clear hown1 hgrow hat2 hlt2 hS7))
          all_goals go_wp2
          all_goals go_meet
          all_goals first
            | exact ⟨rfl, g7, c7, Lib.hid FIN.out.1, Lib.hid ((KeepB.of (((Ext.refl w6).alloc _).drew)).trans FIN.out.2)⟩
            | exact ⟨rfl, g7, c7, Lib.hid (FIN.out.1.ext ((Ext.refl _).drew)), Lib.hid (((KeepB.of (((Ext.refl w6).alloc _).drew)).trans FIN.out.2).ext ((Ext.refl _).drew))⟩
        case rest =>
          obtain ⟨rfl, g7, c7, HB8, HK8⟩ := hcut
          have HS8 := Lib.hid (HK8.out.blk _ _ _ _ HS6.out (by decide) (by decide) (by decide) (by decide) (by decide))
          have HP8 := Lib.hid (HK8.out.blk _ _ _ _ HP6.out (by decide) (by decide) (by decide) (by decide) (by decide))
          have HPN8 := Lib.hid (HK8.out.atL HPN6.out); have HPE8 := Lib.hid (HK8.out.atL HPE6.out)
          have HW8 := Lib.hid (HW6.out.trans HK8.out)
          have k3 := HB8.out.cells.2.2.2.1
          have q0 : wc.cell? ⟨w.heap.size + 1, 0, none⟩ = some (.int .i64 p.c) := by rw [Lib.cell_of_heap HP8.out]; rfl
          have qf : wc.frozen? ⟨w.heap.size + 1, 0, none⟩ = false := Lib.frozen_of_heap HP8.out 0
          have hsz := HX.out
          have hp9 := blk_set HP8.out 0 (.int .i64 S.C.length)
          have hs9 : (wc.setCell ⟨w.heap.size + 1, 0, none⟩ (.int .i64 S.C.length)).heap[w.heap.size]? = _ := (Below.heap_setCell _ _ _ _ (show w.heap.size ≠ w.heap.size + 1 by omega)).trans HS8.out
          have HB9 := Lib.hid (HB8.out.other (j := 0) (u := .int .i64 S.C.length) HP8.out (by omega) (by decide) (by decide) (by decide) (by decide) (by decide) (by decide))
          have HPN9 := Lib.hid (HPN8.out.other (j := 0) (u := .int .i64 S.C.length) HP8.out (by decide))
          have HPE9 := Lib.hid (HPE8.out.other (j := 0) (u := .int .i64 S.C.length) HP8.out (by decide))
          have HW9 := Lib.hid (HW8.out.set (g := w.heap.size + 1) (j := 0) (u := .int .i64 S.C.length) (Nat.le_succ _))
          have z4 : (wc.setCell ⟨w.heap.size + 1, 0, none⟩ (.int .i64 S.C.length)).cell? ⟨w.heap.size, 4, none⟩ = some (.slice b BL bc) := by rw [Lib.cell_of_heap hs9]; rfl
          have z0 : (wc.setCell ⟨w.heap.size + 1, 0, none⟩ (.int .i64 S.C.length)).cell? ⟨w.heap.size + 1, 0, none⟩ = some (.int .i64 S.C.length) := by rw [Lib.cell_of_heap hp9]; rfl
          have z1 : (wc.setCell ⟨w.heap.size + 1, 0, none⟩ (.int .i64 S.C.length)).cell? ⟨w.heap.size + 1, 1, none⟩ = some pn := by rw [Lib.cell_of_heap hp9]; rfl
          have z2 : (wc.setCell ⟨w.heap.size + 1, 0, none⟩ (.int .i64 S.C.length)).cell? ⟨w.heap.size + 1, 2, none⟩ = some pe := by rw [Lib.cell_of_heap hp9]; rfl
          clear c3 c3a s1 s1a p0 p0a HB6 HS6 HP6 HPN6 HPE6 HW6 HK8 hp9 hs9 hsz HB8 HS8 HP8 HPN8 HPE8 HW8
          go_wp2_with (go_at_call 24; refine (HBK.out _ ⟨_, _, _, _, _, _, HB9.out⟩ HPN9.out HPE9.out).mono ?_; rintro e w10 ⟨hbr, kb10, x10⟩; obtain ⟨v, rfl⟩ := hbr.val)
          go_ret
          rw [hr.out]
          exact ⟨hbr, HW9.out.trans kb10, x10⟩
end Go.Proofs.YtnancphlkbfglaaGreatDoor.Nm

/- Small plain facts: what is left of a text; equal and unequal numbers. -/
namespace Go.Proofs.YtnancphlkbfglaaGreatDoor.Lx
open Go.RowKit Go.Sort Go.Lib Go.Shelf Fx

theorem drop_at (s : ByteArray) (k : Nat) (hk : k < s.size) : s.data.toList.drop k = s[k] :: s.data.toList.drop (k + 1) := by
  have h : k < s.data.toList.length := by rw [← size_len]; exact hk
  rw [List.drop_eq_getElem_cons h]; rfl
theorem drop_end (s : ByteArray) (k : Nat) (hk : ¬ k < s.size) : s.data.toList.drop k = [] := by
  rw [List.drop_eq_nil_iff, ← size_len]; omega

theorem ne_facts {x k : Int} (h : x ≠ k) : (x == k) = false ∧ (x != k) = true := by
  have : (x == k) = false := by rw [beq_eq_false_iff_ne]; exact h
  exact ⟨this, by rw [bne, this]; rfl⟩
theorem eq_facts {x k : Int} (h : x = k) : (x == k) = true ∧ (x != k) = false := by
  have : (x == k) = true := by rw [beq_iff_eq]; exact h
  exact ⟨this, by rw [bne, this]; rfl⟩

end Go.Proofs.YtnancphlkbfglaaGreatDoor.Lx

/- Lists of pairs of texts in memory; slices.ContainsFunc at attributes with the tree's closure. -/
namespace Go.Proofs.YtnancphlkbfglaaGreatDoor.Tr
open Go.RowKit Go.Sort Go.Lib Go.Shelf Fx Lx

/-- A list of pairs of texts behind a slice, wherever it lies. -/
def TwoIn (w : World) (a : Option Addr) (L : List Two) : Prop :=
  ∀ k (h : k < L.length), ∃ g o, a = some ⟨g, o, none⟩ ∧ w.cell? ⟨g, o + k * 2, none⟩ = some (.string L[k].1) ∧ w.cell? ⟨g, o + k * 2 + 1, none⟩ = some (.string L[k].2)
theorem TwoIn.ext {w w' : World} {a : Option Addr} {L : List Two} (h : TwoIn w a L) (x : Ext w w') : TwoIn w' a L := fun k hk => by
  obtain ⟨g, o, ha, h0, h1⟩ := h k hk
  exact ⟨g, o, ha, x.cell h0, x.cell h1⟩
theorem TwoAt.in {n : Nat} {w : World} {a : Option Addr} {L : List Two} (h : TwoAt n w a L) : TwoIn w a L := fun k hk => by
  obtain ⟨g, o, ha, _, h0, h1⟩ := h k hk
  exact ⟨g, o, ha, h0, h1⟩
def hasA (l : List Two) (n : ByteArray) : Bool := l.any (fun q => decide (q.1 = n))
theorem beqs (n x : ByteArray) : (n.toList == x.toList) = decide (n = x) := by
  rw [ByteArray.toList_eq, ByteArray.toList_eq, Bool.eq_iff_iff, beq_iff_eq, decide_eq_true_eq]
  exact ⟨fun h => ByteArray.ext (Array.toList_inj.1 h), fun h => by rw [h]⟩
set_option maxHeartbeats 4000000 in
theorem closA_any (n x : ByteArray) (d : ByteArray) (c : Addr) (w : World) (hc : w.cell? c = some (.string x)) :
    Calls Tryz.prog 132 #[.agg #[.string n, .string d], .pointer (some c)] w fun e w' => e = .returned (.bool (decide (n = x))) ∧ Ext w w' := by
  have hc' : ∀ o, (w.alloc o).cell? c = some (.string x) := fun o => ((Ext.refl w).alloc o).cell hc
  go_enter Tryz.func132, Tryz.ntmps132
  go_wp2
  go_ret
  exact ⟨ret_bool (beqs n x), (Ext.refl _).alloc _⟩
set_option maxHeartbeats 4000000 in
theorem idxA_any (a : Option Addr) (L : List Two) (cap : Nat) (x : ByteArray) (c : Addr) (w : World) (h : TwoIn w a L) (hc : w.cell? c = some (.string x)) (hL : L.length ≤ 9223372036854775807) :
    Calls Tryz.prog 151 #[.slice a L.length cap, .func (.func 132) #[] #[.pointer (some c)]] w fun e w' => (∃ r : Int, e = .returned (.int .i64 r) ∧ decide (0 ≤ r) = hasA L x) ∧ Ext w w' := by
  obtain ⟨N, hN⟩ : ∃ N, N = L.length := ⟨_, rfl⟩
  have HI := Lib.hid h
  rw [← hN] at hL ⊢
  have HN := Lib.hid hN
  have HC := Lib.hid hc
  clear h hN hc
  go_enter Tryz.func151, Tryz.ntmps151
  go_wp2_with fail
  go_loopw [8] (fun i' wr => ∃ k : Nat, k ≤ N ∧ i' = .int .i64 k ∧ Hid (∀ j (hj : j < L.length), j < k → L[j].1 ≠ x) ∧ Ext w wr) (fun i' _ => N - (RowKit.intOf i').toNat)
  case atStart => exact ⟨0, by omega, rfl, Lib.hid (fun j _ h => absurd h (by omega)), Ext.refl _⟩
  case round =>
    obtain ⟨k, hk, rfl, hall, hx⟩ := hrel
    by_cases hlt : k < N
    · have hkl : k < L.length := by rw [← HN.out]; exact hlt
      obtain ⟨g, o, rfl, c0, c1⟩ := (HI.out.ext hx) k hkl
      obtain ⟨n, hn⟩ : ∃ n, n = L[k].1 := ⟨_, rfl⟩
      obtain ⟨d, hd⟩ : ∃ d, d = L[k].2 := ⟨_, rfl⟩
      rw [← hn] at c0; rw [← hd] at c1
      have HNM := Lib.hid hn
      clear hn hd
      by_cases heq : n = x
      · have hf : Hid (hasA L x = true) := Lib.hid (by
          unfold hasA; rw [List.any_eq_true]; exact ⟨L[k], List.getElem_mem hkl, by rw [← HNM.out]; exact decide_eq_true heq⟩)
        have HCL := Lib.hid (closA_any n x d c wr (hx.cell HC.out))
        rw [decide_eq_true heq] at HCL
        clear heq hall HNM
        go_wp2_with (go_at_call 132; refine HCL.out.mono ?_; rintro e w1 ⟨rfl, x1⟩)
        go_returns
        exact ⟨⟨k, rfl, by rw [hf.out]; simp⟩, hx.trans x1⟩
      · have hf : Hid (∀ j (hj : j < L.length), j < k + 1 → L[j].1 ≠ x) := Lib.hid (fun j hj h => by
          by_cases e : j = k
          · subst e; rw [← HNM.out]; exact heq
          · exact hall.out j hj (by omega))
        have HCL := Lib.hid (closA_any n x d c wr (hx.cell HC.out))
        rw [decide_eq_false heq] at HCL
        clear heq hall HNM
        go_wp2_with (go_at_call 132; refine HCL.out.mono ?_; rintro e w1 ⟨rfl, x1⟩)
        go_roundw
        case rel => exact ⟨k + 1, by omega, by go_num, hf, hx.trans x1⟩
        case measure => simp [RowKit.intOf]; omega
    · have hf : Hid (hasA L x = false) := Lib.hid (by
        unfold hasA; rw [List.any_eq_false]; intro q hq
        obtain ⟨j, hj, rfl⟩ := List.getElem_of_mem hq
        simpa using hall.out j hj (by rw [← HN.out] at hj; omega))
      clear hall
      go_wp2
      go_returns
      exact ⟨⟨-1, rfl, by rw [hf.out]; decide⟩, hx⟩
set_option maxHeartbeats 4000000 in
theorem hasA_any (a : Option Addr) (L : List Two) (cap : Nat) (x : ByteArray) (c : Addr) (w : World) (h : TwoIn w a L) (hc : w.cell? c = some (.string x)) (hL : L.length ≤ 9223372036854775807) :
    Calls Tryz.prog 131 #[.slice a L.length cap, .func (.func 132) #[] #[.pointer (some c)]] w fun e w' => e = .returned (.bool (hasA L x)) ∧ Ext w w' := by
  have H := Lib.hid (idxA_any a L cap x c w h hc hL)
  clear h hc hL
  go_enter Tryz.func131, Tryz.ntmps131
  go_wp2_with (go_at_call 151; refine H.out.mono ?_; rintro e w1 ⟨⟨r, rfl, hr⟩, x1⟩)
  go_ret
  exact ⟨rfl, x1⟩
end Go.Proofs.YtnancphlkbfglaaGreatDoor.Tr

/- What form and named of the tree return. -/
namespace Go.Proofs.YtnancphlkbfglaaGreatDoor.Tr
open Go.RowKit Go.Sort Go.Lib Go.Shelf Fx Lx

abbrev stmA (k : Int) (nm : ByteArray) (r a b : Option Addr) (R A B rc ac bc : Nat) : Array Value := #[.int .i64 k, .string nm, .slice r R rc, .slice a A ac, .slice b B bc]
theorem stm_cells (w : World) (k : Int) (nm : ByteArray) (r a b : Option Addr) (R A B rc ac bc : Nat) : ∀ w1, Ext (w.alloc (.cells #[.int .i64 k, .string nm, .slice r R rc, .slice a A ac, .slice b B bc] 56)) w1 →
    w1.cell? ⟨w.heap.size, 0, none⟩ = some (.int .i64 k) ∧ w1.cell? ⟨w.heap.size, 1, none⟩ = some (.string nm) ∧ w1.cell? ⟨w.heap.size, 2, none⟩ = some (.slice r R rc) ∧ w1.cell? ⟨w.heap.size, 3, none⟩ = some (.slice a A ac) ∧ w1.cell? ⟨w.heap.size, 4, none⟩ = some (.slice b B bc) := fun w1 x => by
  have hb := heap_alloc_new w (.cells #[.int .i64 k, .string nm, .slice r R rc, .slice a A ac, .slice b B bc] 56)
  refine ⟨x.cell ?_, x.cell ?_, x.cell ?_, x.cell ?_, x.cell ?_⟩ <;> rw [Lib.cell_of_heap hb] <;> rfl
theorem b0 {n : Nat} : (((n : Int) == 0) = true) = (n = 0) := by simp
set_option maxHeartbeats 4000000 in
theorem form_node (nm : ByteArray) (r a b : Option Addr) (R A B rc ac bc : Nat) (w : World) :
    Calls Tryz.prog 97 #[.agg #[.int .i64 1, .string nm, .slice r R rc, .slice a A ac, .slice b B bc]] w fun e w' => e = .returned (.int .i64 (if (decide (R = 0) && decide (B = 0)) = true then 0 else 1)) ∧ Ext w w' := by
  by_cases hR : R = 0
  · by_cases hB : B = 0
    · subst hR; subst hB
      go_enter Tryz.func97, Tryz.ntmps97
      go_wp2
      go_ret
      exact ⟨rfl, (Ext.refl _).alloc _⟩
    · subst hR
      have f1 : ((B : Int) == 0) = false := by simpa using hB
      rw [decide_eq_false hB]
      clear hB
      go_enter Tryz.func97, Tryz.ntmps97
      go_wp2
      go_ret
      exact ⟨rfl, (Ext.refl _).alloc _⟩
  · have f1 : ((R : Int) == 0) = false := by simpa using hR
    rw [decide_eq_false hR]
    clear hR
    go_enter Tryz.func97, Tryz.ntmps97
    go_wp2
    go_ret
    exact ⟨rfl, (Ext.refl _).alloc _⟩
set_option maxHeartbeats 4000000 in
theorem form_cluster (nm : ByteArray) (r a b : Option Addr) (R A B rc ac bc : Nat) (w : World) :
    Calls Tryz.prog 97 #[.agg #[.int .i64 5, .string nm, .slice r R rc, .slice a A ac, .slice b B bc]] w fun e w' => e = .returned (.int .i64 (if (decide (R = 0) && decide (A = 0)) = true then 0 else 1)) ∧ Ext w w' := by
  by_cases hR : R = 0
  · by_cases hB : A = 0
    · subst hR; subst hB
      go_enter Tryz.func97, Tryz.ntmps97
      go_wp2
      go_ret
      exact ⟨rfl, (Ext.refl _).alloc _⟩
    · subst hR
      have f1 : ((A : Int) == 0) = false := by simpa using hB
      rw [decide_eq_false hB]
      clear hB
      go_enter Tryz.func97, Tryz.ntmps97
      go_wp2
      go_ret
      exact ⟨rfl, (Ext.refl _).alloc _⟩
  · have f1 : ((R : Int) == 0) = false := by simpa using hR
    rw [decide_eq_false hR]
    clear hR
    go_enter Tryz.func97, Tryz.ntmps97
    go_wp2
    go_ret
    exact ⟨rfl, (Ext.refl _).alloc _⟩
theorem size0 {n : ByteArray} : (n.toList == []) = decide (n.size = 0) := by
  rw [ByteArray.toList_eq, size_len, Bool.eq_iff_iff, beq_iff_eq, decide_eq_true_eq, List.length_eq_zero_iff]
set_option maxHeartbeats 4000000 in
theorem form_edge (nm : ByteArray) (r a b : Option Addr) (R A B rc ac bc : Nat) (w : World) :
    Calls Tryz.prog 97 #[.agg #[.int .i64 2, .string nm, .slice r R rc, .slice a A ac, .slice b B bc]] w fun e w' => e = .returned (.int .i64 (if (decide (nm.size = 0) && decide (B = 0) && decide (2 ≤ R)) = true then 0 else 1)) ∧ Ext w w' := by
  have hN := @size0 nm
  cases hn : decide (nm.size = 0)
  · rw [hn] at hN
    clear hn
    go_enter Tryz.func97, Tryz.ntmps97
    go_wp2
    go_ret
    exact ⟨rfl, (Ext.refl _).alloc _⟩
  · rw [hn] at hN
    clear hn
    by_cases hB : B = 0
    · subst hB
      by_cases hR : 2 ≤ R
      · have f1 : decide ((2 : Int) ≤ R) = true := decide_eq_true (by omega)
        rw [decide_eq_true hR]
        go_enter Tryz.func97, Tryz.ntmps97
        go_wp2
        go_ret
        exact ⟨rfl, (Ext.refl _).alloc _⟩
      · have f1 : decide ((2 : Int) ≤ R) = false := decide_eq_false (by omega)
        rw [decide_eq_false hR]
        go_enter Tryz.func97, Tryz.ntmps97
        go_wp2
        go_ret
        exact ⟨rfl, (Ext.refl _).alloc _⟩
    · have f1 : ((B : Int) == 0) = false := by simpa using hB
      rw [decide_eq_false hB]
      clear hB
      go_enter Tryz.func97, Tryz.ntmps97
      go_wp2
      go_ret
      exact ⟨rfl, (Ext.refl _).alloc _⟩
end Go.Proofs.YtnancphlkbfglaaGreatDoor.Tr
