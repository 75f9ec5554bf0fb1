/- Packed texts: TopReach, TopQueue, TopDown, TopHeap -/
import Derived.Test.YtjjcjoedgmfalaaPt03
import Derived.Test.YtjjcjoedgmfalaaPt02
import Derived.Deep.RegionLaw
set_option linter.unusedVariables false
set_option linter.unusedSimpArgs false
/- What the program's Reach returns. -/
namespace Go.Proofs.Ytjjcjoedgmfalaa.Tp
open Go.RowKit Go.Sort Go.Lib Fx

/-- A list of vertices, as it is handed back. -/
def LstR (e : Ending) (w' : World) (l : List Nat) : Prop := ∃ a c, e = .returned (.slice a l.length c) ∧ IntIn w' a (zl l)
theorem valid_ok {N : Nat} {A : Arcs} (hN : N ≤ 64) (hA : A.length ≤ 256) (ok : Ok N A) : validL N (zarc A) = true := by
  unfold validL
  rw [decide_eq_true (by rw [zarc_len]; omega), Bool.true_and, List.all_eq_true]
  intro p hp
  obtain ⟨q, hq, rfl⟩ := List.mem_map.1 hp
  have := ok q hq
  unfold goodP; exact decide_eq_true (by simp only; omega)
theorem zarc_ok {N : Nat} {A : Arcs} (hN : N ≤ 64) (ok : Ok N A) : ArcOk (zarc A) := fun p hp => by
  obtain ⟨q, hq, rfl⟩ := List.mem_map.1 hp
  have := ok q hq
  simp only; omega
theorem own_one (w : World) (x : Int) : (w.alloc (.cells #[.int .i64 x] 3)).ownsRow w.heap.size 3 1 (.slice (some ⟨w.heap.size, 0, none⟩) 1 1) 1 [.int .i64 x] :=
  ⟨rfl, .inr ⟨w.heap.size, 1, _, rfl, Nat.le_refl _, heap_alloc_new w _, Nat.le_refl _, by unfold maxLen; omega, rfl, rfl⟩⟩
theorem box_at {w w1 : World} {x y : Value} {T : TypeId} (h : Ext (w.alloc (.cells #[x, y] T)) w1) : w1.cell? ⟨w.heap.size, 0, none⟩ = some x ∧ w1.cell? ⟨w.heap.size, 1, none⟩ = some y :=
  ⟨h.cell (by rw [Lib.cell_of_heap (heap_alloc_new w _)]; rfl), h.cell (by rw [Lib.cell_of_heap (heap_alloc_new w _)]; rfl)⟩
theorem own_set {w : World} {B B' : Nat} {e : TypeId} {sz : Nat} {v : Value} {n : Nat} {xs : List Value} (h : w.ownsRow B e sz v n xs) (j : Nat) (u : Value) (hb : B' < B) : (w.setCell ⟨B', j, none⟩ u).ownsRow B e sz v n xs := by
  refine ⟨h.1, ?_⟩
  rcases h.2 with h7 | ⟨q, c2, cur, hv2, hq, hqq, r⟩
  · exact .inl h7
  · exact .inr ⟨q, c2, cur, hv2, hq, heap_other hqq _ _ (by omega), r⟩
theorem new_cells (w : World) (l : List Value) (T : TypeId) (n : Nat) (hn : w.heap.size = n) : ∀ j u, l[j]? = some u → (w.alloc (.cells l.toArray T)).cell? ((⟨n, 0, none⟩ : Addr).add j) = some u := by
  intro j u hu
  rw [add_at, ← hn, Lib.cell_of_heap (heap_alloc_new w _)]
  simpa using hu
theorem outs_lt {N : Nat} {A : Arcs} (ok : Ok N A) {v : Nat} {j : Nat} (h : j < (outs A v).length) : (outs A v)[j] < N := (ok _ (mem_outs.1 (List.getElem_mem h))).2
set_option maxHeartbeats 4000000 in
set_option maxRecDepth 100000 in
theorem reach_any (N : Nat) (a : Option Addr) (A : Arcs) (cap v : Nat) (w : World) (hN : N ≤ 64) (h : ArcIn w a (zarc A)) (hA : A.length ≤ 256) (ok : Ok N A) (hv : v < N) :
    Calls Try.prog 10 #[.agg #[.int .i64 N, .slice a A.length cap], .int .i64 v] w fun e w' => LstR e w' (reachT N A v) ∧ Ext w w' := by
  have hval := fun w1 (x : Ext w w1) => valid_any N a (zarc A) cap w1 (by omega) (by omega) (h.ext x) (zarc_ok hN ok) (by rw [zarc_len]; omega)
  rw [valid_ok hN hA ok, zarc_len] at hval
  have hhd := fun w1 (x : Ext w w1) => heads_any N a A cap w1 hN (h.ext x) hA ok
  obtain ⟨M, hM⟩ : ∃ M, M = A.length := ⟨_, rfl⟩
  rw [← hM] at hA hval hhd ⊢
  have hmk := run_make_row' (P := Try.prog) 39 4 (.bool false) 1 Try.underlying39 info_bool rfl .i64 .i64 N (by omega) (by omega)
  obtain ⟨i0, hi, hz0, hz1, hz2⟩ := info_parts info_int
  have HM := Lib.hid hM; have HV := Lib.hid hval; have HH := Lib.hid hhd; have HOK := Lib.hid ok
  clear h hM hval hhd ok
  have hcl : ∀ w2 : World, (w2.alloc (.cells (madeCells #[.bool false] N) 4)).cell? ⟨w2.heap.size, v, none⟩ = some (.bool false) := fun w2 => by
    rw [Lib.cell_of_heap (heap_alloc_new w2 _), made_eq]; simp [hv]
  have c0 : decide ((v : Int) < 0) = false := decide_eq_false (by omega)
  have c1 : decide ((N : Int) ≤ (v : Int)) = false := decide_eq_false (by omega)
  go_enter Try.func10, Try.ntmps10
  go_wp2_with (first | (go_at_call 22; refine (HV.out _ ((Ext.refl _).alloc _)).mono ?_; rintro e w1 ⟨rfl, x1⟩; have b1 := box_at x1; have b10 := b1.1; have b11 := b1.2) | (go_at_call 23; refine (HH.out _ (((Ext.refl _).alloc _).trans x1)).mono ?_; rintro e w2 ⟨bo, rfl, hnx, hbo, x2⟩; have b2 := box_at (x1.trans x2); have b20 := b2.1; have b21 := b2.2))
  clear hcl hmk b10 b11 b20 b21 b1 b2
  have hN2 := Lib.hid (show N ≤ 64 from hN)
  go_loopw [7, 8] (fun o' i' wr => ∃ (i : Nat) (s : List Bool × List Nat), i' = .int .i64 i ∧ Hid (BfsI N A v i s) ∧ Hid (wr.ownsRow (w2.heap.size + 1) 3 1 o' s.2.length (iv (zl s.2))) ∧ Hid (BlkB wr w2.heap.size s.1) ∧ Ext w2 wr) (fun o' i' _ => N - (RowKit.intOf i').toNat)
  case atStart =>
    refine ⟨0, (markN N v, [v]), rfl, Lib.hid (BfsI.zero N A hv), Lib.hid ?_, Lib.hid ?_, ((Ext.refl _).alloc _).alloc _⟩
    · have := own_one (w2.alloc (.cells ((madeCells #[.bool false] N).setIfInBounds v (.bool true)) 4)) v
      rw [World.size_alloc] at this
      exact this
    · have h1 := heap_alloc_new w2 (.cells ((madeCells #[.bool false] N).setIfInBounds v (.bool true)) 4)
      have h2 := heap_ext h1 ((Ext.refl _).alloc (.cells #[.int .i64 (v : Int)] 3))
      unfold BlkB
      rw [h2, made_eq]
      unfold bv markN
      simp [List.map_set, ← List.setIfInBounds_toArray, List.toArray_replicate]
  case round =>
    obtain ⟨i, s, rfl, hb, hown, hblk, hx⟩ := hrel
    have hsm := hb.out.small
    obtain ⟨ov, oc, rfl, hin, -⟩ := own_ints hown.out (by rw [zl_len])
    rw [zl_len] at *
    by_cases hlt : i < s.2.length
    · obtain ⟨g, o, rfl, e0⟩ := hin i (by rw [zl_len]; exact hlt)
      rw [zl_at _ _ hlt] at e0
      obtain ⟨x, hxe⟩ : ∃ x, x = s.2[i] := ⟨_, rfl⟩
      rw [← hxe] at e0
      have hxN : x < N := by rw [hxe]; exact hb.out.lt _ (List.getElem_mem hlt)
      obtain ⟨ra, rc, e1', hrow, -⟩ := hnx x hxN
      have e1 := hx.cell e1'
      clear e1'
      have hol := Nat.le_trans (outs_len_le A x) (Nat.le_of_eq HM.out.symm)
      have hpath := outs_path HOK.out (hb.out.path _ (List.getElem_mem hlt))
      rw [← hxe] at hpath
      have hnext := hb.out.next HOK.out hlt
      rw [List.getD_eq_getElem?_getD, List.getElem?_eq_getElem hlt, Option.getD_some, ← hxe] at hnext
      obtain ⟨R, hR⟩ : ∃ R, R = outs A x := ⟨_, rfl⟩
      rw [← hR] at e1 hrow hol hpath hnext
      have HR := Lib.hid hR
      obtain ⟨n, hn⟩ : ∃ n, n = R.length := ⟨_, rfl⟩
      rw [← hn] at e1 hol
      have HX := Lib.hid hxe; have HROW := Lib.hid hrow; have HP := Lib.hid hpath; have HNE := Lib.hid hnext; have HNN := Lib.hid hn
      have hse := hb.out.toSeeI
      have HS := Lib.hid hse
      have HSM := Lib.hid hsm
      clear hxe hrow hpath hnext hn hR hse hb hin
      obtain ⟨wo, hwo⟩ : ∃ wo : World, wo = wr := ⟨_, rfl⟩
      subst hwo
      go_wp2
      go_loopw [7, 48] (fun o' i' wr => ∃ (k : Nat) (sl : Value), k ≤ n ∧ sl = o' ∧ i' = .int .i64 k ∧ Hid (wr.ownsRow (w2.heap.size + 1) 3 1 sl ((R.take k).foldl seeB s).2.length (iv (zl ((R.take k).foldl seeB s).2))) ∧ Hid (BlkB wr w2.heap.size ((R.take k).foldl seeB s).1) ∧ Ext w2 wr) (fun _ i' _ => n - (RowKit.intOf i').toNat)
      case atStart => exact ⟨0, _, Nat.zero_le _, rfl, rfl, hown, hblk, hx⟩
      case round =>
        obtain ⟨k, sl, hk, rfl, rfl, hown', hblk', hx'⟩ := hrel
        have hI : SeeI N A v ((R.take k).foldl seeB s) := foldB_inv _ s HS.out (fun y hy => HP.out y (List.mem_of_mem_take hy))
        have hsm' := hI.small
        have hlen' := hI.len
        by_cases hlt' : k < n
        · have hkR : k < R.length := by rw [← HNN.out]; exact hlt'
          obtain ⟨rg, ro, rfl, d0⟩ := (HROW.out.ext hx') k (by rw [zl_len]; exact hkR)
          rw [zl_at _ _ hkR] at d0
          have hyN := (HP.out _ (List.getElem_mem hkR)).1
          have hstep : (R.take (k + 1)).foldl seeB s = seeB ((R.take k).foldl seeB s) R[k] := by rw [List.take_succ_eq_append_getElem hkR, List.foldl_append]; rfl
          have hI2 := hI.see hyN (HP.out _ (List.getElem_mem hkR)).2
          obtain ⟨y, hye⟩ : ∃ y, y = R[k] := ⟨_, rfl⟩
          rw [← hye] at d0 hyN hstep hI2
          obtain ⟨s1, hs1⟩ : ∃ s1, s1 = (R.take k).foldl seeB s := ⟨_, rfl⟩
          rw [← hs1] at hstep hI hI2 hsm' hlen' hown' hblk'
          have d1 := hblk'.out.cellD (j := y) (by rw [hlen']; exact hyN)
          have d2 := hblk'.out.frozen y
          have HST := Lib.hid hstep
          have HI2 := Lib.hid hI2.small
          clear hye hs1 hstep hI hI2
          by_cases ht : s1.1.getD y false = true
          · have hsee : Hid (seeB s1 y = s1) := Lib.hid (by unfold seeB; rw [if_pos ht])
            rw [ht] at d1
            clear ht
            go_wp2
            go_roundw
            case rel => exact ⟨k + 1, _, by omega, rfl, by go_num, by rw [HST.out, hsee.out]; exact hown', by rw [HST.out, hsee.out]; exact hblk', hx'⟩
            case measure => simp [RowKit.intOf]; omega
          · have hf : s1.1.getD y false = false := by simpa using ht
            have hsee : Hid (seeB s1 y = (s1.1.set y true, s1.2 ++ [y])) := Lib.hid (by unfold seeB; rw [if_neg ht])
            rw [hsee.out] at HI2
            have hl2 : s1.2.length + 1 ≤ N := by have := HI2.out; simpa using this
            rw [hf] at d1
            clear ht hf HI2
            have hbw : Hid (w2.heap.size < wr.heap.size) := Lib.hid hblk'.out.lt
            have hown2 : Hid ((wr.setCell ⟨w2.heap.size, y, none⟩ (.bool true)).ownsRow (w2.heap.size + 1) 3 1 sl s1.2.length (iv (zl s1.2))) := Lib.hid (own_set hown'.out _ _ (by omega))
            have hblk2 := Lib.hid (hblk'.out.set y true)
            go_wp2_with (at_builtin; refine wpList_append_lies _ rfl _ _ 26 rfl (w2.heap.size + 1) 3 i0 _ 1 8 Try.underlying26 hi hz0 hz1 hz2 rfl (by decide) _ _ _ rfl (hown2.out.alloc _) ⟨wr.heap.size, 0, none⟩ 1 1 [.int .i64 y] rfl rfl ?c1 ?c2 (by decide) ?c3 ?c4 ?c5 _ rfl ?_)
            case c1 => exact new_cells _ [_] _ _ (by simp [World.setCell])
            case c2 => simp [Value.oneCell']
            case c3 => unfold maxLen; omega
            case c4 => omega
            case c5 => have := hbw.out; simp [World.setCell]; omega
            intro gg cc w3 hown3 hgrow3 _ _
            have hblk3 : Hid (BlkB w3 w2.heap.size (s1.1.set y true)) := Lib.hid (heap_grown (heap_ext hblk2.out ((Ext.refl _).alloc _)) hgrow3 (fun e => by have := (hown2.out.lt _ e.symm).1; omega))
            have hx3 : Ext w2 w3 := Below.grown ((hx'.setCell (show w2.heap.size ≤ w2.heap.size from Nat.le_refl _) _).alloc _) hgrow3 (by have := hbw.out; simp [World.setCell]; omega) (fun q hq => by have := (hown2.out.lt q hq).1; omega)
            have hown4 : Hid (w3.ownsRow (w2.heap.size + 1) 3 1 (.slice (some ⟨gg, 0, none⟩) (s1.2.length + 1) cc) (s1.2 ++ [y]).length (iv (zl (s1.2 ++ [y])))) := Lib.hid (by rw [zl_app, iv_app, List.length_append]; exact hown3)
            clear hown3 hgrow3
            go_wp2
            go_roundw
            case rel => exact ⟨k + 1, _, by omega, rfl, by go_num, by rw [HST.out, hsee.out]; exact hown4, by rw [HST.out, hsee.out]; exact hblk3, hx3⟩
            case measure => simp [RowKit.intOf]; omega
        · have hkn : k = R.length := by have := HNN.out; omega
          rw [hkn, List.take_length] at hown' hblk'
          rw [hkn, List.take_length] at hsm'
          clear hI hlen' hkn
          go_wp2
          go_roundw
          case rel => exact ⟨i + 1, _, by go_num, HNE, hown', hblk', hx'⟩
          case measure => simp [RowKit.intOf]; omega
    · have hil : i = s.2.length := by have := hb.out.at_; omega
      subst hil
      have hsort := sort_own wr hown.out (by omega) (by have := hblk.out.lt; omega)
      have HB := hb
      have HSO := Lib.hid hsort
      have HO := hown
      have hbl := Lib.hid hblk.out.lt
      clear hsort hb hown hin
      go_wp2_with (go_at_call 24; refine HSO.out.mono ?_; rintro e w3 ⟨rfl, ⟨a3, c3, l, hv3, hin3, hp3, hs3, -⟩, x3⟩; have HV3 := Lib.hid hv3; clear hv3)
      go_ret
      refine ⟨?_, ?_⟩
      · have hv3 := HV3.out
        injection hv3 with h1 h2 h3
        subst h1; subst h3
        have hl := (HB.out.sorted HOK.out hv hp3 hs3)
        rw [← hl]
        refine ⟨ov, oc, ?_, hin3⟩
        rw [hp3.length_eq]; rfl
      · have y1 : Ext w w2 := (((Ext.refl _).alloc _).trans x1).trans x2
        exact y1.trans (Below.trans hx (Below.mono x3 (by omega)))
end Go.Proofs.Ytjjcjoedgmfalaa.Tp

/- The heap of vertices: the queue in memory, its methods through the interface, up and down, Push and Pop. -/
namespace Go.Proofs.Ytjjcjoedgmfalaa.Tp
open Go.RowKit Go.Sort Go.Lib Fx

/-- The queue in block bq, its numbers in a row of the call's own from B on. -/
structure QAt (w : World) (bq B : Nat) (sv : Value) (L : List Int) : Prop where
  q : w.heap[bq]? = some (.cells #[sv] 50 (0, 0))
  own : w.ownsRow B 3 1 sv L.length (iv L)
theorem QAt.cell {w : World} {bq B : Nat} {sv : Value} {L : List Int} (h : QAt w bq B sv L) : w.cell? ⟨bq, 0, none⟩ = some sv := by rw [Lib.cell_of_heap h.q]; rfl
theorem QAt.ext {w w' : World} {bq B : Nat} {sv : Value} {L : List Int} (h : QAt w bq B sv L) (x : Ext w w') : QAt w' bq B sv L := ⟨heap_ext h.q x, own_ext' h.own x⟩
theorem meth_less (n b : Nat) (sv : Value) (w : World) (hc : w.cell? ⟨b, 0, none⟩ = some sv) : (method (n + 1) 47 (.pointer (some ⟨b, 0, none⟩)) "Less").run Try.prog w = .ok (85, sv) w := by
  have : (method (n + 1) 47 (.pointer (some ⟨b, 0, none⟩)) "Less").run Try.prog w = (Sem.load .plain ⟨b, 0, none⟩ (fun v => .pure (85, v))).run Try.prog w := by kernel_rfl
  rw [this]
  unfold Sem.run
  rw [hc]
  rfl
theorem meth_len (n b : Nat) (sv : Value) (w : World) (hc : w.cell? ⟨b, 0, none⟩ = some sv) : (method (n + 1) 47 (.pointer (some ⟨b, 0, none⟩)) "Len").run Try.prog w = .ok (29, sv) w := by
  have : (method (n + 1) 47 (.pointer (some ⟨b, 0, none⟩)) "Len").run Try.prog w = (Sem.load .plain ⟨b, 0, none⟩ (fun v => .pure (29, v))).run Try.prog w := by kernel_rfl
  rw [this]
  unfold Sem.run
  rw [hc]
  rfl
theorem meth_swap (n b : Nat) (sv : Value) (w : World) (hc : w.cell? ⟨b, 0, none⟩ = some sv) : (method (n + 1) 47 (.pointer (some ⟨b, 0, none⟩)) "Swap").run Try.prog w = .ok (89, sv) w := by
  have : (method (n + 1) 47 (.pointer (some ⟨b, 0, none⟩)) "Swap").run Try.prog w = (Sem.load .plain ⟨b, 0, none⟩ (fun v => .pure (89, v))).run Try.prog w := by kernel_rfl
  rw [this]
  unfold Sem.run
  rw [hc]
  rfl
theorem meth_push (n b : Nat) (w : World) : (method (n + 1) 47 (.pointer (some ⟨b, 0, none⟩)) "Push").run Try.prog w = .ok (87, .pointer (some ⟨b, 0, none⟩)) w := by kernel_rfl
theorem meth_pop (n b : Nat) (w : World) : (method (n + 1) 47 (.pointer (some ⟨b, 0, none⟩)) "Pop").run Try.prog w = .ok (86, .pointer (some ⟨b, 0, none⟩)) w := by kernel_rfl

theorem own_setc {w : World} {B n : Nat} {sv : Value} {L : List Int} {g : Nat} (h : w.ownsRow B 3 1 sv n (iv L)) (hg : sv.ownBlock = some g) (i : Nat) (x : Int) (hi : i < L.length) : (w.setCell ⟨g, i, none⟩ (.int .i64 x)).ownsRow B 3 1 sv n (iv (L.set i x)) := by
  have hn : n = L.length := by have := h.1; rw [iv_len] at this; omega
  refine ⟨by rw [iv_len, List.length_set]; omega, ?_⟩
  rcases h.2 with ⟨rfl, h2⟩ | ⟨g', cap, cur, rfl, hb, hgg, h3, h4, h5, h6⟩
  · omega
  · obtain rfl : g' = g := by simpa [Value.ownBlock] using hg
    refine .inr ⟨g', cap, _, rfl, hb, heap_set hgg i _, h3, h4, by rw [Array.size_setIfInBounds]; exact h5, ?_⟩
    have : (cur.setIfInBounds i (.int .i64 x)).toList = cur.toList.set i (.int .i64 x) := by simp
    rw [this, List.take_set, h6]
    unfold iv; rw [List.map_set]
theorem own_drewN {w : World} {B n : Nat} {sv : Value} {xs : List Value} (h : w.ownsRow B 3 1 sv n xs) (q : Nat) : (w.drewN q).ownsRow B 3 1 sv n xs := own_ext' h ((Ext.refl _).drewN q)
/-- Len, Less and Swap on a row of the call's own. -/
theorem own_cells {w : World} {B n : Nat} {sv : Value} {L : List Int} (h : w.ownsRow B 3 1 sv n (iv L)) (h0 : 0 < L.length) : ∃ g c, sv = .slice (some ⟨g, 0, none⟩) L.length c ∧ sv.ownBlock = some g ∧ B ≤ g ∧ (∀ t, t < L.length → w.cell? ⟨g, 0 + t, none⟩ = some (.int .i64 (L.getD t 0)) ∧ w.frozen? ⟨g, 0 + t, none⟩ = false) := by
  obtain ⟨g, c, rfl, hb, hlt, hH⟩ := own_holds h (by intro e; subst e; simp at h0)
  refine ⟨g, c, rfl, rfl, hb, fun t ht => ?_⟩
  have := hH t (by simpa using ht)
  rw [this.1, getDi ht]
  refine ⟨?_, this.2⟩
  simp [ht]
theorem less_own {w : World} {B n : Nat} {sv : Value} {L : List Int} (h : w.ownsRow B 3 1 sv n (iv L)) (i j : Nat) (hi : i < L.length) (hj : j < L.length) (hL : L.length ≤ 1000) :
    Calls Try.prog 85 #[sv, .int .i64 i, .int .i64 j] w fun e w' => e = .returned (.bool (decide (L.getD i 0 < L.getD j 0))) ∧ Ext w w' := by
  obtain ⟨g, c, rfl, _, _, hc⟩ := own_cells h (by omega)
  refine (Try.IntSlice_Less g 0 c L.length w (fun t => L.getD t 0) (fun t ht => (hc t ht).1) i j hi hj (by omega)).mono ?_
  rintro e w' ⟨rfl, q, rfl⟩
  exact ⟨rfl, (Ext.refl _).drewN q⟩
theorem swap_own {w : World} {B n : Nat} {sv : Value} {L : List Int} (h : w.ownsRow B 3 1 sv n (iv L)) (i j : Nat) (hi : i < L.length) (hj : j < L.length) (hL : L.length ≤ 1000) :
    Calls Try.prog 89 #[sv, .int .i64 i, .int .i64 j] w fun e w' => e = .returned (.tuple #[]) ∧ w'.ownsRow B 3 1 sv n (iv (swp L i j)) ∧ Keep (fun b => sv.ownBlock = some b) w w' := by
  obtain ⟨g, c, rfl, hg, _, hc⟩ := own_cells h (by omega)
  refine (Try.IntSlice_Swap g 0 c L.length w (L.getD i 0) (L.getD j 0) i j hi hj (by omega) (hc i hi).1 (hc j hj).1 (hc i hi).2 (hc j hj).2).mono ?_
  rintro e w' ⟨rfl, q, rfl⟩
  rw [Nat.zero_add, Nat.zero_add]
  refine ⟨rfl, own_drewN (own_setc (own_setc h hg i _ hi) hg j _ (by rw [List.length_set]; exact hj)) q, ?_⟩
  exact (((Keep.refl _ w).setCell _ _ (.inl hg)).setCell _ _ (.inl hg)).ext ((Ext.refl _).drewN q)
theorem len_own (p : Option Addr) (n c : Nat) (w : World) : Calls Try.prog 29 #[.slice p n c] w fun e w' => e = .returned (.int .i64 n) ∧ Ext w w' := by
  refine (Try.IntSlice_Len p n c w).mono ?_
  rintro e w' ⟨rfl, q, rfl⟩
  exact ⟨rfl, (Ext.refl _).drewN q⟩
theorem QAt.keep {w w' : World} {bq B : Nat} {sv : Value} {L M : List Int} (h : QAt w bq B sv L) (hb : bq < B) (k : Keep (fun b => sv.ownBlock = some b) w w') (ho : w'.ownsRow B 3 1 sv L.length (iv M)) (hm : M.length = L.length) : QAt w' bq B sv M :=
  ⟨k.heap h.q (fun e => by have := (h.own.lt bq e).1; omega), by rw [hm]; exact ho⟩
set_option maxHeartbeats 4000000 in
set_option maxRecDepth 100000 in
theorem up_any (bq B j : Nat) (sv : Value) (L : List Int) (w : World) (h : QAt w bq B sv L) (hb : bq < B) (hj : j < L.length) (hL : L.length ≤ 1000) (hu : UpOk L j) :
    Calls Try.prog 37 #[.iface 47 (.pointer (some ⟨bq, 0, none⟩)), .int .i64 j] w fun e w' => e = .returned (.tuple #[]) ∧ (∃ M, QAt w' bq B sv M ∧ M.Perm L ∧ HeapN M.length M) ∧ Keep (fun b => sv.ownBlock = some b) w w' := by
  have HQ := Lib.hid h; have HU := Lib.hid hu
  clear h hu
  go_enter Try.func37, Try.ntmps37
  go_wp2
  go_loopw [1] (fun j' wr => ∃ (k : Nat) (M : List Int), j' = .int .i64 k ∧ k < M.length ∧ M.length = L.length ∧ Hid (QAt wr bq B sv M) ∧ Hid (M.Perm L) ∧ Hid (UpOk M k) ∧ Keep (fun b => sv.ownBlock = some b) w wr) (fun j' _ => (RowKit.intOf j').toNat)
  case atStart => exact ⟨j, L, rfl, hj, rfl, HQ, Lib.hid (.refl _), HU, Keep.refl _ _⟩
  case round =>
    obtain ⟨k, M, rfl, hk, hlen, hq, hp, huk, hkeep⟩ := hrel
    have hc := hq.out.cell
    by_cases h0 : 0 < k
    · have q1 : ((k : Int) - 1).tdiv 2 = (((k - 1) / 2 : Nat) : Int) := by
        rw [Int.tdiv_eq_ediv_of_nonneg (by omega)]; omega
      obtain ⟨i, hi⟩ : ∃ i, i = (k - 1) / 2 := ⟨_, rfl⟩
      rw [← hi] at q1
      have hik : i < k := by omega
      have q2 : ((i : Int) == (k : Int)) = false := (neq_facts (by omega)).1
      have m1 := meth_less 213 bq sv wr hc
      have hless := less_own hq.out.own k i hk (by omega) (by omega)
      have HI := Lib.hid hi
      clear hi
      by_cases hlt : M.getD k 0 < M.getD i 0
      · rw [decide_eq_true hlt] at hless
        have HS := Lib.hid (huk.out.step hk h0 (by rw [← HI.out]; exact hlt))
        rw [← HI.out] at HS
        have HLE := Lib.hid hless
        clear hless hlt
        go_wp2_with (first | (go_at_call 85; refine HLE.out.mono ?_; rintro e w1 ⟨rfl, x1⟩; have m2 := meth_swap 213 bq sv w1 (x1.cell hc)) | (go_at_call 89; refine (swap_own (hq.out.ext x1).own i k (by omega) hk (by omega)).mono ?_; rintro e w2 ⟨rfl, ho2, k2⟩))
        go_roundw
        case rel => exact ⟨i, swp M i k, rfl, by rw [swp_len]; omega, by rw [swp_len]; exact hlen, Lib.hid ((hq.out.ext x1).keep hb k2 ho2 (swp_len M i k)), Lib.hid ((swp_perm (by omega) hk).trans hp.out), HS, (hkeep.ext x1).trans k2⟩
        case measure => simp [RowKit.intOf]; omega
      · rw [decide_eq_false hlt] at hless
        have HS := Lib.hid (huk.out.done (.inr (by rw [← HI.out]; omega)))
        have HLE := Lib.hid hless
        clear hless hlt
        go_wp2_with (go_at_call 85; refine HLE.out.mono ?_; rintro e w1 ⟨rfl, x1⟩)
        go_end0
        exact ⟨rfl, ⟨M, hq.out.ext x1, hp.out, HS.out⟩, hkeep.ext x1⟩
    · obtain rfl : k = 0 := by omega
      have HS := Lib.hid (huk.out.done (.inl rfl))
      go_wp2
      go_end0
      exact ⟨rfl, ⟨M, hq.out, hp.out, HS.out⟩, hkeep⟩
end Go.Proofs.Ytjjcjoedgmfalaa.Tp

/- container/heap.down. -/
namespace Go.Proofs.Ytjjcjoedgmfalaa.Tp
open Go.RowKit Go.Sort Go.Lib Fx

theorem cast1 (a : Nat) : ((a + 1 : Nat) : Int) = (a : Int) + 1 := by omega
set_option maxHeartbeats 8000000 in
set_option maxRecDepth 100000 in
theorem down_any (bq B n : Nat) (sv : Value) (L : List Int) (w : World) (h : QAt w bq B sv L) (hb : bq < B) (hn : n < L.length) (hL : L.length ≤ 1000) (hd : DownOk n L 0) :
    Calls Try.prog 38 #[.iface 47 (.pointer (some ⟨bq, 0, none⟩)), .int .i64 0, .int .i64 n] w fun e w' => (∃ b, e = .returned (.bool b)) ∧ (∃ M, QAt w' bq B sv M ∧ M.Perm L ∧ HeapN n M ∧ M.getD n 0 = L.getD n 0) ∧ Keep (fun b => sv.ownBlock = some b) w w' := by
  have HQ := Lib.hid h; have HD := Lib.hid hd
  clear h hd
  go_enter Try.func38, Try.ntmps38
  go_wp2
  go_loopw [7] (fun i' wr => ∃ (i : Nat) (M : List Int), i' = .int .i64 i ∧ i ≤ 1000 ∧ (i = 0 ∨ i < n) ∧ M.length = L.length ∧ Hid (QAt wr bq B sv M) ∧ Hid (M.Perm L) ∧ Hid (DownOk n M i) ∧ Hid (M.getD n 0 = L.getD n 0) ∧ Keep (fun b => sv.ownBlock = some b) w wr) (fun i' _ => 2000 - (RowKit.intOf i').toNat)
  case atStart => exact ⟨0, L, rfl, by omega, .inl rfl, rfl, HQ, Lib.hid (.refl _), HD, Lib.hid rfl, Keep.refl _ _⟩
  case round =>
    obtain ⟨i, M, rfl, hi, hin, hlen, hq, hp, hdk, hl, hkeep⟩ := hrel
    have hc := hq.out.cell
    obtain ⟨a, ha⟩ : ∃ a, a = 2 * i + 1 := ⟨_, rfl⟩
    have e1 : 2 * (i : Int) + 1 = (a : Int) := by omega
    have hii : i < M.length := by omega
    have HA := Lib.hid ha
    have hai : i < a := by omega
    have hbb : 2 * i + 1 = a ∧ 2 * i + 2 = a + 1 := by omega
    clear ha
    by_cases h1 : a < n
    · have f2 : decide ((a : Int) < 0) = false := decide_eq_false (by omega)
      have f1 : decide (n ≤ a) = false := decide_eq_false (by omega)
      by_cases h2 : a + 1 < n
      · have f3 : decide (a + 1 < n) = true := decide_eq_true h2
        have f4 : decide ((a : Int) + 1 < (n : Int)) = true := decide_eq_true (by omega)
        have hless1 := less_own hq.out.own (a + 1) a (by omega) (by omega) (by omega)
        rw [cast1] at hless1
        have m1 := meth_less 213 bq sv wr hc
        by_cases t1 : M.getD (a + 1) 0 < M.getD a 0
        · rw [decide_eq_true t1] at hless1
          have L1 := Lib.hid hless1
          clear hless1
          by_cases hlt : M.getD (a + 1) 0 < M.getD i 0
          · have hless := fun w1 (y1 : Ext wr w1) => less_own (hq.out.ext y1).own (a + 1) i (by omega) (by omega) (by omega)
            simp only [cast1] at hless
            simp only [decide_eq_true hlt] at hless
            have hsw := fun w1 (y1 : Ext wr w1) => swap_own (hq.out.ext y1).own i (a + 1) (by omega) (by omega) (by omega)
            simp only [cast1] at hsw
            have L3 := Lib.hid hsw
            have HS := Lib.hid (hdk.out.step (j := (a + 1)) (by omega) (by omega) (by omega) (by obtain ⟨g2, g3⟩ := hbb; rw [g2]; intro; omega) (by obtain ⟨g2, g3⟩ := hbb; rw [g3]; intro; omega) hlt)
            have L2 := Lib.hid hless
            clear hless hlt hsw
            have tok1 : True := trivial
            go_wp2_with (first | (go_at_call 85; have tk := tok1; refine L1.out.mono ?_; rintro e w1 ⟨rfl, x1⟩; have m2 := meth_less 213 bq sv w1 (x1.cell hc); clear tok1 m1) | (go_at_call 85; refine (L2.out _ x1).mono ?_; rintro e w2 ⟨rfl, x2⟩; have m3 := meth_swap 213 bq sv w2 ((x1.trans x2).cell hc)) | (go_at_call 89; refine (L3.out _ (x1.trans x2)).mono ?_; rintro e w3 ⟨rfl, ho3, k3⟩))
            go_roundw
            case rel => exact ⟨(a + 1), swp M i (a + 1), rfl, by omega, .inr (by omega), by rw [swp_len]; exact hlen, Lib.hid ((hq.out.ext (x1.trans x2)).keep hb k3 ho3 (swp_len M i (a + 1))), Lib.hid ((swp_perm (by omega) (by omega)).trans hp.out), HS, Lib.hid (by rw [swp_at (by omega) (by omega), if_neg (by omega), if_neg (by omega)]; exact hl.out), (hkeep.ext (x1.trans x2)).trans k3⟩
            case measure => simp [RowKit.intOf]; omega
          · have hless := fun w1 (y1 : Ext wr w1) => less_own (hq.out.ext y1).own (a + 1) i (by omega) (by omega) (by omega)
            simp only [cast1] at hless
            rw [decide_eq_false hlt] at hless
            have HS := Lib.hid (hdk.out.done (by obtain ⟨g2, g3⟩ := hbb; rw [g2]; intro; omega) (by obtain ⟨g2, g3⟩ := hbb; rw [g3]; intro; omega))
            have L2 := Lib.hid hless
            clear hless hlt
            have tok1 : True := trivial
            go_wp2_with (first | (go_at_call 85; have tk := tok1; refine L1.out.mono ?_; rintro e w1 ⟨rfl, x1⟩; have m2 := meth_less 213 bq sv w1 (x1.cell hc); clear tok1 m1) | (go_at_call 85; refine (L2.out _ x1).mono ?_; rintro e w2 ⟨rfl, x2⟩))
            go_ret
            exact ⟨⟨_, rfl⟩, ⟨M, hq.out.ext (x1.trans x2), hp.out, HS.out, hl.out⟩, hkeep.ext (x1.trans x2)⟩
        · rw [decide_eq_false t1] at hless1
          have L1 := Lib.hid hless1
          clear hless1
          by_cases hlt : M.getD a 0 < M.getD i 0
          · have hless := fun w1 (y1 : Ext wr w1) => less_own (hq.out.ext y1).own a i (by omega) (by omega) (by omega)
            rw [decide_eq_true hlt] at hless
            have hsw := fun w1 (y1 : Ext wr w1) => swap_own (hq.out.ext y1).own i a (by omega) (by omega) (by omega)
            have L3 := Lib.hid hsw
            have HS := Lib.hid (hdk.out.step (j := a) (by omega) (by omega) (by omega) (by obtain ⟨g2, g3⟩ := hbb; rw [g2]; intro; omega) (by obtain ⟨g2, g3⟩ := hbb; rw [g3]; intro; omega) hlt)
            have L2 := Lib.hid hless
            clear hless hlt hsw
            have tok1 : True := trivial
            go_wp2_with (first | (go_at_call 85; have tk := tok1; refine L1.out.mono ?_; rintro e w1 ⟨rfl, x1⟩; have m2 := meth_less 213 bq sv w1 (x1.cell hc); clear tok1 m1) | (go_at_call 85; refine (L2.out _ x1).mono ?_; rintro e w2 ⟨rfl, x2⟩; have m3 := meth_swap 213 bq sv w2 ((x1.trans x2).cell hc)) | (go_at_call 89; refine (L3.out _ (x1.trans x2)).mono ?_; rintro e w3 ⟨rfl, ho3, k3⟩))
            go_roundw
            case rel => exact ⟨a, swp M i a, rfl, by omega, .inr (by omega), by rw [swp_len]; exact hlen, Lib.hid ((hq.out.ext (x1.trans x2)).keep hb k3 ho3 (swp_len M i a)), Lib.hid ((swp_perm (by omega) (by omega)).trans hp.out), HS, Lib.hid (by rw [swp_at (by omega) (by omega), if_neg (by omega), if_neg (by omega)]; exact hl.out), (hkeep.ext (x1.trans x2)).trans k3⟩
            case measure => simp [RowKit.intOf]; omega
          · have hless := fun w1 (y1 : Ext wr w1) => less_own (hq.out.ext y1).own a i (by omega) (by omega) (by omega)
            rw [decide_eq_false hlt] at hless
            have HS := Lib.hid (hdk.out.done (by obtain ⟨g2, g3⟩ := hbb; rw [g2]; intro; omega) (by obtain ⟨g2, g3⟩ := hbb; rw [g3]; intro; omega))
            have L2 := Lib.hid hless
            clear hless hlt
            have tok1 : True := trivial
            go_wp2_with (first | (go_at_call 85; have tk := tok1; refine L1.out.mono ?_; rintro e w1 ⟨rfl, x1⟩; have m2 := meth_less 213 bq sv w1 (x1.cell hc); clear tok1 m1) | (go_at_call 85; refine (L2.out _ x1).mono ?_; rintro e w2 ⟨rfl, x2⟩))
            go_ret
            exact ⟨⟨_, rfl⟩, ⟨M, hq.out.ext (x1.trans x2), hp.out, HS.out, hl.out⟩, hkeep.ext (x1.trans x2)⟩
      · have f3 : decide (a + 1 < n) = false := decide_eq_false h2
        have f4 : decide ((a : Int) + 1 < (n : Int)) = false := decide_eq_false (by omega)
        by_cases hlt : M.getD a 0 < M.getD i 0
        · have hless := fun w1 (y1 : Ext wr w1) => less_own (hq.out.ext y1).own a i (by omega) (by omega) (by omega)
          rw [decide_eq_true hlt] at hless
          have hsw := fun w1 (y1 : Ext wr w1) => swap_own (hq.out.ext y1).own i a (by omega) (by omega) (by omega)
          have L3 := Lib.hid hsw
          have HS := Lib.hid (hdk.out.step (j := a) (by omega) (by omega) (by omega) (by obtain ⟨g2, g3⟩ := hbb; rw [g2]; intro; omega) (by obtain ⟨g2, g3⟩ := hbb; rw [g3]; intro; omega) hlt)
          have L2 := Lib.hid hless
          clear hless hlt hsw
          have m2 := meth_less 213 bq sv wr hc
          go_wp2_with (first | (go_at_call 85; refine (L2.out _ (Ext.refl _)).mono ?_; rintro e w2 ⟨rfl, x2⟩; have m3 := meth_swap 213 bq sv w2 (x2.cell hc)) | (go_at_call 89; refine (L3.out _ x2).mono ?_; rintro e w3 ⟨rfl, ho3, k3⟩))
          go_roundw
          case rel => exact ⟨a, swp M i a, rfl, by omega, .inr (by omega), by rw [swp_len]; exact hlen, Lib.hid ((hq.out.ext x2).keep hb k3 ho3 (swp_len M i a)), Lib.hid ((swp_perm (by omega) (by omega)).trans hp.out), HS, Lib.hid (by rw [swp_at (by omega) (by omega), if_neg (by omega), if_neg (by omega)]; exact hl.out), (hkeep.ext x2).trans k3⟩
          case measure => simp [RowKit.intOf]; omega
        · have hless := fun w1 (y1 : Ext wr w1) => less_own (hq.out.ext y1).own a i (by omega) (by omega) (by omega)
          rw [decide_eq_false hlt] at hless
          have HS := Lib.hid (hdk.out.done (by obtain ⟨g2, g3⟩ := hbb; rw [g2]; intro; omega) (by obtain ⟨g2, g3⟩ := hbb; rw [g3]; intro; omega))
          have L2 := Lib.hid hless
          clear hless hlt
          have m2 := meth_less 213 bq sv wr hc
          go_wp2_with (first | (go_at_call 85; refine (L2.out _ (Ext.refl _)).mono ?_; rintro e w2 ⟨rfl, x2⟩))
          go_ret
          exact ⟨⟨_, rfl⟩, ⟨M, hq.out.ext x2, hp.out, HS.out, hl.out⟩, hkeep.ext x2⟩
    · have HS := Lib.hid (hdk.out.done (n := n) (by omega) (by omega))
      have f1 : decide (n ≤ a) = true := decide_eq_true (by omega)
      go_wp2
      go_ret
      exact ⟨⟨_, rfl⟩, ⟨M, hq.out, hp.out, HS.out, hl.out⟩, hkeep⟩
end Go.Proofs.Ytjjcjoedgmfalaa.Tp

/- container/heap.Push and Pop at the queue. -/
namespace Go.Proofs.Ytjjcjoedgmfalaa.Tp
open Go.RowKit Go.Sort Go.Lib Fx

theorem info_q : (Try.prog.info? 3).map (fun i => (i.zero, i.size, i.bytes)) = some (some (.int .i64 0), 1, 8) := by kernel_rfl
theorem grown_of_ext2 {a b c : World} {row : Option Nat} (x : Ext a b) (h : b.grownBy c row) : a.grownBy c row :=
  ⟨h.os.trans x.os, h.tape.trans x.tape, h.output.trans x.output, Nat.le_trans x.size h.size, fun k hk hr => (h.block k (Nat.lt_of_lt_of_le hk x.size) hr).trans (x.block k hk)⟩
theorem new1d (w : World) (C : Obj) : (w.alloc C).drew.heap[w.heap.size]? = some C := heap_alloc_new w C
theorem qpush_fin {w w2 : World} {bq B g cap : Nat} {x : Int} {sv : Value} {L : List Int} (h : QAt w bq B sv L) (hb : bq < B) (hlt : bq < w.heap.size) (h1 : w2.ownsRow B 3 1 (.slice (some ⟨g, 0, none⟩) (L.length + 1) cap) (L.length + 1) (iv L ++ [.int .i64 x])) (hg : w.grownBy w2 sv.ownBlock) (_ : sv.ownBlock = some g ∨ w.heap.size ≤ g) :
    QAt (w2.setCell ⟨bq, 0, none⟩ (.slice (some ⟨g, 0, none⟩) (L.length + 1) cap)) bq B (.slice (some ⟨g, 0, none⟩) (L.length + 1) cap) (L ++ [x]) := by
  have hne : some bq ≠ sv.ownBlock := fun e => by have := (h.own.lt bq e.symm).1; omega
  have h2 := heap_grown h.q hg hne
  refine ⟨?_, ?_⟩
  · have := heap_set h2 0 (.slice (some ⟨g, 0, none⟩) (L.length + 1) cap)
    rw [this]; rfl
  · have := own_set h1 0 (.slice (some ⟨g, 0, none⟩) (L.length + 1) cap) hb
    rw [iv_app, List.length_append]; exact this
set_option maxHeartbeats 4000000 in
set_option maxRecDepth 100000 in
theorem qpush_any (bq B : Nat) (x : Int) (sv : Value) (L : List Int) (w : World) (h : QAt w bq B sv L) (hb : bq < B) (hB : B ≤ w.heap.size) (hL : L.length ≤ 1000) :
    Calls Try.prog 87 #[.pointer (some ⟨bq, 0, none⟩), .iface 3 (.int .i64 x)] w fun e w' => e = .returned (.tuple #[]) ∧ ∃ sv', QAt w' bq B sv' (L ++ [x]) ∧ Keep (fun b => b = bq ∨ sv.ownBlock = some b) w w' ∧ (sv'.ownBlock = sv.ownBlock ∨ ∃ g, sv'.ownBlock = some g ∧ w.heap.size ≤ g) := by
  obtain ⟨i0, hi, hz0, hz1, hz2⟩ := info_parts info_int
  have hc := h.cell
  have hc2 : ∀ o, (w.alloc o).cell? ⟨bq, 0, none⟩ = some sv := fun o => ((Ext.refl w).alloc o).cell hc
  have hne : sv.ownBlock ≠ some bq := fun e => by have := (h.own.lt bq e).1; omega
  have hfz := Lib.frozen_of_heap h.q 0
  have hlt : bq < w.heap.size := (Array.getElem?_eq_some_iff.1 h.q).1
  have HQ := Lib.hid h; have HNE := Lib.hid hne; have HFZ := Lib.hid hfz; have HC := Lib.hid hc
  have HC2 := Lib.hid hc2
  have hta : ∀ w : World, (Instr.typeAssert (.iface 3 (.int .i64 x)) 20 3 false).run Try.prog w = .ok (.int .i64 x) w := fun _ => by kernel_rfl
  clear h hne hfz
  go_enter Try.func87, Try.ntmps87
  go_wp2_with fail
  go_region_law (refine step_append_lies _ (by rfl) _ _ 48 (by rfl) B 3 i0 _ 1 8 Try.underlying48 hi hz0 hz1 hz2 rfl (by decide) _ _ _ (by rfl) (own_ext' HQ.out.own (((Ext.refl w).alloc _).drew)) ⟨w.heap.size, 0, none⟩ 1 1 [.int .i64 x] (by rfl) (by rfl) (World.news_of_block (cs := #[.int .i64 x]) (t := 3) (fr := (0, 0)) (new1d w _)) (by simp [Value.oneCell']) (by omega) (by unfold maxLen; omega) (by omega) (by simp; omega) _ rfl ?_; intro gg cp w2 hown1 hgrow hat2 hlt2; have hgw := grown_of_ext2 (((Ext.refl w).alloc _).drew) hgrow; have s4 : w2.cell? ⟨bq, 0, none⟩ = some sv := hgrow.cell (HC2.out _) (fun e => HNE.out e.symm); have s3 : w2.frozen? ⟨bq, 0, none⟩ = false := (World.frozen?_of_block (w := w) (hgw.block bq hlt (fun e => HNE.out e.symm))).trans HFZ.out; have hge : sv.ownBlock = some gg ∨ w.heap.size ≤ gg := hat2.elim .inl (fun h => .inr (by rw [h]; simp)); clear hgrow hat2 hlt2)
  all_goals (try go_wp2)
  all_goals go_end0
  all_goals exact ⟨rfl, .slice (some ⟨gg, 0, none⟩) (L.length + 1) cp, qpush_fin HQ.out hb hlt hown1 hgw hge, ((Keep.of (Ext.refl w)).grown hgw (fun k hk _ => .inr hk)).setCell _ _ (.inl (.inl rfl)), hge.elim (fun e => .inl e.symm) (fun e => .inr ⟨gg, rfl, e⟩)⟩
set_option maxHeartbeats 4000000 in
set_option maxRecDepth 100000 in
theorem qpop_any (bq B : Nat) (sv : Value) (L : List Int) (w : World) (h : QAt w bq B sv L) (hb : bq < B) (h0 : 0 < L.length) (hL : L.length ≤ 1000) :
    Calls Try.prog 86 #[.pointer (some ⟨bq, 0, none⟩)] w fun e w' => e = .returned (.iface 3 (.int .i64 (L.getD (L.length - 1) 0))) ∧ ∃ sv', QAt w' bq B sv' (L.take (L.length - 1)) ∧ Keep (fun b => b = bq) w w' ∧ sv'.ownBlock = sv.ownBlock := by
  have hc := h.cell
  obtain ⟨g, c, rfl, hg, hgB, hcs⟩ := own_cells h.own h0
  have hfz := Lib.frozen_of_heap h.q 0
  obtain ⟨n, hn⟩ : ∃ n, L.length = n + 1 := ⟨L.length - 1, by omega⟩
  have d0 := (hcs n (by omega)).1
  rw [Nat.zero_add] at d0
  rw [hn] at hc ⊢
  have hcap : n + 1 ≤ c := by
    rcases h.own.2 with ⟨h1, _⟩ | ⟨g', cap, cur, h1, _, _, h3, _⟩
    · cases h1
    · injection h1 with _ _ h5; omega
  have hcm : c ≤ maxLen := by
    rcases h.own.2 with ⟨h1, _⟩ | ⟨g', cap, cur, h1, _, _, _, h3, _⟩
    · cases h1
    · injection h1 with _ _ h5; omega
  rw [show n + 1 - 1 = n from rfl]
  obtain ⟨y, hy⟩ : ∃ y, y = L.getD n 0 := ⟨_, rfl⟩
  rw [← hy] at d0 ⊢
  have hnb : n ≤ 1000 := by omega
  have hcn : n ≤ c := by omega
  have hcm2 : c ≤ 9223372036854775807 := by unfold maxLen at hcm; omega
  have HQ := Lib.hid h; have HN := Lib.hid hn
  clear h hcs hy hn hcm
  go_enter Try.func86, Try.ntmps86
  go_wp2
  go_ret
  refine ⟨rfl, .slice (some ⟨g, 0, none⟩) n c, ⟨?_, ?_⟩, (Keep.refl _ w).setCell _ _ (.inl rfl), rfl⟩
  · have := heap_set HQ.out.q 0 (.slice (some ⟨g, 0, none⟩) n c)
    rw [this]; rfl
  · have ho := HQ.out.own
    rw [HN.out] at ho
    have hl : (L.take n).length = n := by rw [List.length_take, HN.out]; omega
    rw [hl]
    refine own_set (B' := bq) ?_ 0 _ hb
    refine ⟨by rw [iv_len, hl, Nat.mul_one], ?_⟩
    rcases ho.2 with ⟨h1, _⟩ | ⟨g', cap, cur, h1, h2, h3, h4, h5, h6, h7⟩
    · cases h1
    · injection h1 with e1 e2 e3
      injection e1 with e1
      injection e1 with e1
      subst e1; subst e3
      refine .inr ⟨g, c, cur, rfl, h2, h3, by omega, h5, h6, ?_⟩
      have := congrArg (List.take n) h7
      rw [List.take_take, Nat.mul_one, Nat.min_eq_left (by omega)] at this
      rw [Nat.mul_one, this]; unfold iv; rw [List.map_take]
end Go.Proofs.Ytjjcjoedgmfalaa.Tp
