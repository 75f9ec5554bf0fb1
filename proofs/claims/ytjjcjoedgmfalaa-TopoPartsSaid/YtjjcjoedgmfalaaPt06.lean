/- Packed texts: TopVisit, TopSFn -/
import Derived.Test.YtjjcjoedgmfalaaPt05
import Derived.Deep.RegionLaw
import Derived.StillTailTactics
import Derived.BigQuiet
set_option linter.unusedVariables false
set_option linter.unusedSimpArgs false
/- What visit leaves: the walk's state behind it. -/
namespace Go.Proofs.Ytjjcjoedgmfalaa.Tp
open Go.RowKit Go.Sort Go.Lib Fx

theorem new_cellsd (w : World) (l : List Value) (T : TypeId) (n : Nat) (hn : w.heap.size = n) : ∀ j u, l[j]? = some u → (w.alloc (.cells l.toArray T)).drew.cell? ((⟨n, 0, none⟩ : Addr).add j) = some u := by
  intro j u hu
  have h : (w.alloc (.cells l.toArray T)).drew.heap[w.heap.size]? = some (.cells l.toArray T) := heap_alloc_new w _
  rw [add_at, ← hn, Lib.cell_of_heap h]
  simpa using hu
theorem Inv.stkl {N : Nat} {A : Arcs} {g : List Nat} {s : St} (h : Inv N A g s) : s.stk.length ≤ N := nodup_len h.nodup h.lt
theorem Wlk.cell4 {w0 w4 w : World} {N bw nb bi bl bo B : Nat} {sv fv : Value} {s : St} (h : Wlk w0 w4 N bw nb bi bl bo B w sv fv s) {p : Addr} {x : Value} (hc : w4.cell? p = some x) (hb : nb ≤ p.block) : w.cell? p = some x := by
  refine h.K.cell hc (fun e => ?_)
  have h4 : p.block < w4.heap.size := World.block_lt_of_cell? _ _ hc
  rcases e with e | e <;> omega
theorem Wlk.int4 {w0 w4 w : World} {N bw nb bi bl bo B : Nat} {sv fv : Value} {s : St} (h : Wlk w0 w4 N bw nb bi bl bo B w sv fv s) {a : Option Addr} {L : List Int} (hi : IntIn w4 a L) (hb : ∀ g o, a = some ⟨g, o, none⟩ → nb < g) : IntIn w a L := fun j hj => by
  obtain ⟨g, o, ha, hc⟩ := hi j hj
  exact ⟨g, o, ha, h.cell4 hc (Nat.le_of_lt (hb g o ha))⟩
theorem LoopP.pre {N : Nat} {A : Arcs} {g B : List Nat} {v : Nat} {us : List Nat} {s0 s1 : St} (L : LoopP N A g B v us s0 s1) {u : Nat} (hvu : (v, u) ∈ A) (hg : ∀ x ∈ g, x ∈ B) : ∀ y ∈ s1.stk, Path A y u := by
  obtain ⟨P, hs1, hP⟩ := L.stk
  have hvs : v ∈ s1.stk := by rw [hs1]; simp
  have hasc := L.inv.asc
  rw [hs1] at hasc
  have hasc' := List.pairwise_append.1 hasc
  have hgv : ∀ x ∈ v :: g, ix s1 x ≤ ix s1 v := fun x hx => by
    rcases List.mem_cons.1 hx with rfl | hx
    · exact Nat.le_refl _
    · exact Nat.le_of_lt (hasc'.2.2 x (hg x hx) v (List.mem_cons_self ..))
  intro y hy
  obtain ⟨x, hx, h1, h2⟩ := L.inv.back y hy
  exact .step (h2.trans (L.inv.fwd x (L.inv.gr x hx) v hvs (hgv x hx))) hvu
theorem fin_cnt (u : Nat) (s : St) : (fin u s).cnt = s.cnt := by unfold fin; split <;> rfl
theorem cast_min (a b : Nat) : ((min a b : Nat) : Int) = min (a : Int) (b : Int) := by omega
theorem sl_cap {w : World} {B n m c : Nat} {a : Option Addr} {e : TypeId} {xs : List Value} (h : w.ownsRow B e 1 (.slice a m c) n xs) : m ≤ c ∧ c ≤ maxLen := by
  rcases h.2 with ⟨h1, _⟩ | ⟨g', cap, cur, h1, _, _, h3, h4, _⟩
  · cases h1; exact ⟨Nat.le_refl _, Nat.zero_le _⟩
  · injection h1 with _ e2 e3
    subst e2; subst e3; exact ⟨h3, h4⟩
theorem idx_app (l m : List Nat) (v : Nat) (h : v ∉ l) : Lib.idxOf (zl (l ++ v :: m)) v = (l.length : Int) := by
  unfold Lib.idxOf
  have := Lib.idxFrom_hit (v : Int) (zl (l ++ v :: m)) l.length 0 (by rw [zl_len]; simp) (by rw [zl_getD]; simp) (fun j hj e => by
    rw [zl_getD] at e
    have e2 : (l ++ v :: m).getD j 0 = v := by omega
    rw [List.getD_eq_getElem?_getD, List.getElem?_append_left hj, List.getElem?_eq_getElem hj] at e2
    exact h (by rw [← e2]; exact List.getElem_mem hj))
  rw [this]; simp
theorem own_trunc {w : World} {B n m c k : Nat} {a : Addr} {e : TypeId} {xs : List Value} (h : w.ownsRow B e 1 (.slice (some a) m c) n xs) (hk : k ≤ n) : w.ownsRow B e 1 (.slice (some a) k c) k (xs.take k) := by
  have hl := h.1
  refine ⟨by rw [List.length_take]; omega, ?_⟩
  rcases h.2 with ⟨h1, _⟩ | ⟨g, cap, cur, h1, h2, h3, h4, h5, h6, h7⟩
  · cases h1
  · injection h1 with e1 e2 e3
    injection e1 with e1
    subst e1; subst e3
    refine .inr ⟨g, c, cur, rfl, h2, h3, by omega, h5, h6, ?_⟩
    rw [← h7, List.take_take, Nat.mul_one, Nat.mul_one, Nat.min_eq_left hk]
theorem grown_refl (w : World) (row : Option Nat) : w.grownBy w row := ⟨rfl, rfl, rfl, Nat.le_refl _, fun _ _ _ => rfl⟩
theorem off_take (l : List Nat) (o : List Bool) (k : Nat) (h : k < l.length) : off (l.take (k + 1)) o = (off (l.take k) o).set l[k] false := by
  unfold off
  rw [List.take_succ_eq_append_getElem h, List.foldl_append]; rfl
theorem Inv.fndl {N : Nat} {A : Arcs} {g : List Nat} {s : St} (h : Inv N A g s) : s.found.length ≤ N := by
  have hn : (s.found.map (fun c => c.getD 0 0)).Nodup := by
    refine List.pairwise_map.2 (List.Pairwise.imp_of_mem (fun {a b} ha hb hd e => ?_) h.dis)
    have key : ∀ c ∈ s.found, c.getD 0 0 ∈ c := fun c hc => by
      obtain ⟨_, r, hr⟩ := h.scc c hc
      refine head_mem (fun e => ?_)
      have := (hr r).2 ⟨.refl _, .refl _⟩
      rw [e] at this; cases this
    have h1 := key a ha
    have h2 := key b hb
    rw [← e] at h2
    exact hd _ h1 h2
  have := nodup_len (N := N) hn (fun x hx => by
    obtain ⟨c, hc, rfl⟩ := List.mem_map.1 hx
    obtain ⟨_, r, hr⟩ := h.scc c hc
    refine (h.fnd c hc _ (head_mem (fun e => ?_))).1
    have := (hr r).2 ⟨.refl _, .refl _⟩
    rw [e] at this; cases this)
  rw [List.length_map] at this; exact this
theorem size_x (w : World) (p q : Addr) (u v : Value) (o : Obj) : ((((w.setCell p u).setCell q v).alloc o).drew).heap.size = w.heap.size + 1 := by
  show (((w.setCell p u).setCell q v).alloc o).heap.size = _
  rw [World.size_alloc, size_set, size_set]
set_option maxHeartbeats 16000000 in
set_option maxRecDepth 100000 in
theorem visit_step (w0 w4 : World) (N bw nb bi bl bo B : Nat) (A : Arcs) (lie : WLie w0 w4 N A bw nb bi bl bo B) (hN : N ≤ 64) (hA : A.length ≤ 256) (ok : Ok N A) (n : Nat)
    (ih : ∀ (w : World) (sv fv : Value) (s : St) (g : List Nat) (v : Nat), s.idx.count 0 ≤ n → Wlk w0 w4 N bw nb bi bl bo B w sv fv s → Inv N A g s → v < N → ix s v = 0 → (∀ y ∈ s.stk, Path A y v) →
      Calls Try.prog 25 #[.pointer (some ⟨bw, 0, none⟩), .int .i64 v, .int .i64 s.cnt] w fun e w' => ∃ s2 sv' fv', e = .returned (.int .i64 s2.cnt) ∧ Loop A v (outs A v) (push v s) s2 ∧ Wlk w0 w4 N bw nb bi bl bo B w' sv' fv' (fin v s2))
    (w : World) (sv fv : Value) (s : St) (g : List Nat) (v : Nat) (hcn : s.idx.count 0 ≤ n + 1) (hw : Wlk w0 w4 N bw nb bi bl bo B w sv fv s) (hi : Inv N A g s) (hv : v < N) (hz : ix s v = 0) (hp : ∀ y ∈ s.stk, Path A y v) :
      Calls Try.prog 25 #[.pointer (some ⟨bw, 0, none⟩), .int .i64 v, .int .i64 s.cnt] w fun e w' => ∃ s2 sv' fv', e = .returned (.int .i64 s2.cnt) ∧ Loop A v (outs A v) (push v s) s2 ∧ Wlk w0 w4 N bw nb bi bl bo B w' sv' fv' (fin v s2) := by
  obtain ⟨i0, hi0, hz0, hz1, hz2⟩ := info_parts info_int
  have LIE := Lib.hid lie; have IH := Lib.hid ih; have HOK := Lib.hid ok
  have hnum := hi.num
  have hcnt : s.cnt ≤ 64 := by omega
  have hW1 := hw.setI lie v (s.cnt + 1)
  have hW2 := hW1.setL lie v (s.cnt + 1)
  have hW3 := hW2
  obtain ⟨c0, c1, c2, c3, c4, c5⟩ := hw.cells
  have i1 := hw.I.cellD (j := v) (by rw [zl_len, hi.li]; exact hv)
  have l1 := hw.L.cellD (j := v) (by rw [zl_len, hi.ll]; exact hv)
  have l2 := hW1.L.cellD (j := v) (by rw [zl_len]; show v < s.low.length; rw [hi.ll]; exact hv)
  have f1 := hw.I.frozen v
  have f2 := hw.L.frozen v
  have f3 := hW1.L.frozen v
  have e1 : ((s.cnt + 1 : Nat) : Int) = (s.cnt : Int) + 1 := by omega
  rw [e1] at hW1 hW2 l2 f3
  have d := hW2.cells
  obtain ⟨d0, d1, d2, d3, d4, d5⟩ := d
  have HW := Lib.hid hw; have HW2 := Lib.hid hW2; have HI := Lib.hid hi; have HP := Lib.hid hp
  clear lie ih ok hw hW1 hW2 hW3 hi hp
  go_enter Try.func25, Try.ntmps25
  go_wp2_with fail
  go_region
  go_wp2_with (at_builtin; refine wpList_append_lies _ rfl _ _ 26 rfl B 3 i0 _ 1 8 Try.underlying26 hi0 hz0 hz1 hz2 rfl (by decide) _ _ _ rfl ((own_ext' HW2.out.S ((Ext.refl _).drew)).alloc _) ⟨w.heap.size, 0, none⟩ 1 1 [.int .i64 v] rfl rfl ?c1 ?c2 (by decide) ?c3 ?c4 ?c5 _ rfl ?_)
  case c1 => exact new_cellsd _ [_] _ _ (by simp [World.setCell])
  case c2 => simp [Value.oneCell']
  case c3 => unfold maxLen; have := HI.out.stkl; omega
  case c4 => have := HI.out.stkl; omega
  case c5 => have := HW2.out.Z; rw [size_x]; rw [size_set, size_set] at this; omega
  intro gg cc w3 hown3 hgrow3 hat3 _
  have W4 := Wlk.stk (k := s.stk ++ [v]) (n := s.stk.length + 1) (HW2.out.ext (((Ext.refl _).alloc (.cells #[.int .i64 (v : Int)] 3)).drew)) LIE.out (by simp) (by rw [zl_app, iv_app]; exact hown3) hgrow3 (hat3.elim .inl (fun e => .inr (by rw [e, size_x]; exact Nat.le_refl _)))
  have s4 : w3.cell? ⟨bw, 4, none⟩ = some sv := by
    have hb := heap_grown (HW2.out.ext (((Ext.refl _).alloc (.cells #[.int .i64 (v : Int)] 3)).drew)).W hgrow3 (fun e => by have := (HW2.out.S.lt bw e.symm).1; have := LIE.out.lw; omega)
    rw [Lib.cell_of_heap hb]; rfl
  have s3 : w3.frozen? ⟨bw, 4, none⟩ = false := by
    have hb := heap_grown (HW2.out.ext (((Ext.refl _).alloc (.cells #[.int .i64 (v : Int)] 3)).drew)).W hgrow3 (fun e => by have := (HW2.out.S.lt bw e.symm).1; have := LIE.out.lw; omega)
    exact Lib.frozen_of_heap hb 4
  obtain ⟨-, -, -, g3, -, -⟩ := W4.cells
  have o1 := W4.O.cellD (j := v) (by show v < s.on.length; rw [HI.out.lb]; exact hv)
  have o2 := W4.O.frozen v
  have W5 := W4.setO LIE.out v true
  obtain ⟨k0, -, -, -, -, -⟩ := W5.cells
  obtain ⟨ra, rc, k1', hrow, hrb⟩ := LIE.out.nx v hv
  have k1 := W5.cell4 k1' (Nat.le_refl _)
  have W6 : Hid (Wlk w0 w4 N bw nb bi bl bo B ((w3.setCell ⟨bw, 4, none⟩ (.slice (some ⟨gg, 0, none⟩) (s.stk.length + 1) cc)).setCell ⟨bo, v, none⟩ (.bool true)) (.slice (some ⟨gg, 0, none⟩) (s.stk.length + 1) cc) fv (push v s)) := Lib.hid ⟨W5.W, W5.I, W5.L, W5.O, W5.S, W5.F, W5.ne, W5.K, W5.X, W5.Z⟩
  clear W4 W5 hown3 hgrow3 hat3 k1'
  obtain ⟨R, hR⟩ : ∃ R, R = outs A v := ⟨_, rfl⟩
  have hol := outs_len_le A v
  have hlpl : lo (push v s) v = ix (push v s) v := by
    rw [ix_push HI.out.li hv, if_pos rfl]
    show (s.low.set v _).getD v 0 = _
    rw [getD_set, if_pos ⟨rfl, by rw [HI.out.ll]; exact hv⟩]
  rw [← hR] at hol
  obtain ⟨rn, hrn⟩ : ∃ rn, rn = R.length := ⟨_, rfl⟩
  rw [← hR] at k1 hrow
  rw [← hrn] at k1
  have HR := Lib.hid hR; have HRN := Lib.hid hrn; have HROW := Lib.hid hrow; have HRB := Lib.hid hrb
  clear hrow hrb
  have LAW : Hid (∀ k s1, Loop A v (R.take k) (push v s) s1 → LoopP N A g s.stk v (R.take k) (push v s) s1) := Lib.hid (fun k s1 hl =>
    hl.law HOK.out hN g s.stk (HI.out.push hv hz HP.out) rfl hlpl (fun x hx => by
      have := List.mem_of_mem_take hx
      rw [HR.out] at this; exact mem_outs.1 this) (fun x hx => HI.out.gr x hx))
  have hpc := push_count HI.out hv hz
  rw [← hrn] at hol
  clear hR hrn hlpl c0 c1 c2 c3 c4 c5 d0 d1 d2 d3 d4 d5 i1 l1 l2 f1 f2 f3 e1
  go_wp2
  clear s3 s4 g3 o1 o2 k0 k1
  go_loopw [2, 53] (fun c' i' wr => ∃ (k : Nat) (s1 : St) (sv1 fv1 : Value), k ≤ rn ∧ i' = .int .i64 k ∧ c' = .int .i64 s1.cnt ∧ Hid (Loop A v (R.take k) (push v s) s1) ∧ Hid (Wlk w0 w4 N bw nb bi bl bo B wr sv1 fv1 s1)) (fun _ i' _ => rn - (RowKit.intOf i').toNat)
  case atStart => exact ⟨0, push v s, _, _, Nat.zero_le _, rfl, by show _ = Value.int .i64 ((s.cnt + 1 : Nat) : Int); rfl, Lib.hid (.nil v _), W6⟩
  case round =>
    obtain ⟨k, s1, sv1, fv1, hk, rfl, rfl, hlo, hW⟩ := hrel
    have L := LAW.out k s1 hlo.out
    have I1 := L.inv
    have hcn1 : s1.cnt ≤ 64 := by have := I1.num; omega
    obtain ⟨c0, c1, c2, c3, c4, c5⟩ := hW.out.cells
    by_cases hkr : k < rn
    · have hkR : k < R.length := by rw [← HRN.out]; exact hkr
      obtain ⟨rg, ro, hra, q0⟩ := hW.out.int4 HROW.out HRB.out k (by rw [zl_len]; exact hkR)
      subst hra
      rw [zl_at _ _ hkR] at q0
      have hvu : (v, R[k]) ∈ A := mem_outs.1 (by
        have := List.getElem_mem hkR
        have e : ∀ x ∈ R, x ∈ outs A v := fun x hx => by rw [← HR.out]; exact hx
        exact e _ this)
      have huN := (HOK.out _ hvu).2
      have htk := List.take_succ_eq_append_getElem hkR
      obtain ⟨u, hu⟩ : ∃ u, u = R[k] := ⟨_, rfl⟩
      rw [← hu] at q0 hvu huN htk
      have i1 := hW.out.I.cellD (j := u) (by rw [zl_len, I1.li]; exact huN)
      rw [zl_getD, show s1.idx.getD u 0 = ix s1 u from rfl] at i1
      have HTK := Lib.hid htk
      clear hu htk
      have b0 : (0 : Int) ≤ (v : Int) := by omega
      have b1 : (v : Int) < (N : Int) := by omega
      have b2 : (0 : Int) ≤ (u : Int) := by omega
      have b3 : (u : Int) < (N : Int) := by omega
      by_cases hz1 : ix s1 u = 0
      · have hpre := L.pre hvu (fun x hx => HI.out.gr x hx)
        have hcall := IH.out wr sv1 fv1 s1 (v :: g) u (by have := hlo.out.snd; omega) hW.out I1 huN hz1 hpre
        have VL : Hid (∀ s2, Loop A u (outs A u) (push u s1) s2 → VisP N A (v :: g) s1.stk u (push u s1) (fin u s2)) := Lib.hid (fun s2 h2 => visit_law HOK.out hN I1 huN hz1 hpre h2)
        rw [hz1] at i1
        have HC := Lib.hid hcall
        have HZ1 := Lib.hid hz1
        clear hpre hcall hz1
        have f0 := (eq_facts (x := ((0 : Nat) : Int)) (k := 0) rfl).1
        go_wp2_with (go_at_call 25; refine HC.out.mono ?_; rintro e w2 ⟨s2, sv2, fv2, rfl, hl2, hW2⟩)
        have V := VL.out s2 hl2
        obtain ⟨d0, d1, d2, d3, d4, d5⟩ := hW2.cells
        have l1 := hW2.L.cellD (j := v) (by rw [zl_len, V.inv.ll]; exact hv)
        have l2 := hW2.L.cellD (j := u) (by rw [zl_len, V.inv.ll]; exact huN)
        rw [zl_getD] at l1 l2
        have f2 := hW2.L.frozen v
        have W3 : Wlk w0 w4 N bw nb bi bl bo B (w2.setCell ⟨bl, v, none⟩ (.int .i64 ((min (lo (fin u s2) v) (lo (fin u s2) u) : Nat) : Int))) sv2 fv2 (lowTo v (lo (fin u s2) u) (fin u s2)) := hW2.setL LIE.out v (min (lo (fin u s2) v) (lo (fin u s2) u))
        rw [cast_min] at W3
        rw [show (fin u s2).low.getD v 0 = lo (fin u s2) v from rfl] at l1
        rw [show (fin u s2).low.getD u 0 = lo (fin u s2) u from rfl] at l2
        have HL2 := Lib.hid hl2; have HW2 := Lib.hid hW2; have HW3 := Lib.hid W3
        clear hl2 hW2 W3 V
        go_still_tail 21, (by kernel_rfl)
        go_wp2
        go_roundw
        case rel => exact ⟨k + 1, lowTo v (lo (fin u s2) u) (fin u s2), sv2, fv2, by omega, by go_num, by rw [show (lowTo v (lo (fin u s2) u) (fin u s2)).cnt = s2.cnt from fin_cnt u s2], Lib.hid (by rw [HTK.out]; exact .new hlo.out HZ1.out HL2.out), Lib.hid (HW3.out.ext ((Ext.refl _).drew))⟩
        case measure => simp [RowKit.intOf]; omega
      · have f0 := (neq_facts (x := ((ix s1 u : Nat) : Int)) (k := 0) (by omega)).1
        have o1 := hW.out.O.cellD (j := u) (by rw [I1.lb]; exact huN)
        rw [show s1.on.getD u false = onS s1 u from rfl] at o1
        have HZ1 := Lib.hid hz1
        clear hz1
        by_cases hon : onS s1 u = true
        · rw [hon] at o1
          have l1 := hW.out.L.cellD (j := v) (by rw [zl_len, I1.ll]; exact hv)
          rw [zl_getD, show s1.low.getD v 0 = lo s1 v from rfl] at l1
          have f2 := hW.out.L.frozen v
          have W3 : Wlk w0 w4 N bw nb bi bl bo B (wr.setCell ⟨bl, v, none⟩ (.int .i64 ((min (lo s1 v) (ix s1 u) : Nat) : Int))) sv1 fv1 (lowTo v (ix s1 u) s1) := hW.out.setL LIE.out v (min (lo s1 v) (ix s1 u))
          rw [cast_min] at W3
          have HON := Lib.hid hon; have HW3 := Lib.hid W3
          clear hon W3
          go_wp2_with fail
          go_still_tail 21, (by kernel_rfl)
          go_wp2
          go_roundw
          case rel => exact ⟨k + 1, seeOld v u s1, sv1, fv1, by omega, by go_num, by rw [show (seeOld v u s1).cnt = s1.cnt by unfold seeOld; split <;> rfl], Lib.hid (by rw [HTK.out]; exact .old hlo.out HZ1.out), Lib.hid (by
            unfold seeOld; rw [if_pos HON.out]; exact HW3.out.ext ((Ext.refl _).drew))⟩
          case measure => simp [RowKit.intOf]; omega
        · have hof : onS s1 u = false := by simpa using hon
          rw [hof] at o1
          have HON := Lib.hid hon
          clear hon hof
          go_wp2
          go_roundw
          case rel => exact ⟨k + 1, seeOld v u s1, sv1, fv1, by omega, by go_num, by rw [show (seeOld v u s1).cnt = s1.cnt by unfold seeOld; split <;> rfl], Lib.hid (by rw [HTK.out]; exact .old hlo.out HZ1.out), Lib.hid (by
            unfold seeOld; rw [if_neg HON.out]; exact hW.out)⟩
          case measure => simp [RowKit.intOf]; omega
    · have hkn : k = R.length := by have := HRN.out; omega
      rw [hkn, List.take_length] at L hlo
      rw [HR.out] at L hlo
      clear hkn LAW
      obtain ⟨P, hs1, -⟩ := L.stk
      have l1 := hW.out.L.cellD (j := v) (by rw [zl_len, I1.ll]; exact hv)
      rw [zl_getD, show s1.low.getD v 0 = lo s1 v from rfl] at l1
      have i1 := hW.out.I.cellD (j := v) (by rw [zl_len, I1.li]; exact hv)
      rw [zl_getD, show s1.idx.getD v 0 = ix s1 v from rfl] at i1
      have b0 : (0 : Int) ≤ (v : Int) := by omega
      have b1 : (v : Int) < (N : Int) := by omega
      have LL := Lib.hid L
      clear L
      by_cases heq : lo s1 v = ix s1 v
      · have hidx : s1.stk.idxOf v = s.stk.length := by
          rw [hs1]
          refine idxOf_app (fun hm => ?_)
          have hnd := I1.nodup
          rw [hs1] at hnd
          exact (List.nodup_append.1 hnd).2.2 v hm v (List.mem_cons_self ..) rfl
        have hfin : fin v s1 = { s1 with stk := s1.stk.take s.stk.length, on := off (s1.stk.drop s.stk.length) s1.on, found := s1.found ++ [ascN (s1.stk.drop s.stk.length)] } := by
          unfold fin; rw [if_pos heq, hidx]
        have hdrop : s1.stk.drop s.stk.length = v :: P := by rw [hs1]; exact List.drop_left
        have htake : s1.stk.take s.stk.length = s.stk := by rw [hs1]; exact List.take_left
        rw [hdrop, htake] at hfin
        have hne : zl s1.stk ≠ [] := by rw [hs1]; unfold zl; simp
        obtain ⟨sg, sc, rfl, hgB, hglt, hH⟩ := own_holds hW.out.S hne
        have hscc := sl_cap hW.out.S
        have hidx2 := idx_app s.stk P v (fun hm => by
          have hnd := I1.nodup
          rw [hs1] at hnd
          exact (List.nodup_append.1 hnd).2.2 v hm v (List.mem_cons_self ..) rfl)
        rw [← hs1] at hidx2
        have hsix := fun w1 (x1 : Ext wr w1) => Try.slices_Index_int sg 0 (zl s1.stk).length sc (zl s1.stk) v w1 (Nat.le_refl _) (by rw [zl_len]; have := I1.stkl; omega) (fun j hj => x1.cell (by
          have := (hH j (by simpa using hj)).1
          rw [this]; simp [List.getD_eq_getElem?_getD, hj]))
        rw [List.take_length, hidx2] at hsix
        have hsl := I1.stkl
        obtain ⟨tn, htn⟩ : ∃ tn, tn = s.stk.length := ⟨_, rfl⟩
        obtain ⟨pn, hpn⟩ : ∃ pn, pn = P.length + 1 := ⟨_, rfl⟩
        have hall : s1.stk.length = tn + pn := by rw [hs1, htn, hpn, List.length_append, List.length_cons]
        rw [zl_len, hall] at hsix hscc
        rw [zl_len] at c4
        rw [hall] at c4 hsl
        rw [← htn] at hsix
        have f0 := (eq_facts (x := ((lo s1 v : Nat) : Int)) (k := ((ix s1 v : Nat) : Int)) (by omega)).1
        obtain ⟨hsc1, hsc2⟩ := hscc
        have hsc3 : sc ≤ 9223372036854775807 := by unfold maxLen at hsc2; omega
        have hsc4 : tn ≤ sc := by omega
        have HSIX := Lib.hid hsix; have HFIN := Lib.hid hfin; have HH := Lib.hid hH; have HS1 := Lib.hid hs1; have HTN := Lib.hid htn; have HPN := Lib.hid hpn; have HALL := Lib.hid hall
        clear hsix hfin hH hs1 htn hpn hall hidx hidx2 hdrop htake hne hsc2 heq
        go_wp2_with fail
        go_quiet (fail)
        have hsc5 : ¬ sc = tn := by have := HPN.out; omega
        have CL := fun w1 (x1 : Ext wr w1) => Try.slices_Clone_int sg tn pn (sc - tn) (zl (v :: P)) w1 (by rw [zl_len, HPN.out]; simp) (by omega) (fun j hj => x1.cell (by
          rw [zl_len, List.length_cons, ← HPN.out] at hj
          have := (HH.out (tn + j) (by rw [List.size_toArray, zl_len, HALL.out]; omega)).1
          rw [Nat.zero_add] at this
          rw [this, zl_getD]
          have hlt : tn + j < (zl s1.stk).length := by rw [zl_len, HALL.out]; omega
          have e1 : (zl s1.stk).toArray[tn + j]! = (zl s1.stk).getD (tn + j) 0 := by simp [List.getD_eq_getElem?_getD, hlt]
          rw [e1, zl_getD, HS1.out, HTN.out]
          rw [List.getD_eq_getElem?_getD, List.getD_eq_getElem?_getD, List.getElem?_append_right (by omega), Nat.add_sub_cancel_left]))
        have htk : (zl (v :: P)).take pn = zl (v :: P) := List.take_of_length_le (by rw [zl_len, HPN.out]; simp)
        rw [htk] at CL
        replace CL := Lib.hid CL
        clear htk
        have fz := hW.out.fz 4
        go_wp2_with (first
          | (go_at_call 34; refine (HSIX.out _ (by first | exact (Ext.refl _).drew | exact (Ext.refl _).drewN _)).mono ?_; rintro e w5 ⟨rfl, rfl⟩)
          | (go_at_call 35; refine (CL.out _ ((Ext.refl _).drewN _)).mono ?_; rintro e w6 ⟨pv, rfl, hpown, -, x6⟩; have X6 : Ext wr w6 := ((Ext.refl wr).drewN _).trans x6; obtain ⟨pg, pc, rfl, hpg1, hpg2⟩ := hpown.form (by rw [HPN.out]; omega); have PO := Lib.hid hpown; have W6' := Lib.hid (hW.out.ext X6); have c46 := X6.cell c4; have fz6 := (W6'.out.fz 4); clear hpown))
        have hpgw : wr.heap.size ≤ pg := by have h1 := (Ext.refl wr).drewN nq; exact Nat.le_trans h1.size hpg1
        have hsg := hglt
        have TR := own_trunc (k := tn) W6'.out.S (by rw [HALL.out]; omega)
        have htr : (iv (zl s1.stk)).take tn = iv (zl s.stk) := by
          unfold iv zl
          rw [← List.map_take, ← List.map_take, HS1.out, HTN.out, List.take_left]
        rw [htr] at TR
        have WT := Wlk.stk (k := s.stk) (n := tn) (c := sc) (g := sg) W6'.out LIE.out HTN.out TR (grown_refl _ _) (.inl rfl)
        have hBw : B ≤ wr.heap.size := hW.out.Z
        obtain ⟨wo, hwo⟩ : ∃ wo : World, wo = wr := ⟨_, rfl⟩
        subst hwo
        have hvP : ∀ x ∈ v :: P, x < N := fun x hx => I1.lt x (by rw [HS1.out]; exact List.mem_append_right _ hx)
        have hPnd : (v :: P).Nodup := by
          have hnd := I1.nodup
          rw [HS1.out] at hnd
          exact (List.nodup_append.1 hnd).2.1
        have POI := own_ints (L := zl (v :: P)) PO.out (by rw [zl_len, HPN.out]; simp)
        obtain ⟨pa, pc', hpe, hpin, -⟩ := POI
        have WT0 : Hid (Wlk w0 w4 N bw nb bi bl bo B (w6.setCell ⟨bw, 4, none⟩ (.slice (some ⟨sg, 0, none⟩) tn sc)) (.slice (some ⟨sg, 0, none⟩) tn sc) fv1 { s1 with stk := s.stk, on := off ((v :: P).take 0) s1.on }) := Lib.hid ⟨WT.W, WT.I, WT.L, WT.O, WT.S, WT.F, WT.ne, WT.K, WT.X, WT.Z⟩
        have hpa : pa = some ⟨pg, 0, none⟩ := by injection hpe with h1; exact h1.symm
        subst hpa
        have HVP := Lib.hid hvP; have HPND := Lib.hid hPnd; have HPIN := Lib.hid hpin; have HX6 := Lib.hid X6
        have L3 := LIE.out.lw; have L4 := LIE.out.lo'
        clear TR htr WT hvP hPnd hpin hpe X6 x6
        obtain ⟨wt, hwt⟩ : ∃ wt, wt = w6.setCell ⟨bw, 4, none⟩ (.slice (some ⟨sg, 0, none⟩) tn sc) := ⟨_, rfl⟩
        rw [← hwt] at WT0
        have HWT := Lib.hid hwt
        have HPT : Hid (IntIn wt (some ⟨pg, 0, none⟩) (zl (v :: P))) := Lib.hid (fun i hi => by
          obtain ⟨q, o, ha, hc⟩ := HPIN.out i hi
          refine ⟨q, o, ha, ?_⟩
          rw [hwt]; exact (keep_set w6 bw 4 _).cell hc (by cases ha; show ¬ pg = bw; omega))
        rw [← hwt]
        clear hwt
        go_wp2
        go_loopw [158] (fun i' wq => ∃ k : Nat, k ≤ pn ∧ i' = .int .i64 k ∧ Hid (Wlk w0 w4 N bw nb bi bl bo B wq (.slice (some ⟨sg, 0, none⟩) tn sc) fv1 { s1 with stk := s.stk, on := off ((v :: P).take k) s1.on }) ∧ Hid (Keep (· = bo) wt wq)) (fun i' _ => pn - (RowKit.intOf i').toNat)
        case atStart => exact ⟨0, Nat.zero_le _, rfl, WT0, Lib.hid (Keep.refl _ _)⟩
        case round =>
          clear WT0 c0 c1 c2 c3 c4 c5 fz c46 fz6 l1 i1
          obtain ⟨k2, hk2, rfl, hWq, hKq⟩ := hrel
          by_cases hlt2 : k2 < pn
          · obtain ⟨-, -, -, c3, -, -⟩ := hWq.out.cells
            have hkP : k2 < (v :: P).length := by rw [List.length_cons, ← HPN.out]; exact hlt2
            obtain ⟨q, o, ha, q0⟩ := HPT.out k2 (by rw [zl_len]; exact hkP)
            have q1 := hKq.out.cell q0 (by cases ha; show ¬ pg = bo; omega)
            rw [zl_at _ _ hkP] at q1
            cases ha
            have huN := HVP.out _ (List.getElem_mem hkP)
            have htk := off_take (v :: P) s1.on k2 hkP
            obtain ⟨u, hu⟩ : ∃ u, u = (v :: P)[k2] := ⟨_, rfl⟩
            rw [← hu] at q1 huN htk
            have o1 := hWq.out.O.cellD (j := u) (by show u < (off _ _).length; rw [off_len, I1.lb]; exact huN)
            have o2 := hWq.out.O.frozen u
            have W8 := hWq.out.setO LIE.out u false
            have HTK := Lib.hid htk
            have W9 : Hid (Wlk w0 w4 N bw nb bi bl bo B (wr.setCell ⟨bo, u, none⟩ (.bool false)) (.slice (some ⟨sg, 0, none⟩) tn sc) fv1 { s1 with stk := s.stk, on := off ((v :: P).take (k2 + 1)) s1.on }) := Lib.hid (by
              rw [htk]; exact ⟨W8.W, W8.I, W8.L, W8.O, W8.S, W8.F, W8.ne, W8.K, W8.X, W8.Z⟩)
            have K9 : Hid (Keep (· = bo) wt (wr.setCell ⟨bo, u, none⟩ (.bool false))) := Lib.hid (hKq.out.setCell _ _ (.inl rfl))
            have q2 : wr.cell? ⟨pg, k2, none⟩ = some (.int .i64 u) := by rw [Nat.zero_add] at q1; exact q1
            clear hu htk W8 q0 q1
            go_wp2
            go_roundw
            case rel => exact ⟨k2 + 1, by omega, by go_num, W9, K9⟩
            case measure => simp [RowKit.intOf]; omega
          · have hkn : (v :: P).take k2 = v :: P := List.take_of_length_le (by rw [List.length_cons, ← HPN.out]; omega)
            rw [hkn] at hWq
            have hbase : B ≤ (World.drewN _ nq).heap.size := Nat.le_trans hBw ((Ext.refl _).drewN nq).size
            have PT := own_set PO.out 4 (.slice (some ⟨sg, 0, none⟩) tn sc) (show bw < _ by omega)
            rw [← HWT.out] at PT
            have PW := own_keep PT hKq.out (fun q hq e => by
              have h1 : pg = q := by simpa [Value.ownBlock] using hq
              have h2 : q = bo := e
              omega)
            rw [show pn = (v :: P).length by rw [HPN.out]; rfl] at PW
            obtain ⟨g', c', e', hb', hlt', hsort⟩ := sort_keep wr PW (by simp) (by rw [List.length_cons, ← HPN.out]; omega)
            injection e' with e1 e2 e3
            injection e1 with e1
            injection e1 with e1
            subst e1; subst e3
            rw [show (v :: P).length = pn by rw [HPN.out]; rfl] at hsort
            have HSO := Lib.hid hsort
            have HK0 : Hid (Keep (fun b => b = bw ∨ b = bo ∨ wo.heap.size ≤ b) wo wr) := Lib.hid (by
              have a1 : Keep (fun b => b = bw ∨ b = bo ∨ wo.heap.size ≤ b) wo wt := by
                rw [HWT.out]; exact (Keep.of HX6.out).setCell _ _ (.inl (.inl rfl))
              exact a1.trans' hKq.out (fun _ _ e => .inr (.inl e)))
            have hlt9 := hlt'
            clear hsort PT PW hkn hb' hlt' e2
            have hF0 : Hid (FoundAt wo B (.slice (some ⟨sg, 0, none⟩) tn sc) fv1 s1.found) := Lib.hid (hW.out.F.resv rfl)
            have FSN : Hid (∀ ws, Keep (· = pg) wr ws → FoundAt ws B (.slice (some ⟨sg, 0, none⟩) tn sc) fv1 s1.found) := Lib.hid (fun ws k10 => by
              refine hF0.out.keep2 (HK0.out.trans' k10 (fun i hi e => .inr (.inr (by rw [e]; exact hpgw)))) (fun b e => ?_)
              rcases e with e | e | e
              · left; omega
              · left; omega
              · exact .inr e)
            have WSN : Hid (∀ ws, Keep (· = pg) wr ws → Wlk w0 w4 N bw nb bi bl bo B ws (.slice (some ⟨sg, 0, none⟩) tn sc) fv1 { s1 with stk := s.stk, on := off (v :: P) s1.on }) := Lib.hid (fun ws k10 =>
              hWq.out.keepP LIE.out k10 (by omega) (by show some sg ≠ some pg; intro e; cases e; omega) (FSN.out ws k10))
            have hfvp : fv1.ownBlock ≠ some pg := fun e => by
              obtain ⟨fs', f1', -⟩ := hF0.out
              have := (f1'.lt pg e).2; omega
            have hfl := I1.fndl
            have HFVP := Lib.hid hfvp
            clear hfvp
            obtain ⟨j0, hj, hjz0, hjz1, hjz2⟩ := info_parts info_row
            go_wp2_with (first | (go_at_call 24; refine HSO.out.mono ?_; rintro e ws ⟨rfl, ⟨l, hl1, hl2, hl3⟩, k10⟩; have WS := Lib.hid (WSN.out ws k10); have s5 := WS.out.cells.2.2.2.2.2; have f5 := WS.out.fz 5; obtain ⟨fs, g1, g2⟩ := FSN.out ws k10; have G1 := Lib.hid g1; have G2 := Lib.hid g2; have HL1 := Lib.hid hl1; have HL2 := Lib.hid hl2; have HL3 := Lib.hid hl3; have HPG : pg < ws.heap.size := Nat.lt_of_lt_of_le hlt9 k10.size; clear g1 g2 hl1 hl2 hl3 k10) | (at_builtin; refine wpList_append_lies _ rfl _ _ 31 rfl B 26 j0 _ 1 24 Try.underlying31 hj hjz0 hjz1 hjz2 rfl (by decide) _ _ _ rfl (G1.out.alloc _) ⟨ws.heap.size, 0, none⟩ 1 1 [.slice (some ⟨pg, 0, none⟩) pn pc] rfl rfl ?d1 ?d2 (by decide) ?d3 ?d4 ?d5 _ rfl ?_))
            case d1 => exact new_cells _ [_] _ _ rfl
            case d2 => simp [Value.oneCell']
            case d3 => unfold maxLen; omega
            case d4 => omega
            case d5 => have := WS.out.Z; simp; omega
            intro gg2 cc2 w11 hown11 hgrow11 hat11 _
            have hll : l.length = pn := by rw [HL2.out.length_eq, HPN.out]; rfl
            have hlasc : l = ascN (v :: P) := asc_ext (nodup_le_asc HL3.out (HL2.out.symm.nodup HPND.out)) (ascN_asc _) (fun x => by
              rw [HL2.out.mem_iff, mem_ascN (fun y hy => Nat.lt_of_lt_of_le (HVP.out y hy) hN)])
            have WSA := WS.out.ext ((Ext.refl ws).alloc (.cells #[.slice (some ⟨pg, 0, none⟩) pn pc] 26))
            have WF := Wlk.fnd (w2 := w11) (g := gg2) (n := s1.found.length + 1) (c := cc2) (k := l) (pa := some ⟨pg, 0, none⟩) (pc := pc) (fs := fs) WSA LIE.out (HL1.out.ext ((Ext.refl ws).alloc _)) (fun q o e => by
                cases e
                refine ⟨by omega, by simp; omega, ?_, HFVP.out⟩
                show some sg ≠ some pg
                intro e; cases e; omega) (own_ext' G1.out ((Ext.refl ws).alloc _)) (fun i hi => by
                obtain ⟨a, c, h3, h4, h5⟩ := G2.out i hi
                exact ⟨a, c, h3, h4.ext ((Ext.refl ws).alloc _), fun q o e => by
                  obtain ⟨h6, h7, h8⟩ := h5 q o e
                  exact ⟨h6, by simp; omega, h8⟩⟩) (by rw [hll]; exact hown11) rfl hgrow11 (hat11.elim .inl (fun e => .inr (by rw [e]; simp)))
            have hbW := heap_grown WSA.W hgrow11 (fun e => by
              have := (G1.out.lt bw e.symm).1; omega)
            have s6 : w11.cell? ⟨bw, 5, none⟩ = some fv1 := by rw [Lib.cell_of_heap hbW]; rfl
            have f6 := Lib.frozen_of_heap hbW 5
            rw [hlasc] at WF
            have HWF := Lib.hid WF
            clear WF WSA hbW hlasc hll hown11 hgrow11 hat11
            go_wp2
            go_ret
            refine ⟨s1, rfl, hlo.out, .slice (some ⟨sg, 0, none⟩) tn sc, .slice (some ⟨gg2, 0, none⟩) (s1.found.length + 1) cc2, ?_⟩
            rw [HFIN.out]
            have h := HWF.out
            exact ⟨h.W, h.I, h.L, h.O, h.S, h.F, h.ne, h.K, h.X, h.Z⟩
      · have f0 := (neq_facts (x := ((lo s1 v : Nat) : Int)) (k := ((ix s1 v : Nat) : Int)) (by omega)).1
        have HE := Lib.hid heq
        clear heq
        go_wp2_with fail
        go_quiet (fail)
        go_wp2
        go_ret
        exact ⟨s1, sv1, fv1, rfl, hlo.out, by unfold fin; rw [if_neg HE.out]; first | exact hW.out.ext ((Ext.refl _).drew) | exact hW.out.ext ((Ext.refl _).drewN _)⟩
theorem visit_any (w0 w4 : World) (N bw nb bi bl bo B : Nat) (A : Arcs) (lie : WLie w0 w4 N A bw nb bi bl bo B) (hN : N ≤ 64) (hA : A.length ≤ 256) (ok : Ok N A) : ∀ (n : Nat)
    (w : World) (sv fv : Value) (s : St) (g : List Nat) (v : Nat), s.idx.count 0 ≤ n → Wlk w0 w4 N bw nb bi bl bo B w sv fv s → Inv N A g s → v < N → ix s v = 0 → (∀ y ∈ s.stk, Path A y v) →
      Calls Try.prog 25 #[.pointer (some ⟨bw, 0, none⟩), .int .i64 v, .int .i64 s.cnt] w fun e w' => ∃ s2 sv' fv', e = .returned (.int .i64 s2.cnt) ∧ Loop A v (outs A v) (push v s) s2 ∧ Wlk w0 w4 N bw nb bi bl bo B w' sv' fv' (fin v s2)
  | 0 => fun w sv fv s g v hc _ hi hv hz _ => absurd hc (by have := push_count hi hv hz; omega)
  | n + 1 => fun w sv fv s g v hc hw hi hv hz hp => visit_step w0 w4 N bw nb bi bl bo B A lie hN hA ok n (fun w sv fv s g v => visit_any w0 w4 N bw nb bi bl bo B A lie hN hA ok n w sv fv s g v) w sv fv s g v hc hw hi hv hz hp
end Go.Proofs.Ytjjcjoedgmfalaa.Tp

/- slices.SortFunc on the rows that were found. -/
namespace Go.Proofs.Ytjjcjoedgmfalaa.Tp
open Go.RowKit Go.Sort Go.Lib Fx

set_option maxHeartbeats 4000000 in
theorem isort_none (p : Option Addr) (c : Nat) (fv : Value) (w : World) : Calls Try.prog 50 #[.slice p 0 c, .int .i64 0, .int .i64 0, fv] w fun e w' => e = .returned (.tuple #[]) ∧ w' = w := by
  go_enter Try.func50, Try.ntmps50
  go_wp2
  go_loopw [8] (fun i' wr => i' = .int .i64 1 ∧ wr = w) (fun _ _ => 0)
  case atStart => exact ⟨rfl, rfl⟩
  case round =>
    obtain ⟨rfl, rfl⟩ := hrel
    go_wp2
    go_end0
    exact ⟨rfl, rfl⟩
set_option maxHeartbeats 4000000 in
theorem pdq_none (p : Option Addr) (c : Nat) (lim : Int) (fv : Value) (w : World) : Calls Try.prog 36 #[.slice p 0 c, .int .i64 0, .int .i64 0, .int .i64 lim, fv] w fun e w' => e = .returned (.tuple #[]) ∧ w' = w := by
  have hi := fun w1 => isort_none p c fv w1
  go_enter Try.func36, Try.ntmps36
  go_wp2
  refine wp_loop_rounds 1 ?_
  rw [rounds_succ]
  go_wp2_with (go_at_call 50; refine (hi _).mono ?_; rintro e w1 ⟨rfl, rfl⟩)
  (try simp only [Exit.inBlock, Exit.then])
  refine bodyPost_ret (results_none rfl _ _ _) rfl ?_
  exact ⟨rfl, rfl⟩
set_option maxHeartbeats 4000000 in
theorem sortF_none (p : Option Addr) (c : Nat) (fv : Value) (w : World) : Calls Try.prog 26 #[.slice p 0 c, fv] w fun e w' => e = .returned (.tuple #[]) ∧ w' = w := by
  have hp := fun lim w1 => pdq_none p c lim fv w1
  have hb := fun w1 => Try.bits_Len 0 w1 (by omega) (by omega)
  go_enter Try.func26, Try.ntmps26
  go_wp2_with (first | (go_at_call 33; refine (hb _).mono ?_; rintro e w1 ⟨rfl, rfl⟩) | (go_at_call 36; refine (hp _ _).mono ?_; rintro e w1 ⟨rfl, rfl⟩))
  go_end0
  exact ⟨rfl, rfl⟩
set_option maxHeartbeats 4000000 in
theorem cmp_any (ga oa gb ob la lb ca cb : Nat) (x y : Int) (w : World) (h1 : w.cell? ⟨ga, oa, none⟩ = some (.int .i64 x)) (h2 : w.cell? ⟨gb, ob, none⟩ = some (.int .i64 y)) (h3 : 0 < la) (h4 : 0 < lb) (hx0 : 0 ≤ x) (hx1 : x ≤ 64) (hy0 : 0 ≤ y) (hy1 : y ≤ 64) :
    Calls Try.prog 27 #[.slice (some ⟨ga, oa, none⟩) la ca, .slice (some ⟨gb, ob, none⟩) lb cb] w fun e w' => e = .returned (.int .i64 (x - y)) ∧ ∃ q, w' = w.drewN q := by
  have h1' : w.cell? ⟨ga, oa + 0, none⟩ = some (.int .i64 x) := h1
  have h2' : w.cell? ⟨gb, ob + 0, none⟩ = some (.int .i64 y) := h2
  have b1 : (0 : Int) < (la : Int) := by omega
  have b2 : (0 : Int) < (lb : Int) := by omega
  go_enter Try.func27, Try.ntmps27
  go_wp2_with fail
  go_quiet (fail)
  go_wp2
  go_ret
  exact ⟨rfl, _, rfl⟩
theorem keep_putRowA {α : Type} [Inhabited α] (enc : α → Value) (w : World) (n blk off : Nat) (d : Array α) (os : Array Obj) : Keep (· = blk) w (grow (putRow enc (Sort.ahead w n) blk off d) os) := by
  refine ⟨rfl, rfl, rfl, by simp [grow, putRow, mapBlock, Sort.ahead], fun k hk hn => ?_⟩
  rw [Sort.heap_grow_old _ _ (by simp [putRow, mapBlock, Sort.ahead]; exact hk)]
  unfold putRow mapBlock
  simp only [Sort.ahead, Array.getElem?_modify]
  rw [if_neg (fun e => hn e.symm)]
/-- Rows that lie from block B on. -/
def RowsB (w : World) (B : Nat) (a : Option Addr) (LL : List (List Int)) : Prop :=
  ∀ j (h : j < LL.length), ∃ g o ra rc, a = some ⟨g, o, none⟩ ∧ B ≤ g ∧ w.cell? ⟨g, o + j, none⟩ = some (.slice ra LL[j].length rc) ∧ IntIn w ra LL[j] ∧ ∀ q o, ra = some ⟨q, o, none⟩ → B ≤ q
theorem RowsB.rows {w : World} {B : Nat} {a : Option Addr} {LL : List (List Int)} (h : RowsB w B a LL) : RowsIn w a LL := fun j hj => by
  obtain ⟨g, o, ra, rc, h1, _, h2, h3, _⟩ := h j hj
  exact ⟨g, o, ra, rc, h1, h2, h3⟩
theorem RowsB.mono {w : World} {B C : Nat} {a : Option Addr} {LL : List (List Int)} (h : RowsB w B a LL) (hc : C ≤ B) : RowsB w C a LL := fun j hj => by
  obtain ⟨g, o, ra, rc, h1, h2, h3, h4, h5⟩ := h j hj
  exact ⟨g, o, ra, rc, h1, Nat.le_trans hc h2, h3, h4, fun q o e => Nat.le_trans hc (h5 q o e)⟩
set_option maxHeartbeats 4000000 in
/-- Behind the sort: the rows lie in the order of their heads. -/
theorem sortF_any {w : World} {B : Nat} {sv fv : Value} {F : List (List Nat)} (h : FoundAt w B sv fv F) (hF : ∀ c ∈ F, c ≠ [] ∧ ∀ x ∈ c, x ≤ 64) (hlen : F.length ≤ 64) :
    ∃ fa fc, fv = .slice fa F.length fc ∧ Calls Try.prog 26 #[fv, .func (.func 27) #[] #[]] w fun e w' => e = .returned (.tuple #[]) ∧ (∃ l : List (List Nat), l.Perm F ∧ l.Pairwise (fun a b => ¬ b.getD 0 0 < a.getD 0 0) ∧ RowsB w' B fa (l.map zl)) ∧ Keep (fun b => B ≤ b) w w' := by
  obtain ⟨fs, h1, h2⟩ := h
  rcases h1.2 with ⟨rfl, h3⟩ | ⟨g, cap, cur, rfl, hb, hg, h3, h4, h5, h6⟩
  · have hn : F = [] := List.eq_nil_of_length_eq_zero h3
    subst hn
    refine ⟨none, 0, rfl, (sortF_none none 0 _ w).mono ?_⟩
    rintro e w' ⟨rfl, rfl⟩
    exact ⟨rfl, ⟨[], .refl _, .nil, fun j hj => absurd hj (by simp)⟩, Keep.refl _ _⟩
  · refine ⟨_, _, rfl, ?_⟩
    by_cases h0 : F.length = 0
    · have hn : F = [] := List.eq_nil_of_length_eq_zero h0
      subst hn
      refine (sortF_none _ _ _ w).mono ?_
      rintro e w' ⟨rfl, rfl⟩
      exact ⟨rfl, ⟨[], .refl _, .nil, fun j hj => absurd hj (by simp)⟩, Keep.refl _ _⟩
    · have hfl : fs.length = F.length := by have := h1.1; omega
      have hlt : g < w.heap.size := (Array.getElem?_eq_some_iff.1 hg).1
      obtain ⟨n, hn⟩ : ∃ n, n = F.length := ⟨_, rfl⟩
      have hmod : ∀ i, i % n < F.length := fun i => by rw [hn]; exact Nat.mod_lt _ (by omega)
      let enc : Nat → Value := fun i => fs.getD (i % n) (.bool false)
      let hd : Nat → Int := fun i => ((F.getD (i % n) []).getD 0 0 : Nat)
      have hrow : ∀ i, ∃ a c, enc i = .slice a (F.getD (i % n) []).length c ∧ IntIn w a (zl (F.getD (i % n) [])) ∧ ∀ q o, a = some ⟨q, o, none⟩ → q ≠ g ∧ B ≤ q := fun i => by
        obtain ⟨a, c, e1, e2, e3⟩ := h2 (i % n) (hmod i)
        have e4 : F.getD (i % n) [] = F[i % n]'(hmod i) := by rw [List.getD_eq_getElem?_getD, List.getElem?_eq_getElem (hmod i)]; rfl
        refine ⟨a, c, ?_, ?_, ?_⟩
        · show fs.getD (i % n) _ = _
          rw [List.getD_eq_getElem?_getD, e1, e4]; rfl
        · rw [e4]; exact e2
        · intro q o ea
          have := e3 q o ea
          exact ⟨fun e => this.2.2.2 (by rw [e]; rfl), this.1⟩
      have hmem : ∀ i, F.getD (i % n) [] ∈ F := fun i => by
        rw [List.getD_eq_getElem?_getD, List.getElem?_eq_getElem (hmod i)]; exact List.getElem_mem _
      have hone : OneCell enc := fun i => by obtain ⟨a, c, e, -, -⟩ := hrow i; rw [e]; rfl
      have hO : SWO (ltOf fun i j => hd i - hd j) := by
        unfold ltOf
        exact ⟨fun x => by simp, fun x y z a b => by simp at *; omega, fun x y z a b => by simp at *; omega⟩
      have hds : (Array.range n).size = n := by simp
      have hdi : ∀ j, j < n → (Array.range n)[j]! = j := fun j hj => by simp [hj]
      have hH : Holds enc w g 0 (Array.range n) := fun j hj => by
        rw [hds] at hj
        refine ⟨?_, Lib.frozen_of_heap hg _⟩
        have hj2 : j < fs.length := by omega
        have hc := h1.cells (g := g) rfl j fs[j] (List.getElem?_eq_getElem hj2)
        rw [add_at] at hc
        rw [Nat.zero_add, hc, hdi j hj]
        show _ = some (fs.getD (j % n) _)
        rw [Nat.mod_eq_of_lt hj, List.getD_eq_getElem?_getD, List.getElem?_eq_getElem hj2]; rfl
      have heg : ∀ args w, (callFunc 27 args).run Try.prog w = .ok (.enter 27 args) w := enters_of Try.func27 (by kernel_rfl) rfl
      have hkeepS : ∀ (m : Nat) (dk : Array Nat) (os : Array Obj), Keep (· = g) w (sortWorld enc w g 0 m dk os) := fun m dk os => keep_putRowA enc w m g 0 dk os
      have hcmp : CmpLays1 Try.prog 27 #[] enc (fun i j => hd i - hd j) g 0 (Array.range n).size w := fun m os dk _ x y => by
        obtain ⟨a1, c1, e1, i1, n1⟩ := hrow x
        obtain ⟨a2, c2, e2, i2, n2⟩ := hrow y
        have p1 := hF _ (hmem x)
        have p2 := hF _ (hmem y)
        have q1 : 0 < (F.getD (x % n) []).length := List.length_pos_iff.2 p1.1
        have q2 : 0 < (F.getD (y % n) []).length := List.length_pos_iff.2 p2.1
        obtain ⟨g1, o1, ra1, ce1⟩ := i1 0 (by rw [zl_len]; exact q1)
        obtain ⟨g2, o2, ra2, ce2⟩ := i2 0 (by rw [zl_len]; exact q2)
        subst ra1 ra2
        rw [zl_at _ _ q1] at ce1
        rw [zl_at _ _ q2] at ce2
        have k1 := (hkeepS m dk os).cell ce1 (n1 _ _ rfl).1
        have k2 := (hkeepS m dk os).cell ce2 (n2 _ _ rfl).1
        have b1 := p1.2 _ (List.getElem_mem q1)
        have b2 := p2.2 _ (List.getElem_mem q2)
        have := cmp_any g1 o1 g2 o2 _ _ c1 c2 _ _ _ k1 k2 q1 q2 (by omega) (by omega) (by omega) (by omega)
        show Calls _ _ (#[enc x, enc y] ++ #[]) _ _
        rw [e1, e2]
        refine this.mono ?_
        rintro e w' ⟨rfl, q, rfl⟩
        refine ⟨?_, q, #[], by rw [grow_empty]⟩
        show _ = Ending.returned (.int .i64 ((((F.getD (x % n) []).getD 0 0 : Nat) : Int) - (((F.getD (y % n) []).getD 0 0 : Nat) : Int)))
        rw [List.getD_eq_getElem?_getD (l := F.getD (x % n) []), List.getD_eq_getElem?_getD (l := F.getD (y % n) []), List.getElem?_eq_getElem q1, List.getElem?_eq_getElem q2]; rfl
      have hcall := Try.slices_SortFunc enc hone (fun i j => hd i - hd j) hO 27 #[] g 0 cap (Array.range n) w heg hcmp hH hlt (by rw [hds]; omega)
      rw [hds, hn] at hcall
      refine hcall.mono ?_
      rintro e w' ⟨rfl, d', m, os, hp, hs, rfl⟩
      rw [← hn] at hp hs
      have hsz : d'.size = n := by have := hp.1; rw [hds] at this; exact this
      have hpl : d'.toList.Perm (List.range n) := by
        have := hp.2.2
        rw [show d'.extract 0 n = d' by rw [← hsz]; simp, show (Array.range n).extract 0 n = Array.range n by simp] at this
        simpa using this
      have hKe := hkeepS m d' os
      have hH2 : Holds enc (sortWorld enc w g 0 m d' os) g 0 d' := by
        have a1 := holds_putRow enc (Sort.ahead w m) g 0 (Array.range n) d' hH (by rw [hsz, hds])
        exact holds_grow enc _ os g 0 d' (by simp [putRow, mapBlock, Sort.ahead]; exact hlt) a1
      refine ⟨rfl, ⟨d'.toList.map (fun i => F.getD (i % n) []), ?_, ?_, ?_⟩, hKe.mono (fun k _ e => by rw [e]; exact hb)⟩
      · have a1 := hpl.map (fun i => F.getD (i % n) [])
        refine a1.trans (.of_eq ?_)
        refine List.ext_getElem (by simp [hn]) fun j j1 j2 => ?_
        rw [List.getElem_map, List.getElem_range, Nat.mod_eq_of_lt (by omega), List.getD_eq_getElem?_getD, List.getElem?_eq_getElem j2]; rfl
      · rw [List.pairwise_map, List.pairwise_iff_getElem]
        intro i j hi hj hij
        have := hs i j (Nat.zero_le _) hij (by simpa [hsz] using hj)
        unfold ltOf at this
        have hi' : i < d'.size := by simpa using hi
        have hj' : j < d'.size := by simpa using hj
        rw [decide_eq_false_iff_not, getElem!_pos d' i hi', getElem!_pos d' j hj'] at this
        intro hlt2
        apply this
        show (((F.getD (d'[j] % n) []).getD 0 0 : Nat) : Int) - (((F.getD (d'[i] % n) []).getD 0 0 : Nat) : Int) < 0
        have e1 : d'.toList[i] = d'[i] := rfl
        have e2 : d'.toList[j] = d'[j] := rfl
        rw [e1, e2] at hlt2
        omega
      · intro j hj
        have hj' : j < d'.size := by simpa using hj
        have e0 := (hH2 j hj').1
        rw [getElem!_pos d' j hj'] at e0
        obtain ⟨a, c, e1, e2, e3⟩ := hrow d'[j]
        have e4 : ((d'.toList.map (fun i => F.getD (i % n) [])).map zl)[j] = zl (F.getD (d'[j] % n) []) := by simp
        refine ⟨g, 0, a, c, rfl, hb, ?_, ?_, fun q o e => (e3 q o e).2⟩
        · rw [e4, zl_len, e0, e1]
        · rw [e4]
          intro i hi
          obtain ⟨q, o, ha, hc⟩ := e2 i hi
          exact ⟨q, o, ha, hKe.cell hc (e3 q o ha).1⟩
end Go.Proofs.Ytjjcjoedgmfalaa.Tp
