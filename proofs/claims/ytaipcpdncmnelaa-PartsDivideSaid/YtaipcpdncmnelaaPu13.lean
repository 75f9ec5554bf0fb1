/- Packed texts: PrtBrid, PrtMap -/
import Derived.Test.YtaipcpdncmnelaaPu12
import Derived.Deep.CutRange
import Derived.Maps.Own
import Derived.Maps.OwnOps
import Derived.Maps.Views
set_option linter.unusedVariables false
set_option linter.unusedSimpArgs false
/- Bridges: the blocks of one edge that is no loop. -/
namespace Go.Proofs.Ytaipcpdncmnelaa.Pt
open Go.RowKit Go.Sort Go.Lib Fx Tp

def isBr (A : Arcs) (C : List Nat) : Bool := C.length == 1 && !(((arcN A (hd C)).1 : Int) == ((arcN A (hd C)).2 : Int))
def brK (A : Arcs) (X : List (List Nat)) (k : Nat) : List Nat := ((X.take k).filter (isBr A)).map hd
def bridgesT (N : Nat) (A : Arcs) : List Nat := brK A (blocksT N A) (blocksT N A).length
theorem brK_succ (A : Arcs) (X : List (List Nat)) (k : Nat) (h : k < X.length) : brK A X (k + 1) = brK A X k ++ (if isBr A X[k] = true then [hd X[k]] else []) := by
  unfold brK
  rw [List.take_succ_eq_append_getElem h, List.filter_append, List.map_append]
  by_cases e : isBr A X[k] = true
  · rw [if_pos e]; simp [e]
  · rw [if_neg e]; simp [e]
theorem brK_len (A : Arcs) (X : List (List Nat)) (k : Nat) : (brK A X k).length ≤ X.length := by
  unfold brK; rw [List.length_map]
  exact Nat.le_trans (List.length_filter_le _ _) (by rw [List.length_take]; omega)
theorem blocks_len {N : Nat} {A : Arcs} (ok : Ok N A) : (blocksT N A).length ≤ A.length := by
  unfold blocksT
  rw [(sortH_perm _).length_eq]
  exact (run_top ok N (Nat.le_refl _)).1.inv.blk_le
theorem blocks_mem {N : Nat} {A : Arcs} {C : List Nat} : C ∈ blocksT N A ↔ C ∈ blkT N A := (sortH_perm _).mem_iff
set_option maxHeartbeats 8000000 in
set_option maxRecDepth 100000 in
theorem bridges_of (VIS : Vis) (N : Nat) (a : Option Addr) (A : Arcs) (cap : Nat) (w : World) (hN : N ≤ 64) (h : ArcIn w a (zarc A)) (hA : A.length ≤ 256) (ok : Ok N A) :
    Calls Try.prog 16 #[.agg #[.int .i64 N, .slice a A.length cap]] w fun e w' => (∃ b c, e = .returned (.slice b (bridgesT N A).length c) ∧ IntIn w' b (zl (bridgesT N A))) ∧ Ext w w' := by
  have hbk := fun w1 (x : Ext w w1) => blocks_of VIS N a A cap w1 hN (h.ext x) hA ok
  have BO := blk_ok ok
  have hXl := blocks_len ok
  obtain ⟨M, hM⟩ : ∃ M, M = A.length := ⟨_, rfl⟩
  rw [← hM] at hA hbk hXl ⊢
  obtain ⟨i0, hi, hz0, hz1, hz2⟩ := info_parts info_int
  obtain ⟨X, hX⟩ : ∃ X, X = blocksT N A := ⟨_, rfl⟩
  rw [← hX] at hbk hXl
  have HBN : Hid (bridgesT N A = brK A X X.length) := Lib.hid (by rw [hX]; rfl)
  have HLT : Hid (∀ C ∈ X, C ≠ [] ∧ ∀ e ∈ C, e < M) := Lib.hid (fun C hC => by
    rw [hX] at hC
    have := blocks_mem.1 hC
    exact ⟨BO.ne C this, fun e he => by rw [hM]; exact BO.lt C this e he⟩)
  have HB := Lib.hid hbk; have HM := Lib.hid hM; have HOK := Lib.hid ok; have HARC := Lib.hid h
  obtain ⟨xn, hxn⟩ : ∃ xn, xn = X.length := ⟨_, rfl⟩
  rw [← hxn] at HB hXl
  have HXN := Lib.hid hxn
  clear h hM hbk ok VIS BO hX hxn
  go_enter Try.func16, Try.ntmps16
  go_wp2_with (go_at_call 22; refine (HB.out _ ((Ext.refl _).alloc _)).mono ?_; rintro e w1 ⟨⟨fa, fc, rfl, hr⟩, x1⟩; have HR := Lib.hid hr.rows; clear hr)
  have X1 := Lib.hid x1
  have hx1 : Hid (Ext w w1) := Lib.hid (((Ext.refl w).alloc _).trans x1)
  clear x1 HB
  go_loopw [3, 9] (fun o' i' wr => ∃ (k : Nat) (ov : Value), k ≤ xn ∧ ov = o' ∧ i' = .int .i64 k ∧ Hid (wr.ownsRow w1.heap.size 3 1 ov (brK A X k).length (iv (zl (brK A X k)))) ∧ Ext w1 wr) (fun _ i' _ => xn - (RowKit.intOf i').toNat)
  case atStart => exact ⟨0, _, Nat.zero_le _, rfl, rfl, Lib.hid (World.ownsRow_nil _ _ _ _), Ext.refl _⟩
  case round =>
    obtain ⟨k, ov, hk, rfl, rfl, hown, hx⟩ := hrel
    obtain ⟨b10, b11⟩ := box_two (X1.out.trans hx)
    by_cases hlt : k < xn
    · have hkX : k < X.length := by rw [← HXN.out]; exact hlt
      obtain ⟨g, o, ra, rc, rfl, r0, r1⟩ := HR.out k (by simpa using hkX)
      have r0 := hx.cell r0
      have r1 := r1.ext hx
      rw [List.getElem_map] at r0 r1
      rw [zl_len] at r0
      obtain ⟨hne, hltC⟩ := HLT.out _ (List.getElem_mem hkX)
      have hst := brK_succ A X k hkX
      have hbl := brK_len A X k
      rw [← HXN.out] at hbl
      obtain ⟨C, hC⟩ : ∃ C, C = X[k] := ⟨_, rfl⟩
      rw [← hC] at r0 r1 hne hltC hst
      clear hC
      obtain ⟨R, hR⟩ : ∃ R, R = brK A X k := ⟨_, rfl⟩
      rw [← hR] at hst hown hbl
      have hpos : 0 < C.length := List.length_pos_iff.2 hne
      obtain ⟨q, oq, rfl, q0⟩ := r1 0 (by rw [zl_len]; exact hpos)
      rw [zl_at _ _ hpos] at q0
      have hhd : C[0] = hd C := by unfold hd; rw [List.getD_eq_getElem?_getD, List.getElem?_eq_getElem hpos]; rfl
      rw [hhd] at q0
      have hhM := hltC _ (hd_mem hne)
      obtain ⟨t, ht⟩ : ∃ t, t = hd C := ⟨_, rfl⟩
      rw [← ht] at q0 hhM
      have q0' : wr.cell? ⟨q, oq, none⟩ = some (.int .i64 t) := q0
      obtain ⟨cn, hcn⟩ : ∃ cn, cn = C.length := ⟨_, rfl⟩
      rw [← hcn] at r0 hpos
      have HCN := Lib.hid hcn; have HT := Lib.hid ht
      clear hR hcn ht hhd hltC hne r1
      by_cases h1 : cn = 1
      · have htA : t < A.length := by rw [← HM.out]; exact hhM
        obtain ⟨ga, oa, rfl, d0, d1⟩ := (HARC.out.ext (hx1.out.trans hx)) t (by rw [zarc_len]; exact htA)
        rw [zarc_at A t htA, ← arcN_at htA] at d0 d1
        obtain ⟨x, hxe⟩ : ∃ x, x = (arcN A t).1 := ⟨_, rfl⟩
        obtain ⟨y, hye⟩ : ∃ y, y = (arcN A t).2 := ⟨_, rfl⟩
        rw [← hxe] at d0; rw [← hye] at d1
        have HIB : Hid (isBr A C = !((x : Int) == (y : Int))) := Lib.hid (by
          unfold isBr; rw [← HCN.out, ← HT.out, ← hxe, ← hye, h1]; rfl)
        have f0 := (eq_facts (x := ((cn : Nat) : Int)) (k := 1) (by omega)).1
        have hcn1 := h1
        clear hxe hye h1
        have b0 : (0 : Int) ≤ (t : Int) := by omega
        have b1 : (t : Int) < (M : Int) := by omega
        have b2 : (0 : Int) < (cn : Int) := by omega
        subst hcn1
        go_wp2_with fail
        go_cut [26] from 13 to 26 (fun s26 wx => s26 = .bool (!((x : Int) == (y : Int))) ∧ Hid (Ext wr wx))
        case first =>
          go_region_with (go_at_call 34; refine (loop_any x y _).mono ?_; rintro e w6 ⟨rfl, x6⟩)
          all_goals go_wp2
          all_goals go_meet
          all_goals exact ⟨rfl, Lib.hid (((Ext.refl _).drew).trans x6)⟩
        case rest =>
          obtain ⟨rfl, hxc⟩ := hcut
          have hownc := Lib.hid (own_ext' hown.out hxc.out)
          have hyc := hx.trans hxc.out
          have q1 := hxc.out.cell q0
          have q1' := hxc.out.cell q0'
          clear hown hx b10 b11 r0 d0 d1 q0 q0' f0
          by_cases hxy : (x : Int) = (y : Int)
          · have hS : Hid (brK A X (k + 1) = R) := Lib.hid (by rw [hst, if_neg (by rw [HIB.out, (eq_facts hxy).1]; decide), List.append_nil])
            rw [(eq_facts hxy).1]
            clear hst hxy
            go_wp2
            go_roundw
            case rel => exact ⟨k + 1, _, by omega, rfl, by go_num, by rw [hS.out]; exact hownc, hyc⟩
            case measure => simp [RowKit.intOf]; omega
          · have hS : Hid (brK A X (k + 1) = R ++ [t]) := Lib.hid (by rw [hst, if_pos (by rw [HIB.out, (neq_facts hxy).1]; rfl), HT.out])
            rw [(neq_facts hxy).1]
            clear hst hxy
            go_wp2_with (at_builtin; refine wpList_append_lies _ rfl _ _ 31 rfl w1.heap.size 3 i0 _ 1 8 Try.underlying31 hi hz0 hz1 hz2 rfl (by decide) _ _ _ rfl (hownc.out.alloc _) ⟨wc.heap.size, 0, none⟩ 1 1 [.int .i64 t] rfl rfl ?c1 ?c2 (by decide) ?c3 ?c4 ?c5 _ rfl ?_)
            case c1 => exact new_cells' _ [_] _ _ rfl
            case c2 => simp [Value.oneCell']
            case c3 => unfold maxLen; omega
            case c4 => omega
            case c5 => have := hyc.size; simp; omega
            intro gg cc w3 hown3 hgrow3 _ _
            have hx3 : Ext w1 w3 := Below.grown (hyc.alloc _) hgrow3 (by have := hyc.size; simp; omega) (fun q hq => by have := (hownc.out.lt q hq).1; omega)
            have hown4 : Hid (w3.ownsRow w1.heap.size 3 1 (.slice (some ⟨gg, 0, none⟩) (R.length + 1) cc) (R ++ [t]).length (iv (zl (R ++ [t])))) := Lib.hid (by rw [zl_app, iv_app, List.length_append]; exact hown3)
            clear hown3 hgrow3
            go_wp2
            go_roundw
            case rel => exact ⟨k + 1, _, by omega, rfl, by go_num, by rw [hS.out]; exact hown4, hx3⟩
            case measure => simp [RowKit.intOf]; omega
      · have hS : Hid (brK A X (k + 1) = R) := Lib.hid (by
          rw [hst, if_neg, List.append_nil]
          unfold isBr
          rw [← HCN.out]
          have : (cn == 1) = false := by rw [beq_eq_false_iff_ne]; exact h1
          rw [this]; simp)
        have f0 := (neq_facts (x := ((cn : Nat) : Int)) (k := 1) (by omega)).1
        clear hst
        go_wp2_with fail
        go_quiet (fail)
        go_wp2
        go_roundw
        case rel => exact ⟨k + 1, _, by omega, rfl, by go_num, by rw [hS.out]; exact Lib.hid (own_ext' hown.out (by first | exact (Ext.refl _).drewN _ | exact (Ext.refl _).drew)), by first | exact hx.drewN _ | exact hx.drew⟩
        case measure => simp [RowKit.intOf]; omega
    · have hkn : k = X.length := by have := HXN.out; omega
      have hres : brK A X k = bridgesT N A := by rw [HBN.out, hkn]
      rw [hres] at hown
      clear hres hkn
      go_wp2
      go_ret
      obtain ⟨ra, rc, rfl, hin, -⟩ := own_ints hown.out (by rw [zl_len])
      exact ⟨⟨ra, rc, by rw [zl_len]; rfl, hin⟩, hx1.out.trans hx⟩
end Go.Proofs.Ytaipcpdncmnelaa.Pt

/- A set of numbers as a map of bools: looking up and laying; the counting of a block's vertices, plain. -/
namespace Go.Proofs.Ytaipcpdncmnelaa.Pt
open Go.RowKit Go.Sort Go.Lib Go.Maps Fx Tp

theorem plainElem_bool_inv {H : Type} {P : Program} {e : TypeId} (he : P.underlying e = some .bool) {v : Value} {z : DataW H × List MemPlace} (h : plainElem P e v = some z) : ∃ a, v = .bool a ∧ z = (.lit (.bool a), []) := by
  unfold plainElem at h
  rw [he] at h
  cases v <;> simp at h
  subst h
  exact ⟨_, rfl, rfl⟩
theorem wpList_lookup_own_bool {H : Type} {P : Program} (w : World) {ops : Array Oper} {rest : List Oper} {o : Oper} {a : Act} {Q : Exit → Act → World → Prop}
    (hg : o.guard = none) (m x : Operand) (t : TypeId) (hop : o.op = Op.lookup t m x false)
    (k e : TypeId) (K : Keyed P k) (ht : P.underlying t = some (.map k e)) (he : P.underlying e = some .bool) (hz : (zeroValue e).run P w = .ok (.bool false) w) (b n : Nat) (D : DataW H)
    (hm : a.eval m = .map (some b)) (hown : w.ownsMap P k (plainElem P e) b n D) (key : Value) (kl : Lit) (hx : a.eval x = key) (hkey : keyOf P k key = some kl)
    (r : Bool) (hr : D.atKey kl (.lit (.bool false)) = .lit (.bool r)) (hK : wpList P ops Q rest (a.put o.dst (.bool r)) w) :
    wpList P ops Q (o :: rest) a w := by
  refine wpList_plain hg fun K' hK' => ?_
  obtain ⟨v, ps, hrun, hv⟩ := hown.lookup K ht hz (plainElem_bool he false) hkey
  obtain ⟨c, rfl, hc⟩ := plainElem_bool_inv he hv
  have hc1 : D.atKey kl (.lit (.bool false)) = .lit (.bool c) := (Prod.mk.injEq .. |>.mp hc).1
  rw [hr] at hc1
  injection hc1 with hc1
  injection hc1 with hc1
  subst hc1
  unfold Oper.wp
  simp [execOp, hop, hm, hx, hrun, Result.andThen]
  exact hK' _ _ hK
/-- The set of numbers as a map. -/
def metD (ms : List Nat) : DataW Unit := ms.foldl (fun D (v : Nat) => D.put (.int .i64 (v : Int)) (.lit (.bool true))) (.map [])
theorem metD_snoc (ms : List Nat) (v : Nat) : metD (ms ++ [v]) = (metD ms).put (.int .i64 v) (.lit (.bool true)) := by unfold metD; rw [List.foldl_append]; rfl
theorem metD_map (ms : List Nat) : IsMap (metD ms) := by
  unfold metD
  have key : ∀ (ms : List Nat) (D : DataW Unit), IsMap D → IsMap (ms.foldl (fun D (v : Nat) => D.put (.int .i64 (v : Int)) (.lit (.bool true))) D) := by
    intro ms
    induction ms with
    | nil => exact fun _ h => h
    | cons v ms ih => exact fun D h => ih _ (h.put _ _)
  exact key ms _ isMap_empty
theorem metD_at (u : Nat) : ∀ (n : Nat) (ms : List Nat), ms.length = n → (metD ms).atKey (.int .i64 (u : Int)) (.lit (.bool false)) = .lit (.bool (decide (u ∈ ms)))
  | 0, ms, h => by
    rw [List.eq_nil_of_length_eq_zero h]; rfl
  | n + 1, ms, h => by
    rcases List.eq_nil_or_concat ms with e | ⟨L, v, e⟩
    · rw [e] at h; simp at h
    · rw [List.concat_eq_append] at e
      subst e
      rw [metD_snoc]
      by_cases huv : u = v
      · subst huv
        rw [atKey_put_same (metD_map L) (by simp [WideAt.IsKeyLit])]
        simp
      · rw [atKey_put_other (fun z => huv (by injection z with _ z; omega)), metD_at u n L (by simpa using h)]
        simp [huv]
/-! ### counting -/
def seeV (s : List Nat × List Int) (v : Nat) : List Nat × List Int := if v ∈ s.1 then s else (s.1 ++ [v], s.2.set v (s.2.getD v 0 + 1))
def edgV (A : Arcs) (s : List Nat × List Int) (e : Nat) : List Nat × List Int := seeV (seeV s (arcN A e).1) (arcN A e).2
def isLp (A : Arcs) (C : List Nat) : Bool := ((arcN A (hd C)).1 : Int) == ((arcN A (hd C)).2 : Int)
def rowC (A : Arcs) (c : List Int) (C : List Nat) : List Int := if isLp A C = true then c else (C.foldl (edgV A) ([], c)).2
def cntF (N : Nat) (A : Arcs) (X : List (List Nat)) (k : Nat) : List Int := (X.take k).foldl (rowC A) (List.replicate N 0)
def cutK (c : List Int) (k : Nat) : List Nat := (List.range k).filter (fun v => decide (1 < c.getD v 0))
def cutsT (N : Nat) (A : Arcs) : List Nat := cutK (cntF N A (blocksT N A) (blocksT N A).length) N
/-- No count is more than the rows that were seen. -/
structure CntI (N k : Nat) (s : List Nat × List Int) : Prop where
  len : s.2.length = N
  lo : ∀ v, 0 ≤ s.2.getD v 0
  hi : ∀ v, s.2.getD v 0 ≤ k + 1
  out : ∀ v, v ∉ s.1 → s.2.getD v 0 ≤ k
theorem CntI.see {N k : Nat} {s : List Nat × List Int} (h : CntI N k s) (v : Nat) : CntI N k (seeV s v) := by
  unfold seeV
  split
  · exact h
  · rename_i hv
    refine ⟨by simp [h.len], fun u => ?_, fun u => ?_, fun u hu => ?_⟩
    · rw [getD_set]; split
      · have := h.lo v; omega
      · exact h.lo u
    · rw [getD_set]; split
      · have := h.out v hv; omega
      · exact h.hi u
    · have hne : v ≠ u := fun e => hu (by rw [e]; simp)
      have hu' : u ∉ s.1 := fun e => hu (List.mem_append_left _ e)
      rw [getD_set, if_neg (fun z => hne z.1)]; exact h.out u hu'
theorem CntI.edge {N k : Nat} {A : Arcs} {s : List Nat × List Int} (h : CntI N k s) (e : Nat) : CntI N k (edgV A s e) := (h.see _).see _
theorem CntI.edges {N k : Nat} {A : Arcs} : ∀ (L : List Nat) {s : List Nat × List Int}, CntI N k s → CntI N k (L.foldl (edgV A) s)
  | [], _, h => h
  | e :: L, _, h => CntI.edges L (h.edge e)
theorem cnt_ok (N : Nat) (A : Arcs) (X : List (List Nat)) : ∀ k, k ≤ X.length → CntI N k ([], cntF N A X k)
  | 0, _ => by
    unfold cntF
    refine ⟨by simp, fun v => ?_, fun v => ?_, fun v _ => ?_⟩
    all_goals (simp only [List.take_zero, List.foldl_nil]; rw [List.getD_eq_getElem?_getD, List.getElem?_replicate]; split <;> simp)
  | k + 1, hk => by
    have h := cnt_ok N A X k (by omega)
    have e : cntF N A X (k + 1) = rowC A (cntF N A X k) (X[k]'(by omega)) := by
      unfold cntF; rw [List.take_succ_eq_append_getElem (by omega), List.foldl_append]; rfl
    rw [e]
    unfold rowC
    split
    · exact ⟨h.len, h.lo, fun v => by have := h.hi v; omega, fun v _ => by have := h.hi v; omega⟩
    · have h2 := h.edges (A := A) (X[k]'(by omega))
      exact ⟨h2.len, h2.lo, fun v => by have := h2.hi v; dsimp only; omega, fun v _ => by have := h2.hi v; dsimp only; omega⟩
end Go.Proofs.Ytaipcpdncmnelaa.Pt
