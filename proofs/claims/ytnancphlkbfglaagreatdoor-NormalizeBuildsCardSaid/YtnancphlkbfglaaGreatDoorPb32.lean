/- Packed texts: NorChgR, NorChkR, NorKeyR, NorNam -/
import Derived.Test.YtnancphlkbfglaaGreatDoorPb15
import Derived.Test.YtnancphlkbfglaaGreatDoorPb18
import Derived.Test.YtnancphlkbfglaaGreatDoorPb20
import Derived.Test.YtnancphlkbfglaaGreatDoorPb25
import Derived.Test.YtnancphlkbfglaaGreatDoorPb13
import Derived.Test.YtnancphlkbfglaaGreatDoorPb14
import Derived.Test.YtnancphlkbfglaaGreatDoorPb16
set_option linter.unusedVariables false
set_option linter.unusedSimpArgs false
namespace Go.Proofs.YtnancphlkbfglaaGreatDoor.Nm
open Go.RowKit Go.Sort Go.Lib Go.Shelf Fx Lx Tr At
theorem own_mono {w : World} {B B' : Nat} {T : TypeId} {sz : Nat} {v : Value} {n : Nat} {xs : List Value} (h : w.ownsRow B' T sz v n xs) (hb : B ≤ B') : w.ownsRow B T sz v n xs := by
  refine ⟨h.1, ?_⟩
  rcases h.2 with h1 | ⟨g, cap, cur, hv, hg, r⟩
  · exact .inl h1
  · exact .inr ⟨g, cap, cur, hv, Nat.le_trans hb hg, r⟩
def chgA (A : List (List Two)) (v : Nat) (al : List Two) : List (List Two) := A.set v (mrgT (A.getD v [] ++ al))
theorem chgA_at (A : List (List Two)) (v : Nat) (al : List Two) (k : Nat) (hk : k < A.length) : (chgA A v al)[k]? = some (if k = v then mrgT (A[k] ++ al) else A[k]) := by
  unfold chgA
  by_cases h : k = v
  · subst h
    rw [List.getElem?_set_self hk, if_pos rfl, List.getD_eq_getElem?_getD, List.getElem?_eq_getElem hk]; rfl
  · rw [List.getElem?_set_ne (fun e => h e.symm), if_neg h, List.getElem?_eq_getElem hk]
theorem take_step {α : Type} (L : List α) (k : Nat) (x : α) (h : L[k]? = some x) : L.take (k + 1) = L.take k ++ [x] := by
  obtain ⟨hk, he⟩ := List.getElem?_eq_some_iff.1 h
  rw [List.take_succ_eq_append_getElem hk, he]
structure ChgAt (w : World) (A' : List (List Two)) (k : Nat) (ov : Value) (aw : List Value) (wr : World) : Prop where
  own : wr.ownsRow w.heap.size 54 1 ov k aw
  at' : AtLs wr aw (A'.take k)
  x : Ext w wr
set_option maxHeartbeats 4000000 in
set_option maxRecDepth 100000 in
theorem changeD_any (w0 : World) (bb B : Nat) (nm : ByteArray) (dir : Bool) (nv av cv lv : Value) (aw : List Value) (ks : List (Lk × Value)) (v : Nat) (p : Option Addr) (c : Nat) (al : List Two) (S : St) (E : Int) (w : World) (h : Doc w0 bb B nm dir w nv av cv lv aw ks S E) (ha : AtrIn w p al) (hl : al.length ≤ 20) (hA : S.A.length ≤ 100000) (hs : ∀ L ∈ S.A, L.length ≤ 20000) :
    Calls Tryz.prog 78 #[.pointer (some ⟨bb, 0, none⟩), .int .i64 v, .slice p al.length c] w fun e w' => e = .returned (.tuple #[]) ∧ (∃ av aw, Doc w0 bb B nm dir w' nv av cv lv aw ks { S with A := chgA S.A v al } E) ∧ KeepD w w' := by
  obtain ⟨N, hN⟩ : ∃ N, N = S.A.length := ⟨_, rfl⟩
  obtain ⟨M, hM⟩ : ∃ M, M = al.length := ⟨_, rfl⟩
  obtain ⟨A', hA'⟩ : ∃ A', A' = chgA S.A v al := ⟨_, rfl⟩
  have hAt := fun k hk => chgA_at S.A v al k hk
  have hAl : A'.length = N := by rw [hA', hN]; unfold chgA; simp
  rw [← hA'] at hAt ⊢
  have hmg := fun (w5 : World) (x : Ext w w5) (q : Option Addr) (qc : Nat) (L : List Two) (hq : AtrIn w5 q L) (hL : L.length ≤ 20000) => mrgR_any q p L al qc c w5 hq (ha.ext x) hL (by omega)
  rw [← hM] at hmg ⊢
  obtain ⟨aa, ac, rfl, -, -⟩ := row_val h.A
  rw [← hN] at hA
  have hA5 := h.cells.2.2.2.2.1
  rw [← hN] at hA5
  have C0 : Hid (ChgAt w A' 0 (.slice none 0 0) [] w) := Lib.hid ⟨World.ownsRow_nil _ _ _ _, by rw [List.take_zero]; exact AtLs.nil _, Ext.refl _⟩
  have HD := Lib.hid h; have HN := Lib.hid hN; have HAT := Lib.hid hAt; have HMG := Lib.hid hmg; have HS := Lib.hid hs; have HAL := Lib.hid hAl
  obtain ⟨j0, hj, hjz0, hjz1, hjz2⟩ := info_parts info_atl
  clear h hN hAt hmg hs ha hA' hM hl hAl
  go_enter Tryz.func78, Tryz.ntmps78
  go_wp2_with fail
  go_loopw [6, 7] (fun ov i' wr => ∃ (k : Nat) (oa : Option Addr) (oc : Nat) (ow : List Value), k ≤ N ∧ i' = .int .i64 k ∧ ov = .slice oa k oc ∧ Hid (ChgAt w A' k (.slice oa k oc) ow wr)) (fun _ i' _ => N - (RowKit.intOf i').toNat)
  case atStart => exact ⟨0, none, 0, [], Nat.zero_le _, rfl, rfl, C0⟩
  case round =>
    clear C0
    obtain ⟨k, oa, oc, ow, hk, rfl, rfl, hC⟩ := hrel
    have d5 := hC.out.x.cell hA5
    by_cases hlt : k < N
    · have hkl : k < S.A.length := by rw [← HN.out]; exact hlt
      have hD := HD.out.ext hC.out.x
      obtain ⟨g, gc, hav, -, -, -⟩ := row_has hD.A (by omega)
      injection hav with e1 e2 e3
      subst e1
      obtain ⟨q, qc, hq, hqi, hqz⟩ := hD.At.at hkl
      have hcl := hD.A.cells (g := g) rfl k _ hq
      rw [add0] at hcl
      have hst := HAT.out k hkl
      have hsl := HS.out _ (List.getElem_mem hkl)
      obtain ⟨L, hL⟩ : ∃ L, L = S.A[k] := ⟨_, rfl⟩
      rw [← hL] at hcl hqi hst hsl
      obtain ⟨LN, hLN⟩ : ∃ n, n = L.length := ⟨_, rfl⟩
      have hm := HMG.out wr hC.out.x q qc L hqi hsl
      rw [← hLN] at hcl hm
      have HQ := Lib.hid (show AtL wr (.slice q LN qc) L from ⟨q, qc, by rw [hLN], hqi, hqz⟩)
      have HST := Lib.hid hst
      have HM := Lib.hid hm
      have b0 : (0 : Int) ≤ (k : Int) := by omega
      have b1 : (k : Int) < (N : Int) := by omega
      clear hL hLN hq hqi hqz hst hsl hm e2 e3 hD
      by_cases hkv : k = v
      · have f1 : ((k : Int) == (v : Int)) = true := by rw [beq_iff_eq]; omega
        have f2 : ((k : Int) != (v : Int)) = false := by rw [bne, f1]; rfl
        have hst2 := HST.out
        rw [if_pos hkv] at hst2
        obtain ⟨R, hR⟩ : ∃ R, R = mrgT (L ++ al) := ⟨_, rfl⟩
        have hm2 := HM.out
        rw [← hR] at hst2 hm2
        have HST2 := Lib.hid hst2; have HM2 := Lib.hid hm2
        clear hst2 hm2 HST HM hR hkv
        go_wp2_with (first
          | (go_at_call 46; refine HM2.out.mono ?_; rintro e w3 ⟨⟨ra, rc, rfl, hri, hrz⟩, x3⟩; have HR3 := Lib.hid (show AtL w3 (.slice ra R.length rc) R from ⟨ra, rc, rfl, hri, hrz⟩); have O3 := Lib.hid (At.own_ext hC.out.own x3); clear hri hrz)
          | (at_builtin; refine wpList_append_lies _ rfl _ _ 65 rfl w.heap.size 54 j0 _ 1 24 Tryz.underlying65 hj hjz0 hjz1 hjz2 rfl (by decide) _ _ _ rfl (O3.out.alloc _) ⟨w3.heap.size, 0, none⟩ 1 1 [.slice ra R.length rc] rfl rfl ?c1 ?c2 (by decide) ?c3 ?c4 ?c5 _ rfl ?_))
        case c1 => exact World.news_of_block (cs := #[.slice ra R.length rc]) (t := 54) (fr := (0, 0)) (heap_alloc_new w3 _)
        case c2 => simp [Value.oneCell']
        case c3 => unfold maxLen; omega
        case c4 => omega
        case c5 => have := hC.out.x.size; have := x3.size; simp; omega
        intro g7 c7 w7 hown1 hgrow _ _
        have hown2 := (O3.out.alloc (.cells #[.slice ra R.length rc] 54))
        have x7 : Ext w w7 := own_grow ((hC.out.x.trans x3).alloc _) hown2 (Nat.le_refl _) hgrow
        have HC7 : Hid (ChgAt w A' (k + 1) (.slice (some ⟨g7, 0, none⟩) (k + 1) c7) (ow ++ [.slice ra R.length rc]) w7) := Lib.hid ⟨hown1, by
          rw [take_step _ _ _ HST2.out]
          exact (((hC.out.at'.ext x3).ext ((Ext.refl _).alloc _)).snoc (HR3.out.ext ((Ext.refl _).alloc _))).keep hgrow (row_ty hown2) (by decide), x7⟩
        clear hown1 hgrow hown2 x7 O3 HR3 x3
        go_wp2
        go_roundw
        case rel => exact ⟨k + 1, _, _, _, by omega, by go_num, rfl, HC7⟩
        case measure => simp [RowKit.intOf]; omega
      · have f1 : ((k : Int) == (v : Int)) = false := by rw [beq_eq_false_iff_ne]; omega
        have f2 : ((k : Int) != (v : Int)) = true := by rw [bne, f1]; rfl
        have hst2 := HST.out
        rw [if_neg hkv] at hst2
        have HST2 := Lib.hid hst2
        clear hst2 HST HM hkv
        go_wp2_with (at_builtin; refine wpList_append_lies _ rfl _ _ 65 rfl w.heap.size 54 j0 _ 1 24 Tryz.underlying65 hj hjz0 hjz1 hjz2 rfl (by decide) _ _ _ rfl (hC.out.own.alloc _) ⟨wr.heap.size, 0, none⟩ 1 1 [.slice q LN qc] rfl rfl ?c1 ?c2 (by decide) ?c3 ?c4 ?c5 _ rfl ?_)
        case c1 => exact World.news_of_block (cs := #[.slice q LN qc]) (t := 54) (fr := (0, 0)) (heap_alloc_new wr _)
        case c2 => simp [Value.oneCell']
        case c3 => unfold maxLen; omega
        case c4 => omega
        case c5 => have := hC.out.x.size; simp; omega
        intro g7 c7 w7 hown1 hgrow _ _
        have hown2 := (hC.out.own.alloc (.cells #[.slice q LN qc] 54))
        have x7 : Ext w w7 := own_grow (hC.out.x.alloc _) hown2 (Nat.le_refl _) hgrow
        have HC7 : Hid (ChgAt w A' (k + 1) (.slice (some ⟨g7, 0, none⟩) (k + 1) c7) (ow ++ [.slice q LN qc]) w7) := Lib.hid ⟨hown1, by
          rw [take_step _ _ _ HST2.out]
          exact ((hC.out.at'.ext ((Ext.refl _).alloc _)).snoc (HQ.out.ext ((Ext.refl _).alloc _))).keep hgrow (row_ty hown2) (by decide), x7⟩
        clear hown1 hgrow hown2 x7
        go_wp2
        go_roundw
        case rel => exact ⟨k + 1, _, _, _, by omega, by go_num, rfl, HC7⟩
        case measure => simp [RowKit.intOf]; omega
    · have hkN : k = N := by omega
      have hD := HD.out.ext hC.out.x
      have df := hD.fz 5
      have hz := HD.out.Z
      have HF := Lib.hid (hD.setA (A' := A') (own_mono (by have := hC.out.own; rw [hkN, ← HAL.out] at this; exact this) hz) (by have := hC.out.at'; rw [hkN, ← HAL.out, List.take_length] at this; exact this))
      rw [← HAL.out] at hkN
      have HX := Lib.hid (KeepD.of hC.out.x)
      subst hkN
      clear hD hz HAL
      go_wp2
      go_returns
      exact ⟨rfl, ⟨_, _, HF.out.1⟩, HX.out.trans HF.out.2⟩
end Go.Proofs.YtnancphlkbfglaaGreatDoor.Nm

namespace Go.Proofs.YtnancphlkbfglaaGreatDoor.Nm
open Go.RowKit Go.Sort Go.Lib Go.Shelf Fx Lx Tr At
set_option maxHeartbeats 4000000 in
set_option maxRecDepth 100000 in
theorem checked_any (w0 : World) (bb B : Nat) (nm : ByteArray) (dir : Bool) (kind : Int) (p : Option Addr) (c : Nat) (al : List Two) (nv av cv lv : Value) (aw : List Value) (ks : List (Lk × Value)) (S : St) (E : Int) (w : World) (h : Doc w0 bb B nm dir w nv av cv lv aw ks S E) (ha : ∀ w', Ext w0 w' → KeepD w w' → AtrIn w' p al) (hs : ∀ q ∈ al, q.1.size ≤ 64 ∧ q.2.size ≤ 64) (hL : al.length ≤ 1000) :
    Calls Tryz.prog 75 #[.pointer (some ⟨bb, 0, none⟩), .int .i64 kind, .slice p al.length c] w fun e w' => e = .returned (.tuple #[]) ∧ Doc w0 bb B nm dir w' nv av cv lv aw ks S (if E ≠ 0 then E else chkGo kind none al) ∧ KeepD w w' := by
  obtain ⟨N, hN⟩ : ∃ N, N = al.length := ⟨_, rfl⟩
  obtain ⟨V, hV⟩ : ∃ V, V = (if E ≠ 0 then E else chkGo kind none al) := ⟨_, rfl⟩
  have H0 : Hid (V = (if E ≠ 0 then E else chkGo kind none (al.drop 0))) := Lib.hid (by rw [List.drop_zero]; exact hV)
  rw [← hV]
  rw [← hN] at hL ⊢
  have HN := Lib.hid hN; have HA := Lib.hid ha; have HS := Lib.hid hs; have HD := Lib.hid h
  clear hN ha hs hV h
  go_enter Tryz.func75, Tryz.ntmps75
  go_wp2_with fail
  go_loopw [6] (fun i' wr => ∃ (k : Nat) (E' : Int), k ≤ N ∧ i' = .int .i64 k ∧ Hid (V = (if E' ≠ 0 then E' else chkGo kind none (al.drop k))) ∧ Hid (Doc w0 bb B nm dir wr nv av cv lv aw ks S E') ∧ Hid (KeepD w wr)) (fun i' _ => N - (RowKit.intOf i').toNat)
  case atStart => exact ⟨0, E, Nat.zero_le _, rfl, H0, HD, Lib.hid (KeepD.refl _)⟩
  case round =>
    clear H0 HD
    obtain ⟨k, E', hk, rfl, hv, hd, hkeep⟩ := hrel
    obtain ⟨-, -, -, -, -, -, d7⟩ := hd.out.cells
    by_cases hlt : k < N
    · have hkl : k < al.length := by rw [← HN.out]; exact hlt
      have hpi := HA.out wr hd.out.X hkeep.out
      obtain ⟨g, o, rfl, c0, c1⟩ := hpi k hkl
      have hv1 := hv.out
      obtain ⟨hs1, hs2⟩ := HS.out _ (List.getElem_mem hkl)
      rw [List.drop_eq_getElem_cons hkl, chkGo_none] at hv1
      have hch := fun w5 => checkR_any kind al[k].1 al[k].2 w5 (by omega)
      simp only [← check_same] at hch
      obtain ⟨q1, hq1⟩ : ∃ q, q = al[k].1 := ⟨_, rfl⟩
      obtain ⟨q2, hq2⟩ : ∃ q, q = al[k].2 := ⟨_, rfl⟩
      rw [← hq1] at c0 hs1 hv1; rw [← hq2] at c1 hs2 hv1
      simp only [← hq1, ← hq2] at hch
      obtain ⟨x, hx⟩ : ∃ x, x = checkV kind q1 q2 := ⟨_, rfl⟩
      rw [← hx] at hv1
      simp only [← hx] at hch
      have HV := Lib.hid hv1; have HCH := Lib.hid hch
      clear hv hv1 hq1 hq2 hch hx hs1 hs2 hpi
      have b0 : (0 : Int) ≤ (k : Int) := by omega
      have b1 : (k : Int) < (N : Int) := by omega
      by_cases h0 : E' = 0
      · subst h0
        obtain ⟨f1, f2⟩ := efacts 0
        have hr : Hid (V = (if x ≠ 0 then x else chkGo kind none (al.drop (k + 1)))) := Lib.hid (by rw [HV.out, if_neg (by decide)])
        clear HV
        go_wp2_with (go_at_call 45; refine Calls.mono (by with_reducible exact HCH.out _) ?_; rintro e w2 ⟨rfl, x2⟩; have D2 := Lib.hid (hd.out.ext x2); have K2 := Lib.hid (hkeep.out.ext x2); obtain ⟨-, -, -, -, -, -, d8⟩ := D2.out.cells; have df := D2.out.fz 7)
        go_roundw
        case rel => exact ⟨k + 1, x, by omega, by go_num, hr, Lib.hid (D2.out.setE x).1, Lib.hid (K2.out.trans (D2.out.setE x).2)⟩
        case measure => simp [RowKit.intOf]; omega
      · obtain ⟨f1, f2⟩ := nfacts h0
        have hr : Hid (V = E') := Lib.hid (by rw [HV.out, if_pos h0])
        clear h0 HV
        go_wp2
        go_returns
        rw [hr.out]
        exact ⟨rfl, hd.out, hkeep.out⟩
    · have hr : Hid (V = E') := Lib.hid (by
        rw [hv.out, List.drop_eq_nil_of_le (by rw [← HN.out]; omega)]
        by_cases h : E' = 0
        · rw [h]; rfl
        · rw [if_pos h])
      clear hv
      go_wp2
      go_returns
      rw [hr.out]
      exact ⟨rfl, hd.out, hkeep.out⟩
end Go.Proofs.YtnancphlkbfglaaGreatDoor.Nm

namespace Go.Proofs.YtnancphlkbfglaaGreatDoor.Nm
open Go.RowKit Go.Sort Go.Lib Go.Shelf Fx Lx Tr At
set_option maxHeartbeats 4000000 in
set_option maxRecDepth 100000 in
theorem keyed_any (kd : Int) (nm : ByteArray) (q : Two) (r a b : Option Addr) (R B rc ac bc : Nat) (w : World) (ha : AtrIn w a [q]) :
    Calls Tryz.prog 76 #[.agg #[.int .i64 kd, .string nm, .slice r R rc, .slice a 1 ac, .slice b B bc]] w fun e w' => e = .returned (.agg #[.string nm, .string q.2]) ∧ Ext w w' := by
  obtain ⟨g, o, rfl, -, c1⟩ := ha 0 (by simp)
  simp only [List.getElem_cons_zero] at c1
  have c1' : w.cell? ⟨g, o + 1, none⟩ = some (.string q.2) := by simpa using c1
  have k1 := fun (o1 o2 : Obj) => (((Ext.refl w).alloc o1).alloc o2).cell c1'
  clear c1 ha
  go_enter Tryz.func76, Tryz.ntmps76
  go_wp2_with fail
  go_region
  all_goals go_wp2
  all_goals go_returns
  all_goals exact ⟨rfl, (((Ext.refl w).alloc _).alloc _).drew⟩
end Go.Proofs.YtnancphlkbfglaaGreatDoor.Nm

namespace Go.Proofs.YtnancphlkbfglaaGreatDoor.Nm
open Go.Lib Fx Lx Tr At
theorem form_parts (x : Stm) (h : formB x = true) : (x.kind ≠ 2 → x.refs = []) ∧ (x.kind ≠ 5 → x.body = []) := by
  unfold formB at h
  refine ⟨fun h2 => ?_, fun h5 => ?_⟩
  · by_cases h1 : x.kind = 1
    · rw [if_pos h1] at h; simp only [Bool.and_eq_true, List.isEmpty_iff] at h; exact h.1
    rw [if_neg h1, if_neg h2] at h
    by_cases h3 : x.kind = 3
    · rw [if_pos h3] at h; simp only [Bool.and_eq_true, List.isEmpty_iff] at h; exact h.1.1
    rw [if_neg h3] at h
    by_cases h4 : x.kind = 4
    · rw [if_pos h4] at h; simp only [Bool.and_eq_true, List.isEmpty_iff] at h; exact h.1.1
    rw [if_neg h4] at h
    by_cases h6 : x.kind = 5
    · rw [if_pos h6] at h; simp only [Bool.and_eq_true, List.isEmpty_iff] at h; exact h.1
    · rw [if_neg h6] at h; cases h
  · by_cases h1 : x.kind = 1
    · rw [if_pos h1] at h; simp only [Bool.and_eq_true, List.isEmpty_iff] at h; exact h.2
    rw [if_neg h1] at h
    by_cases h2 : x.kind = 2
    · rw [if_pos h2] at h; simp only [Bool.and_eq_true, List.isEmpty_iff] at h; exact h.1.2
    rw [if_neg h2] at h
    by_cases h3 : x.kind = 3
    · rw [if_pos h3] at h; simp only [Bool.and_eq_true, List.isEmpty_iff] at h; exact h.1.2
    rw [if_neg h3] at h
    by_cases h4 : x.kind = 4
    · rw [if_pos h4] at h; simp only [Bool.and_eq_true, List.isEmpty_iff] at h; exact h.1.2
    rw [if_neg h4, if_neg h5] at h; cases h
end Go.Proofs.YtnancphlkbfglaaGreatDoor.Nm
