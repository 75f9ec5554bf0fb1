/- Packed texts: TopVal, PrtValR, PrtSame, PrtText -/
import Derived.Test.YtaipcpdncmnelaaPu01
set_option linter.unusedVariables false
set_option linter.unusedSimpArgs false
/- Both Valid functions return validL. -/
namespace Go.Proofs.Ytaipcpdncmnelaa.Tp
open Go.RowKit Go.Sort Go.Lib Fx

theorem ret_bool {a b : Bool} (h : a = b) : Ending.returned (.bool a) = .returned (.bool b) := by rw [h]
theorem validL_bad {n : Int} {L : ArcZ} {k : Nat} (h : k < L.length) (hb : goodP n (L[k].1, L[k].2) = false) : validL n L = false := by
  unfold validL
  have : L.all (goodP n) = false := by
    rw [List.all_eq_false]
    exact ⟨L[k], List.getElem_mem h, by simpa using hb⟩
  rw [this, Bool.and_false]
theorem goodP_at {n : Int} {L : ArcZ} {k : Nat} (h : k < L.length) : goodP n L[k] = goodP n (L[k].1, L[k].2) := rfl
set_option maxHeartbeats 4000000 in
theorem valid_any (n : Int) (a : Option Addr) (L : ArcZ) (cap : Nat) (w : World) (hn0 : -9223372036854775808 ≤ n) (hn1 : n ≤ 9223372036854775807) (h : ArcIn w a L) (hk : ArcOk L) (hL : L.length ≤ 9223372036854775807) :
    Calls Try.prog 27 #[.agg #[.int .i64 n, .slice a L.length cap]] w fun e w' => e = .returned (.bool (validL n L)) ∧ Ext w w' := by
  obtain ⟨M, hM⟩ : ∃ M, M = L.length := ⟨_, rfl⟩
  have HI := Lib.hid h
  have HK := Lib.hid hk
  rw [← hM] at hL ⊢
  have HM := Lib.hid hM
  clear h hk hM
  by_cases c0 : n < 0
  · have hf : validL n L = false := by unfold validL; rw [decide_eq_false (by omega)]; rfl
    rw [hf]
    go_enter Try.func27, Try.ntmps27
    go_wp2
    go_ret
    exact ⟨rfl, (Ext.refl _).alloc _⟩
  by_cases c1 : 64 < n
  · have hf : validL n L = false := by unfold validL; rw [decide_eq_false (by omega)]; rfl
    rw [hf]
    go_enter Try.func27, Try.ntmps27
    go_wp2
    go_ret
    exact ⟨rfl, (Ext.refl _).alloc _⟩
  by_cases c2 : 256 < M
  · have hf : validL n L = false := by unfold validL; rw [decide_eq_false (by rw [← HM.out]; omega)]; rfl
    rw [hf]
    go_enter Try.func27, Try.ntmps27
    go_wp2
    go_ret
    exact ⟨rfl, (Ext.refl _).alloc _⟩
  go_enter Try.func27, Try.ntmps27
  go_wp2
  go_loopw [22] (fun i' wr => ∃ k : Nat, k ≤ M ∧ i' = .int .i64 k ∧ Hid (∀ j (hj : j < L.length), j < k → goodP n L[j] = true) ∧ Ext w wr ∧ wr.cell? ⟨w.heap.size, 0, none⟩ = some (.int .i64 n)) (fun i' _ => M - (RowKit.intOf i').toNat)
  case atStart => exact ⟨0, by omega, rfl, Lib.hid (fun j _ h => absurd h (by omega)), (Ext.refl _).alloc _, by go_simp⟩
  case round =>
    obtain ⟨k, hk, rfl, hall, hx, hc⟩ := hrel
    by_cases hlt : k < M
    · have hkl : k < L.length := by rw [← HM.out]; exact hlt
      obtain ⟨g, o, rfl, d0, d1⟩ := (HI.out.ext hx) k hkl
      have hok := HK.out _ (List.getElem_mem hkl)
      obtain ⟨x, hxe⟩ : ∃ x, x = L[k].1 := ⟨_, rfl⟩
      obtain ⟨y, hye⟩ : ∃ y, y = L[k].2 := ⟨_, rfl⟩
      rw [← hxe] at d0 hok; rw [← hye] at d1 hok
      have HX := Lib.hid hxe
      have HY := Lib.hid hye
      clear hxe hye
      obtain ⟨o0, o1, o2, o3⟩ := hok
      have hc' : ∀ o, (wr.alloc o).cell? ⟨w.heap.size, 0, none⟩ = some (.int .i64 n) := fun o => ((Ext.refl wr).alloc o).cell hc
      by_cases hxy : x ≤ y
      · by_cases e0 : x < 0
        · skip
          have hf : Hid (validL n L = false) := Lib.hid (validL_bad hkl (by rw [← HX.out, ← HY.out]; unfold goodP; exact decide_eq_false (by omega)))
          clear hall
          go_wp2
          all_goals go_ret
          all_goals exact ⟨ret_bool hf.out.symm, hx.alloc _⟩
        by_cases e1 : n ≤ y
        · skip
          have hf : Hid (validL n L = false) := Lib.hid (validL_bad hkl (by rw [← HX.out, ← HY.out]; unfold goodP; exact decide_eq_false (by omega)))
          clear hall
          go_wp2
          all_goals go_ret
          all_goals exact ⟨ret_bool hf.out.symm, hx.alloc _⟩
        have hg : Hid (∀ j (hj : j < L.length), j < k + 1 → goodP n L[j] = true) := Lib.hid (fun j hj hjk => by
          by_cases e : j = k
          · subst e; rw [goodP_at, ← HX.out, ← HY.out]; unfold goodP; exact decide_eq_true (by omega)
          · exact hall.out j hj (by omega))
        clear hall
        go_wp2
        all_goals go_roundw
        all_goals first | exact ⟨k + 1, by omega, by go_num, hg, hx.alloc _, hc' _⟩ | (simp [RowKit.intOf]; omega)
      · by_cases e0 : y < 0
        · skip
          have hf : Hid (validL n L = false) := Lib.hid (validL_bad hkl (by rw [← HX.out, ← HY.out]; unfold goodP; exact decide_eq_false (by omega)))
          clear hall
          go_wp2
          all_goals go_ret
          all_goals exact ⟨ret_bool hf.out.symm, hx.alloc _⟩
        by_cases e1 : n ≤ x
        · skip
          have hf : Hid (validL n L = false) := Lib.hid (validL_bad hkl (by rw [← HX.out, ← HY.out]; unfold goodP; exact decide_eq_false (by omega)))
          clear hall
          go_wp2
          all_goals go_ret
          all_goals exact ⟨ret_bool hf.out.symm, hx.alloc _⟩
        have hg : Hid (∀ j (hj : j < L.length), j < k + 1 → goodP n L[j] = true) := Lib.hid (fun j hj hjk => by
          by_cases e : j = k
          · subst e; rw [goodP_at, ← HX.out, ← HY.out]; unfold goodP; exact decide_eq_true (by omega)
          · exact hall.out j hj (by omega))
        clear hall
        go_wp2
        all_goals go_roundw
        all_goals first | exact ⟨k + 1, by omega, by go_num, hg, hx.alloc _, hc' _⟩ | (simp [RowKit.intOf]; omega)
    · have hf : Hid (validL n L = true) := Lib.hid (by
        unfold validL; rw [decide_eq_true (by rw [← HM.out]; omega), Bool.true_and, List.all_eq_true]
        intro p hp
        obtain ⟨j, hj, rfl⟩ := List.getElem_of_mem hp
        exact hall.out j hj (by rw [← HM.out] at hj; omega))
      clear hall
      go_wp2
      go_ret
      exact ⟨ret_bool hf.out.symm, hx⟩
end Go.Proofs.Ytaipcpdncmnelaa.Tp

/- The document's Valid returns validL. -/
namespace Go.Proofs.Ytaipcpdncmnelaa.Tp
open Go.RowKit Go.Sort Go.Lib Fx

set_option maxHeartbeats 4000000 in
theorem validR_any (n : Int) (a : Option Addr) (L : ArcZ) (cap : Nat) (w : World) (hn0 : -9223372036854775808 ≤ n) (hn1 : n ≤ 9223372036854775807) (h : ArcIn w a L) (hk : ArcOk L) (hL : L.length ≤ 9223372036854775807) :
    Calls Try.prog 24 #[.agg #[.int .i64 n, .slice a L.length cap]] w fun e w' => e = .returned (.bool (validL n L)) ∧ Ext w w' := by
  obtain ⟨M, hM⟩ : ∃ M, M = L.length := ⟨_, rfl⟩
  have HI := Lib.hid h
  have HK := Lib.hid hk
  rw [← hM] at hL ⊢
  have HM := Lib.hid hM
  clear h hk hM
  by_cases c0 : n < 0
  · have hf : validL n L = false := by unfold validL; rw [decide_eq_false (by omega)]; rfl
    rw [hf]
    go_enter Try.func24, Try.ntmps24
    go_wp2
    go_ret
    exact ⟨rfl, (Ext.refl _).alloc _⟩
  by_cases c1 : 64 < n
  · have hf : validL n L = false := by unfold validL; rw [decide_eq_false (by omega)]; rfl
    rw [hf]
    go_enter Try.func24, Try.ntmps24
    go_wp2
    go_ret
    exact ⟨rfl, (Ext.refl _).alloc _⟩
  by_cases c2 : 256 < M
  · have hf : validL n L = false := by unfold validL; rw [decide_eq_false (by rw [← HM.out]; omega)]; rfl
    rw [hf]
    go_enter Try.func24, Try.ntmps24
    go_wp2
    go_ret
    exact ⟨rfl, (Ext.refl _).alloc _⟩
  go_enter Try.func24, Try.ntmps24
  go_wp2
  go_loopw [3] (fun i' wr => ∃ k : Nat, k ≤ M ∧ i' = .int .i64 k ∧ Hid (∀ j (hj : j < L.length), j < k → goodP n L[j] = true) ∧ Ext w wr ∧ wr.cell? ⟨w.heap.size, 0, none⟩ = some (.int .i64 n) ∧ wr.cell? ⟨w.heap.size, 1, none⟩ = some (.slice a M cap)) (fun i' _ => M - (RowKit.intOf i').toNat)
  case atStart => exact ⟨0, by omega, rfl, Lib.hid (fun j _ h => absurd h (by omega)), (Ext.refl _).alloc _, by go_simp, by go_simp⟩
  case round =>
    obtain ⟨k, hk, rfl, hall, hx, hc, hd⟩ := hrel
    by_cases hlt : k < M
    · have hkl : k < L.length := by rw [← HM.out]; exact hlt
      obtain ⟨g, oo, rfl, d0, d1⟩ := (HI.out.ext hx) k hkl
      have hok := HK.out _ (List.getElem_mem hkl)
      obtain ⟨x, hxe⟩ : ∃ x, x = L[k].1 := ⟨_, rfl⟩
      obtain ⟨y, hye⟩ : ∃ y, y = L[k].2 := ⟨_, rfl⟩
      rw [← hxe] at d0 hok; rw [← hye] at d1 hok
      have HX := Lib.hid hxe
      have HY := Lib.hid hye
      clear hxe hye
      obtain ⟨o0, o1, o2, o3⟩ := hok
      have hc' : ∀ o, (wr.alloc o).cell? ⟨w.heap.size, 0, none⟩ = some (.int .i64 n) := fun o => ((Ext.refl wr).alloc o).cell hc
      have hd' : ∀ o, (wr.alloc o).cell? ⟨w.heap.size, 1, none⟩ = some (.slice (some ⟨g, oo, none⟩) M cap) := fun o => ((Ext.refl wr).alloc o).cell hd
      by_cases e0 : x < 0
      · skip
        have hf : Hid (validL n L = false) := Lib.hid (validL_bad hkl (by rw [← HX.out, ← HY.out]; unfold goodP; exact decide_eq_false (by omega)))
        clear hall
        go_wp2
        all_goals go_ret
        all_goals exact ⟨ret_bool hf.out.symm, hx.alloc _⟩
      by_cases e1 : n ≤ x
      · skip
        have hf : Hid (validL n L = false) := Lib.hid (validL_bad hkl (by rw [← HX.out, ← HY.out]; unfold goodP; exact decide_eq_false (by omega)))
        clear hall
        go_wp2
        all_goals go_ret
        all_goals exact ⟨ret_bool hf.out.symm, hx.alloc _⟩
      by_cases e2 : y < 0
      · skip
        have hf : Hid (validL n L = false) := Lib.hid (validL_bad hkl (by rw [← HX.out, ← HY.out]; unfold goodP; exact decide_eq_false (by omega)))
        clear hall
        go_wp2
        all_goals go_ret
        all_goals exact ⟨ret_bool hf.out.symm, hx.alloc _⟩
      by_cases e3 : n ≤ y
      · skip
        have hf : Hid (validL n L = false) := Lib.hid (validL_bad hkl (by rw [← HX.out, ← HY.out]; unfold goodP; exact decide_eq_false (by omega)))
        clear hall
        go_wp2
        all_goals go_ret
        all_goals exact ⟨ret_bool hf.out.symm, hx.alloc _⟩
      have hg : Hid (∀ j (hj : j < L.length), j < k + 1 → goodP n L[j] = true) := Lib.hid (fun j hj hjk => by
        by_cases e : j = k
        · subst e; rw [goodP_at, ← HX.out, ← HY.out]; unfold goodP; exact decide_eq_true (by omega)
        · exact hall.out j hj (by omega))
      clear hall
      go_wp2
      all_goals go_roundw
      all_goals first | exact ⟨k + 1, by omega, by go_num, hg, hx.alloc _, hc' _, hd' _⟩ | (simp [RowKit.intOf]; omega)
    · have hf : Hid (validL n L = true) := Lib.hid (by
        unfold validL; rw [decide_eq_true (by rw [← HM.out]; omega), Bool.true_and, List.all_eq_true]
        intro p hp
        obtain ⟨j, hj, rfl⟩ := List.getElem_of_mem hp
        exact hall.out j hj (by rw [← HM.out] at hj; omega))
      clear hall
      go_wp2
      go_ret
      exact ⟨ret_bool hf.out.symm, hx⟩
end Go.Proofs.Ytaipcpdncmnelaa.Tp

/- same, lists and has of the statements. -/
namespace Go.Proofs.Ytaipcpdncmnelaa.Tp
open Go.RowKit Go.Sort Go.Lib Fx

theorem ret_bool' {a b : Bool} (h : a = b) : Ending.returned (.bool a) = .returned (.bool b) := by rw [h]
theorem neq_facts {x k : Int} (h : x ≠ k) : (x == k) = false ∧ (x != k) = true := by
  have : (x == k) = false := by rw [beq_eq_false_iff_ne]; exact h
  exact ⟨this, by rw [bne, this]; rfl⟩
theorem eq_facts {x k : Int} (h : x = k) : (x == k) = true ∧ (x != k) = false := by
  have : (x == k) = true := by rw [beq_iff_eq]; exact h
  exact ⟨this, by rw [bne, this]; rfl⟩
theorem list_ext_at {α : Type} {L M : List α} (hl : L.length = M.length) (h : ∀ j (h1 : j < L.length) (h2 : j < M.length), L[j] = M[j]) : L = M := List.ext_getElem hl fun j h1 h2 => h j h1 h2
set_option maxHeartbeats 4000000 in
set_option maxRecDepth 100000 in
theorem same_any (a b : Option Addr) (L M : List Int) (ca cb : Nat) (w : World) (ha : IntIn w a L) (hb : IntIn w b M) (hL : L.length ≤ 4611686018427387904) (hM : M.length ≤ 4611686018427387904) :
    Calls Try.prog 15 #[.slice a L.length ca, .slice b M.length cb] w fun e w' => e = .returned (.bool (decide (L = M))) ∧ Ext w w' := by
  obtain ⟨P, hP⟩ : ∃ P, P = L.length := ⟨_, rfl⟩
  obtain ⟨Q, hQ⟩ : ∃ Q, Q = M.length := ⟨_, rfl⟩
  have HA := Lib.hid ha; have HB := Lib.hid hb
  rw [← hP] at hL ⊢
  rw [← hQ] at hM ⊢
  have HP := Lib.hid hP; have HQ := Lib.hid hQ
  clear ha hb hP hQ
  by_cases hpq : P = Q
  · subst hpq
    obtain ⟨f1, f2⟩ := eq_facts (x := (P : Int)) rfl
    go_enter Try.func15, Try.ntmps15
    go_wp2
    go_loopw [5] (fun i' wr => ∃ k : Nat, k ≤ P ∧ i' = .int .i64 k ∧ Hid (∀ j (h1 : j < L.length) (h2 : j < M.length), j < k → L[j] = M[j]) ∧ Ext w wr) (fun i' _ => P - (RowKit.intOf i').toNat)
    case atStart => exact ⟨0, by omega, rfl, Lib.hid (fun j _ _ h => absurd h (by omega)), Ext.refl _⟩
    case round =>
      obtain ⟨k, hk, rfl, hall, hx⟩ := hrel
      by_cases hlt : k < P
      · have h1 : k < L.length := by rw [← HP.out]; exact hlt
        have h2 : k < M.length := by rw [← HQ.out]; exact hlt
        obtain ⟨g, o, rfl, c0⟩ := (HA.out.ext hx) k h1
        obtain ⟨g2, o2, rfl, d0⟩ := (HB.out.ext hx) k h2
        obtain ⟨x, hxe⟩ : ∃ x, x = L[k] := ⟨_, rfl⟩
        obtain ⟨y, hye⟩ : ∃ y, y = M[k] := ⟨_, rfl⟩
        rw [← hxe] at c0; rw [← hye] at d0
        have HX := Lib.hid hxe
        have HY := Lib.hid hye
        clear hxe hye
        have b0 : (0 : Int) ≤ (k : Int) := by omega
        have b1 : (k : Int) < (P : Int) := by omega
        by_cases e : x = y
        · have hg : Hid (∀ j (h1 : j < L.length) (h2 : j < M.length), j < k + 1 → L[j] = M[j]) := Lib.hid (fun j h1 h2 hj => by
            by_cases e2 : j = k
            · subst e2; rw [← HX.out, ← HY.out]; exact e
            · exact hall.out j h1 h2 (by omega))
          obtain ⟨e1, e2⟩ := eq_facts e
          clear hall e
          go_wp2_with fail
          go_quiet (fail)
          go_wp2
          go_roundw
          case rel => exact ⟨k + 1, by omega, by go_num, hg, by first | exact hx.drewN _ | exact hx.drew⟩
          case measure => simp [RowKit.intOf]; omega
        · have hg : Hid (decide (L = M) = false) := Lib.hid (decide_eq_false (fun h => e (by rw [HX.out, HY.out]; subst h; rfl)))
          obtain ⟨e1, e2⟩ := neq_facts e
          clear hall
          go_wp2_with fail
          go_quiet (fail)
          go_wp2
          go_ret
          exact ⟨ret_bool' hg.out.symm, by first | exact hx.drewN _ | exact hx.drew⟩
      · have hg : Hid (decide (L = M) = true) := Lib.hid (decide_eq_true (list_ext_at (by rw [← HP.out, ← HQ.out]) fun j h1 h2 => hall.out j h1 h2 (by rw [← HP.out] at h1; omega)))
        clear hall
        go_wp2
        go_ret
        exact ⟨ret_bool' hg.out.symm, hx⟩
  · have hg : Hid (decide (L = M) = false) := Lib.hid (decide_eq_false (fun h => hpq (by rw [HP.out, HQ.out, h])))
    obtain ⟨f1, f2⟩ := neq_facts (x := (P : Int)) (k := (Q : Int)) (by omega)
    go_enter Try.func15, Try.ntmps15
    go_wp2
    go_ret
    exact ⟨ret_bool' hg.out.symm, Ext.refl _⟩
/-- Rows of numbers behind a slice. -/
def RowsIn (w : World) (a : Option Addr) (LL : List (List Int)) : Prop :=
  ∀ j (h : j < LL.length), ∃ g o ra rc, a = some ⟨g, o, none⟩ ∧ w.cell? ⟨g, o + j, none⟩ = some (.slice ra LL[j].length rc) ∧ IntIn w ra LL[j]
theorem RowsIn.ext {w w' : World} {a : Option Addr} {LL : List (List Int)} (h : RowsIn w a LL) (x : Ext w w') : RowsIn w' a LL := fun j hj => by
  obtain ⟨g, o, ra, rc, ha, h0, h1⟩ := h j hj
  exact ⟨g, o, ra, rc, ha, x.cell h0, h1.ext x⟩
set_option maxHeartbeats 4000000 in
set_option maxRecDepth 100000 in
theorem sameAll_any (a b : Option Addr) (L M : List (List Int)) (ca cb : Nat) (w : World) (ha : RowsIn w a L) (hb : RowsIn w b M) (hL : L.length ≤ 4611686018427387904) (hM : M.length ≤ 4611686018427387904)
    (kL : ∀ r ∈ L, r.length ≤ 4611686018427387904) (kM : ∀ r ∈ M, r.length ≤ 4611686018427387904) :
    Calls Try.prog 10 #[.slice a L.length ca, .slice b M.length cb] w fun e w' => e = .returned (.bool (decide (L = M))) ∧ Ext w w' := by
  obtain ⟨P, hP⟩ : ∃ P, P = L.length := ⟨_, rfl⟩
  obtain ⟨Q, hQ⟩ : ∃ Q, Q = M.length := ⟨_, rfl⟩
  have HA := Lib.hid ha; have HB := Lib.hid hb; have KL := Lib.hid kL; have KM := Lib.hid kM
  rw [← hP] at hL ⊢
  rw [← hQ] at hM ⊢
  have HP := Lib.hid hP; have HQ := Lib.hid hQ
  clear ha hb hP hQ kL kM
  by_cases hpq : P = Q
  · subst hpq
    obtain ⟨f1, f2⟩ := eq_facts (x := (P : Int)) rfl
    go_enter Try.func10, Try.ntmps10
    go_wp2
    go_loopw [5] (fun i' wr => ∃ k : Nat, k ≤ P ∧ i' = .int .i64 k ∧ Hid (∀ j (h1 : j < L.length) (h2 : j < M.length), j < k → L[j] = M[j]) ∧ Ext w wr) (fun i' _ => P - (RowKit.intOf i').toNat)
    case atStart => exact ⟨0, by omega, rfl, Lib.hid (fun j _ _ h => absurd h (by omega)), Ext.refl _⟩
    case round =>
      obtain ⟨k, hk, rfl, hall, hx⟩ := hrel
      by_cases hlt : k < P
      · have h1 : k < L.length := by rw [← HP.out]; exact hlt
        have h2 : k < M.length := by rw [← HQ.out]; exact hlt
        obtain ⟨g, o, ra, rc, rfl, c0, c1⟩ := (HA.out.ext hx) k h1
        obtain ⟨g2, o2, rb, rd, rfl, d0, d1⟩ := (HB.out.ext hx) k h2
        have hcall := fun w1 (x1 : Ext wr w1) => same_any ra rb L[k] M[k] rc rd w1 (c1.ext x1) (d1.ext x1) (KL.out _ (List.getElem_mem h1)) (KM.out _ (List.getElem_mem h2))
        obtain ⟨x, hxe⟩ : ∃ x, x = L[k] := ⟨_, rfl⟩
        obtain ⟨y, hye⟩ : ∃ y, y = M[k] := ⟨_, rfl⟩
        rw [← hxe] at c0 c1 hcall; rw [← hye] at d0 d1 hcall
        have HX := Lib.hid hxe
        have HY := Lib.hid hye
        have HC := Lib.hid hcall
        clear hxe hye hcall c1 d1
        have b0 : (0 : Int) ≤ (k : Int) := by omega
        have b1 : (k : Int) < (P : Int) := by omega
        by_cases e : x = y
        · have hg : Hid (∀ j (h1 : j < L.length) (h2 : j < M.length), j < k + 1 → L[j] = M[j]) := Lib.hid (fun j h1 h2 hj => by
            by_cases e2 : j = k
            · subst e2; rw [← HX.out, ← HY.out]; exact e
            · exact hall.out j h1 h2 (by omega))
          have HD := Lib.hid (decide_eq_true e)
          rw [HD.out] at HC
          clear hall e
          go_wp2_with fail
          go_region_with (go_at_call 15; refine (HC.out _ (by first | exact (Ext.refl _).drew | exact Ext.refl _)).mono ?_; rintro e w1 ⟨rfl, x1⟩)
          all_goals go_wp2
          all_goals go_roundw
          all_goals first | exact ⟨k + 1, by omega, by go_num, hg, hx.trans (((Ext.refl _).drew).trans x1)⟩ | (simp [RowKit.intOf]; omega)
        · have hg : Hid (decide (L = M) = false) := Lib.hid (decide_eq_false (fun h => e (by rw [HX.out, HY.out]; subst h; rfl)))
          have HD := Lib.hid (decide_eq_false e)
          rw [HD.out] at HC
          clear hall e
          go_wp2_with fail
          go_region_with (go_at_call 15; refine (HC.out _ (by first | exact (Ext.refl _).drew | exact Ext.refl _)).mono ?_; rintro e w1 ⟨rfl, x1⟩)
          all_goals go_wp2
          all_goals go_ret
          all_goals exact ⟨ret_bool' hg.out.symm, hx.trans (((Ext.refl _).drew).trans x1)⟩
      · have hg : Hid (decide (L = M) = true) := Lib.hid (decide_eq_true (list_ext_at (by rw [← HP.out, ← HQ.out]) fun j h1 h2 => hall.out j h1 h2 (by rw [← HP.out] at h1; omega)))
        clear hall
        go_wp2
        go_ret
        exact ⟨ret_bool' hg.out.symm, hx⟩
  · have hg : Hid (decide (L = M) = false) := Lib.hid (decide_eq_false (fun h => hpq (by rw [HP.out, HQ.out, h])))
    obtain ⟨f1, f2⟩ := neq_facts (x := (P : Int)) (k := (Q : Int)) (by omega)
    go_enter Try.func10, Try.ntmps10
    go_wp2
    go_ret
    exact ⟨ret_bool' hg.out.symm, Ext.refl _⟩
set_option maxHeartbeats 4000000 in
set_option maxRecDepth 100000 in
theorem has_any (a : Option Addr) (L : List Int) (ca : Nat) (v : Int) (w : World) (ha : IntIn w a L) (hL : L.length ≤ 4611686018427387904) :
    Calls Try.prog 26 #[.slice a L.length ca, .int .i64 v] w fun e w' => e = .returned (.bool (L.contains v)) ∧ Ext w w' := by
  obtain ⟨P, hP⟩ : ∃ P, P = L.length := ⟨_, rfl⟩
  have HA := Lib.hid ha
  rw [← hP] at hL ⊢
  have HP := Lib.hid hP
  clear ha hP
  go_enter Try.func26, Try.ntmps26
  go_wp2
  go_loopw [5] (fun i' wr => ∃ k : Nat, k ≤ P ∧ i' = .int .i64 k ∧ Hid (∀ j (h1 : j < L.length), j < k → L[j] ≠ v) ∧ Ext w wr) (fun i' _ => P - (RowKit.intOf i').toNat)
  case atStart => exact ⟨0, by omega, rfl, Lib.hid (fun j _ h => absurd h (by omega)), Ext.refl _⟩
  case round =>
    obtain ⟨k, hk, rfl, hall, hx⟩ := hrel
    by_cases hlt : k < P
    · have h1 : k < L.length := by rw [← HP.out]; exact hlt
      obtain ⟨g, o, rfl, c0⟩ := (HA.out.ext hx) k h1
      obtain ⟨x, hxe⟩ : ∃ x, x = L[k] := ⟨_, rfl⟩
      rw [← hxe] at c0
      have HX := Lib.hid hxe
      clear hxe
      by_cases e : x = v
      · have hg : Hid (L.contains v = true) := Lib.hid (by rw [List.contains_iff_mem, ← e, HX.out]; exact List.getElem_mem h1)
        obtain ⟨e1, e2⟩ := eq_facts e
        clear hall e
        go_wp2
        go_ret
        exact ⟨ret_bool' hg.out.symm, hx⟩
      · have hg : Hid (∀ j (h1 : j < L.length), j < k + 1 → L[j] ≠ v) := Lib.hid (fun j h1 hj => by
          by_cases e2 : j = k
          · subst e2; rw [← HX.out]; exact e
          · exact hall.out j h1 (by omega))
        obtain ⟨e1, e2⟩ := neq_facts e
        clear hall e
        go_wp2
        go_roundw
        case rel => exact ⟨k + 1, by omega, by go_num, hg, hx⟩
        case measure => simp [RowKit.intOf]; omega
    · have hg : Hid (L.contains v = false) := Lib.hid (by
        rw [Bool.eq_false_iff]; intro h
        rw [List.contains_iff_mem] at h
        obtain ⟨j, hj, e⟩ := List.getElem_of_mem h
        exact hall.out j hj (by rw [← HP.out] at hj; omega) e)
      clear hall
      go_wp2
      go_ret
      exact ⟨ret_bool' hg.out.symm, hx⟩
end Go.Proofs.Ytaipcpdncmnelaa.Tp

/- Undirected reach in plain Lean, and the document's labels. -/
namespace Go.Proofs.Ytaipcpdncmnelaa.Pt
open Tp

/-- v is joined with u by arcs in either direction, arc e and vertex x left out. -/
inductive Jn (A : Arcs) (e x : Int) : Nat → Nat → Prop
  | refl (v : Nat) : Jn A e x v v
  | fwd {u v w i : Nat} : Jn A e x u v → A[i]? = some (v, w) → (i : Int) ≠ e → (v : Int) ≠ x → (w : Int) ≠ x → Jn A e x u w
  | bwd {u v w i : Nat} : Jn A e x u v → A[i]? = some (w, v) → (i : Int) ≠ e → (v : Int) ≠ x → (w : Int) ≠ x → Jn A e x u w
theorem Jn.trans {A : Arcs} {e x : Int} {u v w : Nat} (h : Jn A e x u v) (k : Jn A e x v w) : Jn A e x u w := by
  induction k with
  | refl => exact h
  | fwd _ a b c d ih => exact .fwd ih a b c d
  | bwd _ a b c d ih => exact .bwd ih a b c d
theorem Jn.symm {A : Arcs} {e x : Int} {u v : Nat} (h : Jn A e x u v) : Jn A e x v u := by
  induction h with
  | refl => exact .refl _
  | fwd _ a b c d ih => exact Jn.trans (.bwd (.refl _) a b d c) ih
  | bwd _ a b c d ih => exact Jn.trans (.fwd (.refl _) a b d c) ih
/-- One arc of the document's round: the labels, and whether they have changed. -/
def labS (e x : Int) (i : Nat) (p : Nat × Nat) (s : List Int × Bool) : List Int × Bool :=
  if (i : Int) ≠ e ∧ (p.1 : Int) ≠ x ∧ (p.2 : Int) ≠ x ∧ s.1.getD p.1 0 ≠ s.1.getD p.2 0 then
    (let m := min (s.1.getD p.1 0) (s.1.getD p.2 0); ((s.1.set p.1 m).set p.2 m, true))
  else s
def labR (e x : Int) : Nat → Arcs → List Int × Bool → List Int × Bool
  | _, [], s => s
  | i, p :: A, s => labR e x (i + 1) A (labS e x i p s)
def labN (A : Arcs) (e x : Int) : Nat → List Int → List Int
  | 0, l => l
  | n + 1, l => let s := labR e x 0 A (l, false); if s.2 = true then labN A e x n s.1 else s.1
def lab0 (N : Nat) (x : Int) : List Int := (List.range N).map (fun v : Nat => if (v : Int) = x then -1 else (v : Int))
/-- The document's Labels. -/
def labT (N : Nat) (A : Arcs) (e x : Int) : List Int := labN A e x N (lab0 N x)
end Go.Proofs.Ytaipcpdncmnelaa.Pt
