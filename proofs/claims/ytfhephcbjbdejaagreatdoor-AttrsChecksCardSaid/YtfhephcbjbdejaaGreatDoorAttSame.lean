/- What the law's comparisons of lists return. -/
import Derived.Test.YtfhephcbjbdejaaGreatDoorAttPorts
namespace Go.Proofs.YtfhephcbjbdejaaGreatDoor.At
open Go.RowKit Go.Sort Go.Lib Go.Shelf Fx Lx

set_option maxHeartbeats 2000000 in
set_option maxRecDepth 100000 in
theorem portsEq_any (a b : Option Addr) (La Lb : List Prt) (ca cb : Nat) (w : World) (ha : PrtIn w a La) (hb : PrtIn w b Lb) (hA : La.length ≤ 9223372036854775807) (_hB : Lb.length ≤ 9223372036854775807) :
    Calls Tryz.prog 20 #[.slice a La.length ca, .slice b Lb.length cb] w fun e w' => e = .returned (.bool (decide (La = Lb))) ∧ Ext w w' := by
  by_cases hl : La.length = Lb.length
  · rw [← hl]
    obtain ⟨n, hn⟩ : ∃ n, n = La.length := ⟨_, rfl⟩
    rw [← hn]
    have HA := Lib.hid ha; have HB := Lib.hid hb; have HN := Lib.hid hn; have HL := Lib.hid hl
    have hm' : n ≤ 9223372036854775807 := by omega
    clear ha hb hn hl hA _hB
    go_enter Tryz.func20, Tryz.ntmps20
    go_wp2_with fail
    go_loopw [5] (fun i' wr => ∃ k : Nat, k ≤ n ∧ i' = .int .i64 k ∧ Hid (La.take k = Lb.take k) ∧ Ext w wr) (fun i' _ => n - (RowKit.intOf i').toNat)
    case atStart => exact ⟨0, by omega, rfl, Lib.hid rfl, Ext.refl _⟩
    case round =>
      obtain ⟨k, hk, rfl, ht, hx⟩ := hrel
      by_cases hlt : k < n
      · have hka : k < La.length := by rw [← HN.out]; exact hlt
        have hkb : k < Lb.length := by rw [← HL.out, ← HN.out]; exact hlt
        obtain ⟨g1, o1, rfl, p0, p1⟩ := (HA.out.ext hx) k hka
        obtain ⟨g2, o2, rfl, q0, q1⟩ := (HB.out.ext hx) k hkb
        have hlt' : (k : Int) < (n : Int) := by omega
        obtain ⟨tA, hA⟩ : ∃ t, La[k] = t := ⟨_, rfl⟩
        obtain ⟨tB, hB⟩ : ∃ t, Lb[k] = t := ⟨_, rfl⟩
        rw [hA] at p0 p1
        rw [hB] at q0 q1
        obtain ⟨n1, d1⟩ := tA
        obtain ⟨n2, d2⟩ := tB
        have HTA := Lib.hid hA; have HTB := Lib.hid hB
        clear hA hB
        by_cases heq : ((n1, d1) : Prt) = (n2, d2)
        · injection heq with e1 e2
          subst e1; subst e2
          have ht' : Hid (La.take (k + 1) = Lb.take (k + 1)) := Lib.hid (by
            rw [List.take_succ_eq_append_getElem hka, List.take_succ_eq_append_getElem hkb, ht.out, HTA.out, HTB.out])
          clear ht HTA HTB
          go_wp2
          go_region
          all_goals
            go_wp2
            go_roundw
            case rel => exact ⟨k + 1, by omega, by go_num, ht', hx.drew⟩
            case measure => simp [RowKit.intOf]; omega
        · have hne : Hid (decide (La = Lb) = false) := Lib.hid (decide_eq_false (fun e => by
            have h1 := HTA.out; have h2 := HTB.out
            subst e
            exact heq (h1.symm.trans h2)))
          clear ht HTA HTB
          by_cases e1 : n1 = n2
          · subst e1
            have e2 : ¬ d1 = d2 := fun e => heq (by rw [e])
            obtain ⟨f1, _⟩ := ne_facts (x := d1) (k := d2) e2
            clear heq
            go_wp2
            go_region
            all_goals
              go_wp2
              go_ret
              exact ⟨ret_bool hne.out.symm, hx.drew⟩
          · have f1 : (n1.toList == n2.toList) = false := by rw [beqs]; exact decide_eq_false e1
            clear heq e1
            go_wp2
            go_region
            all_goals
              go_wp2
              go_ret
              exact ⟨ret_bool hne.out.symm, hx.drew⟩
      · have he : Hid (decide (La = Lb) = true) := Lib.hid (decide_eq_true (by
          have h1 := ht.out
          rw [List.take_of_length_le (by rw [← HN.out]; omega), List.take_of_length_le (by rw [← HL.out, ← HN.out]; omega)] at h1
          exact h1))
        clear ht
        go_wp2
        go_ret
        exact ⟨ret_bool he.out.symm, hx⟩
  · have hne : Hid (decide (La = Lb) = false) := Lib.hid (decide_eq_false (fun e => hl (by rw [e])))
    obtain ⟨n, hn⟩ : ∃ n, n = La.length := ⟨_, rfl⟩
    obtain ⟨m, hm⟩ : ∃ m, m = Lb.length := ⟨_, rfl⟩
    rw [← hn] at hl hA ⊢
    rw [← hm] at hl _hB ⊢
    obtain ⟨f1, f2⟩ := ne_facts (x := (n : Int)) (k := (m : Int)) (by omega)
    clear ha hb hn hm hl
    go_enter Tryz.func20, Tryz.ntmps20
    go_wp2
    go_ret
    exact ⟨ret_bool hne.out.symm, Ext.refl _⟩
set_option maxHeartbeats 2000000 in
set_option maxRecDepth 100000 in
theorem sameEq_any (a b : Option Addr) (La Lb : List Atr) (ca cb : Nat) (w : World) (ha : AtrIn w a La) (hb : AtrIn w b Lb) (hA : La.length ≤ 9223372036854775807) (_hB : Lb.length ≤ 9223372036854775807) :
    Calls Tryz.prog 13 #[.slice a La.length ca, .slice b Lb.length cb] w fun e w' => e = .returned (.bool (decide (La = Lb))) ∧ Ext w w' := by
  by_cases hl : La.length = Lb.length
  · rw [← hl]
    obtain ⟨n, hn⟩ : ∃ n, n = La.length := ⟨_, rfl⟩
    rw [← hn]
    have HA := Lib.hid ha; have HB := Lib.hid hb; have HN := Lib.hid hn; have HL := Lib.hid hl
    have hm' : n ≤ 9223372036854775807 := by omega
    clear ha hb hn hl hA _hB
    go_enter Tryz.func13, Tryz.ntmps13
    go_wp2_with fail
    go_loopw [5] (fun i' wr => ∃ k : Nat, k ≤ n ∧ i' = .int .i64 k ∧ Hid (La.take k = Lb.take k) ∧ Ext w wr) (fun i' _ => n - (RowKit.intOf i').toNat)
    case atStart => exact ⟨0, by omega, rfl, Lib.hid rfl, Ext.refl _⟩
    case round =>
      obtain ⟨k, hk, rfl, ht, hx⟩ := hrel
      by_cases hlt : k < n
      · have hka : k < La.length := by rw [← HN.out]; exact hlt
        have hkb : k < Lb.length := by rw [← HL.out, ← HN.out]; exact hlt
        obtain ⟨g1, o1, rfl, p0, p1⟩ := (HA.out.ext hx) k hka
        obtain ⟨g2, o2, rfl, q0, q1⟩ := (HB.out.ext hx) k hkb
        have hlt' : (k : Int) < (n : Int) := by omega
        obtain ⟨tA, hA⟩ : ∃ t, La[k] = t := ⟨_, rfl⟩
        obtain ⟨tB, hB⟩ : ∃ t, Lb[k] = t := ⟨_, rfl⟩
        rw [hA] at p0 p1
        rw [hB] at q0 q1
        obtain ⟨n1, d1⟩ := tA
        obtain ⟨n2, d2⟩ := tB
        have HTA := Lib.hid hA; have HTB := Lib.hid hB
        clear hA hB
        by_cases heq : ((n1, d1) : Atr) = (n2, d2)
        · injection heq with e1 e2
          subst e1; subst e2
          have ht' : Hid (La.take (k + 1) = Lb.take (k + 1)) := Lib.hid (by
            rw [List.take_succ_eq_append_getElem hka, List.take_succ_eq_append_getElem hkb, ht.out, HTA.out, HTB.out])
          clear ht HTA HTB
          go_wp2
          go_region
          all_goals
            go_wp2
            go_roundw
            case rel => exact ⟨k + 1, by omega, by go_num, ht', hx.drew⟩
            case measure => simp [RowKit.intOf]; omega
        · have hne : Hid (decide (La = Lb) = false) := Lib.hid (decide_eq_false (fun e => by
            have h1 := HTA.out; have h2 := HTB.out
            subst e
            exact heq (h1.symm.trans h2)))
          clear ht HTA HTB
          by_cases e1 : n1 = n2
          · subst e1
            have e2 : ¬ d1 = d2 := fun e => heq (by rw [e])
            have f1 : (d1.toList == d2.toList) = false := by rw [beqs]; exact decide_eq_false e2
            clear heq
            go_wp2
            go_region
            all_goals
              go_wp2
              go_ret
              exact ⟨ret_bool hne.out.symm, hx.drew⟩
          · have f1 : (n1.toList == n2.toList) = false := by rw [beqs]; exact decide_eq_false e1
            clear heq e1
            go_wp2
            go_region
            all_goals
              go_wp2
              go_ret
              exact ⟨ret_bool hne.out.symm, hx.drew⟩
      · have he : Hid (decide (La = Lb) = true) := Lib.hid (decide_eq_true (by
          have h1 := ht.out
          rw [List.take_of_length_le (by rw [← HN.out]; omega), List.take_of_length_le (by rw [← HL.out, ← HN.out]; omega)] at h1
          exact h1))
        clear ht
        go_wp2
        go_ret
        exact ⟨ret_bool he.out.symm, hx⟩
  · have hne : Hid (decide (La = Lb) = false) := Lib.hid (decide_eq_false (fun e => hl (by rw [e])))
    obtain ⟨n, hn⟩ : ∃ n, n = La.length := ⟨_, rfl⟩
    obtain ⟨m, hm⟩ : ∃ m, m = Lb.length := ⟨_, rfl⟩
    rw [← hn] at hl hA ⊢
    rw [← hm] at hl _hB ⊢
    obtain ⟨f1, f2⟩ := ne_facts (x := (n : Int)) (k := (m : Int)) (by omega)
    clear ha hb hn hm hl
    go_enter Tryz.func13, Tryz.ntmps13
    go_wp2
    go_ret
    exact ⟨ret_bool hne.out.symm, Ext.refl _⟩
end Go.Proofs.YtfhephcbjbdejaaGreatDoor.At
