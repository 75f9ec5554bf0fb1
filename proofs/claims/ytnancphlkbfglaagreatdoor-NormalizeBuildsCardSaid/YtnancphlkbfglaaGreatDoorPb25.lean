/- Packed texts: NorCheck, TreRun, TreVisC -/
import Derived.Test.YtnancphlkbfglaaGreatDoorPb14
import Derived.Test.YtnancphlkbfglaaGreatDoorPb17
import Derived.Test.YtnancphlkbfglaaGreatDoorPb08
import Derived.Test.YtnancphlkbfglaaGreatDoorPb24
import Derived.Test.YtnancphlkbfglaaGreatDoorPb16
import Derived.Test.YtnancphlkbfglaaGreatDoorPb18
import Derived.Test.YtnancphlkbfglaaGreatDoorPb19
set_option linter.unusedVariables false
set_option linter.unusedSimpArgs false
namespace Go.Proofs.YtnancphlkbfglaaGreatDoor.Nm
open Go.RowKit Go.Sort Go.Lib Go.Shelf Fx Lx Tr At
theorem chkGo_none (kd : Int) (q : Two) (r : List Two) : chkGo kd none (q :: r) = if checkV kd q.1 q.2 ≠ 0 then checkV kd q.1 q.2 else chkGo kd none r := rfl
theorem chkGo_some (kd : Int) (nm : ByteArray) (q : Two) (r : List Two) : chkGo kd (some nm) (q :: r) = if checkV kd nm q.2 ≠ 0 then checkV kd nm q.2 else chkGo kd (some nm) r := rfl
set_option maxHeartbeats 4000000 in
set_option maxRecDepth 100000 in
theorem chk_1 (nm : ByteArray) (al : List Two) (r a b : Option Addr) (R B rc ac bc : Nat) (w : World) (ha : AtrIn w a al) (hs : ∀ q ∈ al, q.1.size ≤ 64 ∧ q.2.size ≤ 64) (hL : al.length ≤ 1000) (he : Env w) :
    Calls Tryz.prog 55 #[.agg #[.int .i64 1, .string nm, .slice r R rc, .slice a al.length ac, .slice b B bc]] w fun e w' => e = .returned (.int .i64 (chkGo 1 none al)) ∧ Ext w w' := by
  obtain ⟨N, hN⟩ : ∃ N, N = al.length := ⟨_, rfl⟩
  obtain ⟨V, hV⟩ : ∃ V, V = chkGo 1 none al := ⟨_, rfl⟩
  have H0 : Hid (V = chkGo 1 none (al.drop 0)) := Lib.hid (by rw [List.drop_zero]; exact hV)
  rw [← hV]
  rw [← hN] at hL ⊢
  have HN := Lib.hid hN; have HI := Lib.hid ha; have HS := Lib.hid hs; have HE := Lib.hid he
  clear hN ha hs he hV
  go_enter Tryz.func55, Tryz.ntmps55
  go_wp2_with fail
  obtain ⟨w1, hw1⟩ : ∃ w1, w1 = w.alloc (.cells #[.int .i64 1, .string nm, .slice r R rc, .slice a N ac, .slice b B bc] 56) := ⟨_, rfl⟩
  have X1 : Hid (Ext (w.alloc (.cells #[.int .i64 1, .string nm, .slice r R rc, .slice a N ac, .slice b B bc] 56)) w1) := Lib.hid (by rw [hw1]; exact Ext.refl _)
  have XW : Hid (Ext w w1) := Lib.hid (((Ext.refl _).alloc _).trans X1.out)
  rw [← hw1]
  clear hw1
  go_loopw [25] (fun i' wr => ∃ k : Nat, k ≤ N ∧ i' = .int .i64 k ∧ Hid (V = chkGo 1 none (al.drop k)) ∧ Ext w1 wr) (fun i' _ => N - (RowKit.intOf i').toNat)
  case atStart => exact ⟨0, Nat.zero_le _, rfl, H0, Ext.refl _⟩
  case round =>
    clear H0
    obtain ⟨k, hk, rfl, hv, hx⟩ := hrel
    by_cases hlt : k < N
    · have hkl : k < al.length := by rw [← HN.out]; exact hlt
      obtain ⟨g, o, rfl, c0, c1⟩ := (HI.out.ext (XW.out.trans hx)) k hkl
      have hv1 := hv.out
      rw [List.drop_eq_getElem_cons hkl, chkGo_none] at hv1
      obtain ⟨hs1, hs2⟩ := HS.out _ (List.getElem_mem hkl)
      obtain ⟨q1, hq1⟩ : ∃ q, q = al[k].1 := ⟨_, rfl⟩
      obtain ⟨q2, hq2⟩ : ∃ q, q = al[k].2 := ⟨_, rfl⟩
      rw [← hq1] at c0 hs1 hv1; rw [← hq2] at c1 hs2 hv1
      have hch := fun w5 (x : Ext w w5) => At.check_any 1 q1 q2 w5 (by unfold maxLen; omega) (by omega) (HE.out.ext x)
      obtain ⟨c, hc⟩ : ∃ c, c = checkV 1 q1 q2 := ⟨_, rfl⟩
      rw [← hc] at hv1 hch
      have HV := Lib.hid hv1; have HCH := Lib.hid hch; have hxw := XW.out.trans hx
      clear hv hv1 hq1 hq2 hch hc hs1 hs2
      by_cases h0 : c = 0
      · obtain ⟨f1, f2⟩ := efacts 0
        subst h0
        have hr : Hid (V = chkGo 1 none (al.drop (k + 1))) := Lib.hid (by rw [HV.out]; simp)
        go_wp2_with (go_at_call 100; refine (HCH.out _ (hxw.alloc _)).mono ?_; rintro e w2 ⟨rfl, x2⟩)
        go_roundw
        case rel => exact ⟨k + 1, by omega, by go_num, hr, (hx.alloc _).trans x2⟩
        case measure => simp [RowKit.intOf]; omega
      · obtain ⟨f1, f2⟩ := nfacts h0
        have hr : Hid (V = c) := Lib.hid (by rw [HV.out, if_pos h0])
        clear h0
        go_wp2_with (go_at_call 100; refine (HCH.out _ (hxw.alloc _)).mono ?_; rintro e w2 ⟨rfl, x2⟩)
        go_ret
        exact ⟨ret_i hr.out.symm, (hxw.alloc _).trans x2⟩
    · have hr : Hid (V = 0) := Lib.hid (by rw [hv.out, List.drop_eq_nil_of_le (by rw [← HN.out]; omega)]; rfl)
      clear hv
      go_wp2
      go_ret
      exact ⟨ret_i hr.out.symm, XW.out.trans hx⟩
set_option maxHeartbeats 4000000 in
set_option maxRecDepth 100000 in
theorem chk_2 (nm : ByteArray) (al : List Two) (r a b : Option Addr) (R B rc ac bc : Nat) (w : World) (ha : AtrIn w a al) (hs : ∀ q ∈ al, q.1.size ≤ 64 ∧ q.2.size ≤ 64) (hL : al.length ≤ 1000) (he : Env w) :
    Calls Tryz.prog 55 #[.agg #[.int .i64 2, .string nm, .slice r R rc, .slice a al.length ac, .slice b B bc]] w fun e w' => e = .returned (.int .i64 (chkGo 2 none al)) ∧ Ext w w' := by
  obtain ⟨N, hN⟩ : ∃ N, N = al.length := ⟨_, rfl⟩
  obtain ⟨V, hV⟩ : ∃ V, V = chkGo 2 none al := ⟨_, rfl⟩
  have H0 : Hid (V = chkGo 2 none (al.drop 0)) := Lib.hid (by rw [List.drop_zero]; exact hV)
  rw [← hV]
  rw [← hN] at hL ⊢
  have HN := Lib.hid hN; have HI := Lib.hid ha; have HS := Lib.hid hs; have HE := Lib.hid he
  clear hN ha hs he hV
  go_enter Tryz.func55, Tryz.ntmps55
  go_wp2_with fail
  obtain ⟨w1, hw1⟩ : ∃ w1, w1 = w.alloc (.cells #[.int .i64 2, .string nm, .slice r R rc, .slice a N ac, .slice b B bc] 56) := ⟨_, rfl⟩
  have X1 : Hid (Ext (w.alloc (.cells #[.int .i64 2, .string nm, .slice r R rc, .slice a N ac, .slice b B bc] 56)) w1) := Lib.hid (by rw [hw1]; exact Ext.refl _)
  have XW : Hid (Ext w w1) := Lib.hid (((Ext.refl _).alloc _).trans X1.out)
  rw [← hw1]
  clear hw1
  go_loopw [25] (fun i' wr => ∃ k : Nat, k ≤ N ∧ i' = .int .i64 k ∧ Hid (V = chkGo 2 none (al.drop k)) ∧ Ext w1 wr) (fun i' _ => N - (RowKit.intOf i').toNat)
  case atStart => exact ⟨0, Nat.zero_le _, rfl, H0, Ext.refl _⟩
  case round =>
    clear H0
    obtain ⟨k, hk, rfl, hv, hx⟩ := hrel
    by_cases hlt : k < N
    · have hkl : k < al.length := by rw [← HN.out]; exact hlt
      obtain ⟨g, o, rfl, c0, c1⟩ := (HI.out.ext (XW.out.trans hx)) k hkl
      have hv1 := hv.out
      rw [List.drop_eq_getElem_cons hkl, chkGo_none] at hv1
      obtain ⟨hs1, hs2⟩ := HS.out _ (List.getElem_mem hkl)
      obtain ⟨q1, hq1⟩ : ∃ q, q = al[k].1 := ⟨_, rfl⟩
      obtain ⟨q2, hq2⟩ : ∃ q, q = al[k].2 := ⟨_, rfl⟩
      rw [← hq1] at c0 hs1 hv1; rw [← hq2] at c1 hs2 hv1
      have hch := fun w5 (x : Ext w w5) => At.check_any 2 q1 q2 w5 (by unfold maxLen; omega) (by omega) (HE.out.ext x)
      obtain ⟨c, hc⟩ : ∃ c, c = checkV 2 q1 q2 := ⟨_, rfl⟩
      rw [← hc] at hv1 hch
      have HV := Lib.hid hv1; have HCH := Lib.hid hch; have hxw := XW.out.trans hx
      clear hv hv1 hq1 hq2 hch hc hs1 hs2
      by_cases h0 : c = 0
      · obtain ⟨f1, f2⟩ := efacts 0
        subst h0
        have hr : Hid (V = chkGo 2 none (al.drop (k + 1))) := Lib.hid (by rw [HV.out]; simp)
        go_wp2_with (go_at_call 100; refine (HCH.out _ (hxw.alloc _)).mono ?_; rintro e w2 ⟨rfl, x2⟩)
        go_roundw
        case rel => exact ⟨k + 1, by omega, by go_num, hr, (hx.alloc _).trans x2⟩
        case measure => simp [RowKit.intOf]; omega
      · obtain ⟨f1, f2⟩ := nfacts h0
        have hr : Hid (V = c) := Lib.hid (by rw [HV.out, if_pos h0])
        clear h0
        go_wp2_with (go_at_call 100; refine (HCH.out _ (hxw.alloc _)).mono ?_; rintro e w2 ⟨rfl, x2⟩)
        go_ret
        exact ⟨ret_i hr.out.symm, (hxw.alloc _).trans x2⟩
    · have hr : Hid (V = 0) := Lib.hid (by rw [hv.out, List.drop_eq_nil_of_le (by rw [← HN.out]; omega)]; rfl)
      clear hv
      go_wp2
      go_ret
      exact ⟨ret_i hr.out.symm, XW.out.trans hx⟩
set_option maxHeartbeats 4000000 in
set_option maxRecDepth 100000 in
theorem chk_3n (nm : ByteArray) (al : List Two) (r a b : Option Addr) (R B rc ac bc : Nat) (w : World) (ha : AtrIn w a al) (hs : ∀ q ∈ al, q.1.size ≤ 64 ∧ q.2.size ≤ 64) (hL : al.length ≤ 1000) (he : Env w) (hnm : nm.data.toList = nodeW) :
    Calls Tryz.prog 55 #[.agg #[.int .i64 3, .string nm, .slice r R rc, .slice a al.length ac, .slice b B bc]] w fun e w' => e = .returned (.int .i64 (chkGo 1 none al)) ∧ Ext w w' := by
  obtain ⟨N, hN⟩ : ∃ N, N = al.length := ⟨_, rfl⟩
  obtain ⟨V, hV⟩ : ∃ V, V = chkGo 1 none al := ⟨_, rfl⟩
  have H0 : Hid (V = chkGo 1 none (al.drop 0)) := Lib.hid (by rw [List.drop_zero]; exact hV)
  rw [← hV]
  rw [← hN] at hL ⊢
  have HN := Lib.hid hN; have HI := Lib.hid ha; have HS := Lib.hid hs; have HE := Lib.hid he
  clear hN ha hs he hV
  have n1 := litEq nm [110, 111, 100, 101]
  rw [decide_eq_true (show nm.data.toList = [110, 111, 100, 101] from hnm)] at n1
  clear hnm
  go_enter Tryz.func55, Tryz.ntmps55
  go_wp2_with fail
  obtain ⟨w1, hw1⟩ : ∃ w1, w1 = w.alloc (.cells #[.int .i64 3, .string nm, .slice r R rc, .slice a N ac, .slice b B bc] 56) := ⟨_, rfl⟩
  have X1 : Hid (Ext (w.alloc (.cells #[.int .i64 3, .string nm, .slice r R rc, .slice a N ac, .slice b B bc] 56)) w1) := Lib.hid (by rw [hw1]; exact Ext.refl _)
  have XW : Hid (Ext w w1) := Lib.hid (((Ext.refl _).alloc _).trans X1.out)
  rw [← hw1]
  clear hw1
  go_loopw [25] (fun i' wr => ∃ k : Nat, k ≤ N ∧ i' = .int .i64 k ∧ Hid (V = chkGo 1 none (al.drop k)) ∧ Ext w1 wr) (fun i' _ => N - (RowKit.intOf i').toNat)
  case atStart => exact ⟨0, Nat.zero_le _, rfl, H0, Ext.refl _⟩
  case round =>
    clear H0
    obtain ⟨k, hk, rfl, hv, hx⟩ := hrel
    by_cases hlt : k < N
    · have hkl : k < al.length := by rw [← HN.out]; exact hlt
      obtain ⟨g, o, rfl, c0, c1⟩ := (HI.out.ext (XW.out.trans hx)) k hkl
      have hv1 := hv.out
      rw [List.drop_eq_getElem_cons hkl, chkGo_none] at hv1
      obtain ⟨hs1, hs2⟩ := HS.out _ (List.getElem_mem hkl)
      obtain ⟨q1, hq1⟩ : ∃ q, q = al[k].1 := ⟨_, rfl⟩
      obtain ⟨q2, hq2⟩ : ∃ q, q = al[k].2 := ⟨_, rfl⟩
      rw [← hq1] at c0 hs1 hv1; rw [← hq2] at c1 hs2 hv1
      have hch := fun w5 (x : Ext w w5) => At.check_any 1 q1 q2 w5 (by unfold maxLen; omega) (by omega) (HE.out.ext x)
      obtain ⟨c, hc⟩ : ∃ c, c = checkV 1 q1 q2 := ⟨_, rfl⟩
      rw [← hc] at hv1 hch
      have HV := Lib.hid hv1; have HCH := Lib.hid hch; have hxw := XW.out.trans hx
      clear hv hv1 hq1 hq2 hch hc hs1 hs2
      by_cases h0 : c = 0
      · obtain ⟨f1, f2⟩ := efacts 0
        subst h0
        have hr : Hid (V = chkGo 1 none (al.drop (k + 1))) := Lib.hid (by rw [HV.out]; simp)
        go_wp2_with (go_at_call 100; refine (HCH.out _ (hxw.alloc _)).mono ?_; rintro e w2 ⟨rfl, x2⟩)
        go_roundw
        case rel => exact ⟨k + 1, by omega, by go_num, hr, (hx.alloc _).trans x2⟩
        case measure => simp [RowKit.intOf]; omega
      · obtain ⟨f1, f2⟩ := nfacts h0
        have hr : Hid (V = c) := Lib.hid (by rw [HV.out, if_pos h0])
        clear h0
        go_wp2_with (go_at_call 100; refine (HCH.out _ (hxw.alloc _)).mono ?_; rintro e w2 ⟨rfl, x2⟩)
        go_ret
        exact ⟨ret_i hr.out.symm, (hxw.alloc _).trans x2⟩
    · have hr : Hid (V = 0) := Lib.hid (by rw [hv.out, List.drop_eq_nil_of_le (by rw [← HN.out]; omega)]; rfl)
      clear hv
      go_wp2
      go_ret
      exact ⟨ret_i hr.out.symm, XW.out.trans hx⟩
set_option maxHeartbeats 4000000 in
set_option maxRecDepth 100000 in
theorem chk_3e (nm : ByteArray) (al : List Two) (r a b : Option Addr) (R B rc ac bc : Nat) (w : World) (ha : AtrIn w a al) (hs : ∀ q ∈ al, q.1.size ≤ 64 ∧ q.2.size ≤ 64) (hL : al.length ≤ 1000) (he : Env w) (hnm : nm.data.toList ≠ nodeW) :
    Calls Tryz.prog 55 #[.agg #[.int .i64 3, .string nm, .slice r R rc, .slice a al.length ac, .slice b B bc]] w fun e w' => e = .returned (.int .i64 (chkGo 2 none al)) ∧ Ext w w' := by
  obtain ⟨N, hN⟩ : ∃ N, N = al.length := ⟨_, rfl⟩
  obtain ⟨V, hV⟩ : ∃ V, V = chkGo 2 none al := ⟨_, rfl⟩
  have H0 : Hid (V = chkGo 2 none (al.drop 0)) := Lib.hid (by rw [List.drop_zero]; exact hV)
  rw [← hV]
  rw [← hN] at hL ⊢
  have HN := Lib.hid hN; have HI := Lib.hid ha; have HS := Lib.hid hs; have HE := Lib.hid he
  clear hN ha hs he hV
  have n1 := litEq nm [110, 111, 100, 101]
  rw [decide_eq_false (show ¬ nm.data.toList = [110, 111, 100, 101] from hnm)] at n1
  clear hnm
  go_enter Tryz.func55, Tryz.ntmps55
  go_wp2_with fail
  obtain ⟨w1, hw1⟩ : ∃ w1, w1 = w.alloc (.cells #[.int .i64 3, .string nm, .slice r R rc, .slice a N ac, .slice b B bc] 56) := ⟨_, rfl⟩
  have X1 : Hid (Ext (w.alloc (.cells #[.int .i64 3, .string nm, .slice r R rc, .slice a N ac, .slice b B bc] 56)) w1) := Lib.hid (by rw [hw1]; exact Ext.refl _)
  have XW : Hid (Ext w w1) := Lib.hid (((Ext.refl _).alloc _).trans X1.out)
  rw [← hw1]
  clear hw1
  go_loopw [25] (fun i' wr => ∃ k : Nat, k ≤ N ∧ i' = .int .i64 k ∧ Hid (V = chkGo 2 none (al.drop k)) ∧ Ext w1 wr) (fun i' _ => N - (RowKit.intOf i').toNat)
  case atStart => exact ⟨0, Nat.zero_le _, rfl, H0, Ext.refl _⟩
  case round =>
    clear H0
    obtain ⟨k, hk, rfl, hv, hx⟩ := hrel
    by_cases hlt : k < N
    · have hkl : k < al.length := by rw [← HN.out]; exact hlt
      obtain ⟨g, o, rfl, c0, c1⟩ := (HI.out.ext (XW.out.trans hx)) k hkl
      have hv1 := hv.out
      rw [List.drop_eq_getElem_cons hkl, chkGo_none] at hv1
      obtain ⟨hs1, hs2⟩ := HS.out _ (List.getElem_mem hkl)
      obtain ⟨q1, hq1⟩ : ∃ q, q = al[k].1 := ⟨_, rfl⟩
      obtain ⟨q2, hq2⟩ : ∃ q, q = al[k].2 := ⟨_, rfl⟩
      rw [← hq1] at c0 hs1 hv1; rw [← hq2] at c1 hs2 hv1
      have hch := fun w5 (x : Ext w w5) => At.check_any 2 q1 q2 w5 (by unfold maxLen; omega) (by omega) (HE.out.ext x)
      obtain ⟨c, hc⟩ : ∃ c, c = checkV 2 q1 q2 := ⟨_, rfl⟩
      rw [← hc] at hv1 hch
      have HV := Lib.hid hv1; have HCH := Lib.hid hch; have hxw := XW.out.trans hx
      clear hv hv1 hq1 hq2 hch hc hs1 hs2
      by_cases h0 : c = 0
      · obtain ⟨f1, f2⟩ := efacts 0
        subst h0
        have hr : Hid (V = chkGo 2 none (al.drop (k + 1))) := Lib.hid (by rw [HV.out]; simp)
        go_wp2_with (go_at_call 100; refine (HCH.out _ (hxw.alloc _)).mono ?_; rintro e w2 ⟨rfl, x2⟩)
        go_roundw
        case rel => exact ⟨k + 1, by omega, by go_num, hr, (hx.alloc _).trans x2⟩
        case measure => simp [RowKit.intOf]; omega
      · obtain ⟨f1, f2⟩ := nfacts h0
        have hr : Hid (V = c) := Lib.hid (by rw [HV.out, if_pos h0])
        clear h0
        go_wp2_with (go_at_call 100; refine (HCH.out _ (hxw.alloc _)).mono ?_; rintro e w2 ⟨rfl, x2⟩)
        go_ret
        exact ⟨ret_i hr.out.symm, (hxw.alloc _).trans x2⟩
    · have hr : Hid (V = 0) := Lib.hid (by rw [hv.out, List.drop_eq_nil_of_le (by rw [← HN.out]; omega)]; rfl)
      clear hv
      go_wp2
      go_ret
      exact ⟨ret_i hr.out.symm, XW.out.trans hx⟩
set_option maxHeartbeats 4000000 in
set_option maxRecDepth 100000 in
theorem chk_4 (nm : ByteArray) (al : List Two) (r a b : Option Addr) (R B rc ac bc : Nat) (w : World) (ha : AtrIn w a al) (hs : ∀ q ∈ al, q.1.size ≤ 64 ∧ q.2.size ≤ 64) (hn : nm.size ≤ 64) (hL : al.length ≤ 1000) (he : Env w) :
    Calls Tryz.prog 55 #[.agg #[.int .i64 4, .string nm, .slice r R rc, .slice a al.length ac, .slice b B bc]] w fun e w' => e = .returned (.int .i64 (chkGo 4 (some nm) al)) ∧ Ext w w' := by
  obtain ⟨N, hN⟩ : ∃ N, N = al.length := ⟨_, rfl⟩
  obtain ⟨V, hV⟩ : ∃ V, V = chkGo 4 (some nm) al := ⟨_, rfl⟩
  have H0 : Hid (V = chkGo 4 (some nm) (al.drop 0)) := Lib.hid (by rw [List.drop_zero]; exact hV)
  rw [← hV]
  rw [← hN] at hL ⊢
  have HN := Lib.hid hN; have HI := Lib.hid ha; have HS := Lib.hid hs; have HE := Lib.hid he
  clear hN ha hs he hV
  go_enter Tryz.func55, Tryz.ntmps55
  go_wp2_with fail
  obtain ⟨w1, hw1⟩ : ∃ w1, w1 = w.alloc (.cells #[.int .i64 4, .string nm, .slice r R rc, .slice a N ac, .slice b B bc] 56) := ⟨_, rfl⟩
  have X1 : Hid (Ext (w.alloc (.cells #[.int .i64 4, .string nm, .slice r R rc, .slice a N ac, .slice b B bc] 56)) w1) := Lib.hid (by rw [hw1]; exact Ext.refl _)
  have XW : Hid (Ext w w1) := Lib.hid (((Ext.refl _).alloc _).trans X1.out)
  rw [← hw1]
  clear hw1
  go_loopw [25] (fun i' wr => ∃ k : Nat, k ≤ N ∧ i' = .int .i64 k ∧ Hid (V = chkGo 4 (some nm) (al.drop k)) ∧ Ext w1 wr) (fun i' _ => N - (RowKit.intOf i').toNat)
  case atStart => exact ⟨0, Nat.zero_le _, rfl, H0, Ext.refl _⟩
  case round =>
    clear H0
    obtain ⟨k, hk, rfl, hv, hx⟩ := hrel
    by_cases hlt : k < N
    · have hkl : k < al.length := by rw [← HN.out]; exact hlt
      obtain ⟨g, o, rfl, c0, c1⟩ := (HI.out.ext (XW.out.trans hx)) k hkl
      have hv1 := hv.out
      rw [List.drop_eq_getElem_cons hkl, chkGo_some] at hv1
      obtain ⟨hs1, hs2⟩ := HS.out _ (List.getElem_mem hkl)
      obtain ⟨q1, hq1⟩ : ∃ q, q = al[k].1 := ⟨_, rfl⟩
      obtain ⟨q2, hq2⟩ : ∃ q, q = al[k].2 := ⟨_, rfl⟩
      rw [← hq1] at c0 hs1; rw [← hq2] at c1 hs2 hv1
      have hch := fun w5 (x : Ext w w5) => At.check_any 4 nm q2 w5 (by unfold maxLen; omega) (by omega) (HE.out.ext x)
      obtain ⟨c, hc⟩ : ∃ c, c = checkV 4 nm q2 := ⟨_, rfl⟩
      rw [← hc] at hv1 hch
      have HV := Lib.hid hv1; have HCH := Lib.hid hch; have hxw := XW.out.trans hx
      have n1 : ∀ ob, (wr.alloc ob).cell? ⟨w.heap.size, 1, none⟩ = some (.string nm) := fun ob => (stm_cells w _ nm _ _ _ _ _ _ _ _ _ _ ((X1.out.trans hx).alloc ob)).2.1
      clear hv hv1 hq1 hq2 hch hc hs1 hs2
      by_cases h0 : c = 0
      · obtain ⟨f1, f2⟩ := efacts 0
        subst h0
        have hr : Hid (V = chkGo 4 (some nm) (al.drop (k + 1))) := Lib.hid (by rw [HV.out]; simp)
        go_wp2_with (go_at_call 100; refine (HCH.out _ (hxw.alloc _)).mono ?_; rintro e w2 ⟨rfl, x2⟩)
        go_roundw
        case rel => exact ⟨k + 1, by omega, by go_num, hr, (hx.alloc _).trans x2⟩
        case measure => simp [RowKit.intOf]; omega
      · obtain ⟨f1, f2⟩ := nfacts h0
        have hr : Hid (V = c) := Lib.hid (by rw [HV.out, if_pos h0])
        clear h0
        go_wp2_with (go_at_call 100; refine (HCH.out _ (hxw.alloc _)).mono ?_; rintro e w2 ⟨rfl, x2⟩)
        go_ret
        exact ⟨ret_i hr.out.symm, (hxw.alloc _).trans x2⟩
    · have hr : Hid (V = 0) := Lib.hid (by rw [hv.out, List.drop_eq_nil_of_le (by rw [← HN.out]; omega)]; rfl)
      clear hv
      go_wp2
      go_ret
      exact ⟨ret_i hr.out.symm, XW.out.trans hx⟩
set_option maxHeartbeats 4000000 in
set_option maxRecDepth 100000 in
theorem chk_5 (nm : ByteArray) (al : List Two) (r a b : Option Addr) (R B rc ac bc : Nat) (w : World) (ha : AtrIn w a al) (hs : ∀ q ∈ al, q.1.size ≤ 64 ∧ q.2.size ≤ 64) (hL : al.length ≤ 1000) (he : Env w) :
    Calls Tryz.prog 55 #[.agg #[.int .i64 5, .string nm, .slice r R rc, .slice a al.length ac, .slice b B bc]] w fun e w' => e = .returned (.int .i64 (chkGo 5 none al)) ∧ Ext w w' := by
  obtain ⟨N, hN⟩ : ∃ N, N = al.length := ⟨_, rfl⟩
  obtain ⟨V, hV⟩ : ∃ V, V = chkGo 5 none al := ⟨_, rfl⟩
  have H0 : Hid (V = chkGo 5 none (al.drop 0)) := Lib.hid (by rw [List.drop_zero]; exact hV)
  rw [← hV]
  rw [← hN] at hL ⊢
  have HN := Lib.hid hN; have HI := Lib.hid ha; have HS := Lib.hid hs; have HE := Lib.hid he
  clear hN ha hs he hV
  go_enter Tryz.func55, Tryz.ntmps55
  go_wp2_with fail
  obtain ⟨w1, hw1⟩ : ∃ w1, w1 = w.alloc (.cells #[.int .i64 5, .string nm, .slice r R rc, .slice a N ac, .slice b B bc] 56) := ⟨_, rfl⟩
  have X1 : Hid (Ext (w.alloc (.cells #[.int .i64 5, .string nm, .slice r R rc, .slice a N ac, .slice b B bc] 56)) w1) := Lib.hid (by rw [hw1]; exact Ext.refl _)
  have XW : Hid (Ext w w1) := Lib.hid (((Ext.refl _).alloc _).trans X1.out)
  rw [← hw1]
  clear hw1
  go_loopw [25] (fun i' wr => ∃ k : Nat, k ≤ N ∧ i' = .int .i64 k ∧ Hid (V = chkGo 5 none (al.drop k)) ∧ Ext w1 wr) (fun i' _ => N - (RowKit.intOf i').toNat)
  case atStart => exact ⟨0, Nat.zero_le _, rfl, H0, Ext.refl _⟩
  case round =>
    clear H0
    obtain ⟨k, hk, rfl, hv, hx⟩ := hrel
    by_cases hlt : k < N
    · have hkl : k < al.length := by rw [← HN.out]; exact hlt
      obtain ⟨g, o, rfl, c0, c1⟩ := (HI.out.ext (XW.out.trans hx)) k hkl
      have hv1 := hv.out
      rw [List.drop_eq_getElem_cons hkl, chkGo_none] at hv1
      obtain ⟨hs1, hs2⟩ := HS.out _ (List.getElem_mem hkl)
      obtain ⟨q1, hq1⟩ : ∃ q, q = al[k].1 := ⟨_, rfl⟩
      obtain ⟨q2, hq2⟩ : ∃ q, q = al[k].2 := ⟨_, rfl⟩
      rw [← hq1] at c0 hs1 hv1; rw [← hq2] at c1 hs2 hv1
      have hch := fun w5 (x : Ext w w5) => At.check_any 5 q1 q2 w5 (by unfold maxLen; omega) (by omega) (HE.out.ext x)
      obtain ⟨c, hc⟩ : ∃ c, c = checkV 5 q1 q2 := ⟨_, rfl⟩
      rw [← hc] at hv1 hch
      have HV := Lib.hid hv1; have HCH := Lib.hid hch; have hxw := XW.out.trans hx
      clear hv hv1 hq1 hq2 hch hc hs1 hs2
      by_cases h0 : c = 0
      · obtain ⟨f1, f2⟩ := efacts 0
        subst h0
        have hr : Hid (V = chkGo 5 none (al.drop (k + 1))) := Lib.hid (by rw [HV.out]; simp)
        go_wp2_with (go_at_call 100; refine (HCH.out _ (hxw.alloc _)).mono ?_; rintro e w2 ⟨rfl, x2⟩)
        go_roundw
        case rel => exact ⟨k + 1, by omega, by go_num, hr, (hx.alloc _).trans x2⟩
        case measure => simp [RowKit.intOf]; omega
      · obtain ⟨f1, f2⟩ := nfacts h0
        have hr : Hid (V = c) := Lib.hid (by rw [HV.out, if_pos h0])
        clear h0
        go_wp2_with (go_at_call 100; refine (HCH.out _ (hxw.alloc _)).mono ?_; rintro e w2 ⟨rfl, x2⟩)
        go_ret
        exact ⟨ret_i hr.out.symm, (hxw.alloc _).trans x2⟩
    · have hr : Hid (V = 0) := Lib.hid (by rw [hv.out, List.drop_eq_nil_of_le (by rw [← HN.out]; omega)]; rfl)
      clear hv
      go_wp2
      go_ret
      exact ⟨ret_i hr.out.symm, XW.out.trans hx⟩
theorem chk_any (kind : Int) (nm : ByteArray) (rs al : List Two) (body : List Stm) (r a b : Option Addr) (rc ac bc : Nat) (w : World) (hf : formB (.mk kind nm rs al body) = true) (ha : AtrIn w a al) (hs : ∀ q ∈ al, q.1.size ≤ 64 ∧ q.2.size ≤ 64) (hn : nm.size ≤ 64) (hL : al.length ≤ 1000) (he : Env w) :
    Calls Tryz.prog 55 #[.agg #[.int .i64 kind, .string nm, .slice r rs.length rc, .slice a al.length ac, .slice b body.length bc]] w fun e w' => e = .returned (.int .i64 (chkS (.mk kind nm rs al body))) ∧ Ext w w' := by
  have hk := (form_kinds _ hf).1
  simp only [Stm.kind] at hk
  rcases hk with rfl | rfl | rfl | rfl | rfl
  · exact chk_1 nm al r a b _ _ rc ac bc w ha hs hL he
  · exact chk_2 nm al r a b _ _ rc ac bc w ha hs hL he
  · by_cases hw : nm.data.toList = nodeW
    · have e : chkS (.mk 3 nm rs al body) = chkGo 1 none al := by simp [chkS, kindS, Stm.kind, Stm.name, Stm.attrs, hw]
      rw [e]
      exact chk_3n nm al r a b _ _ rc ac bc w ha hs hL he hw
    · have e : chkS (.mk 3 nm rs al body) = chkGo 2 none al := by simp [chkS, kindS, Stm.kind, Stm.name, Stm.attrs, hw]
      rw [e]
      exact chk_3e nm al r a b _ _ rc ac bc w ha hs hL he hw
  · exact chk_4 nm al r a b _ _ rc ac bc w ha hs hn hL he
  · exact chk_5 nm al r a b _ _ rc ac bc w ha hs hL he
end Go.Proofs.YtnancphlkbfglaaGreatDoor.Nm

namespace Go.Proofs.YtnancphlkbfglaaGreatDoor.Tr
open Go.RowKit Go.Lib Fx Lx
structure But (c : Nat) (w w' : World) : Prop where
  os : w'.os = w.os
  tape : w'.tape = w.tape
  output : w'.output = w.output
  size : w.heap.size ≤ w'.heap.size
  block : ∀ k, k < w.heap.size → k ≠ c → w'.heap[k]? = w.heap[k]?
theorem But.refl (c : Nat) (w : World) : But c w w := ⟨rfl, rfl, rfl, Nat.le_refl _, fun _ _ _ => rfl⟩
theorem But.trans {c : Nat} {a b d : World} (h : But c a b) (k : But c b d) : But c a d :=
  ⟨k.os.trans h.os, k.tape.trans h.tape, k.output.trans h.output, Nat.le_trans h.size k.size, fun i hi hc => (k.block i (Nat.lt_of_lt_of_le hi h.size) hc).trans (h.block i hi hc)⟩
theorem But.of {c : Nat} {a b : World} (h : Ext a b) : But c a b := ⟨h.os, h.tape, h.output, h.size, fun k hk _ => h.block k hk⟩
theorem But.ext {c : Nat} {a b d : World} (h : But c a b) (k : Ext b d) : But c a d := h.trans (But.of k)
theorem But.alloc {c : Nat} {a b : World} (h : But c a b) (o : Obj) : But c a (b.alloc o) := h.ext ((Ext.refl _).alloc o)
theorem But.setCell {c : Nat} {a b : World} (h : But c a b) (p : Addr) (hp : p.block = c) (u : Value) : But c a (b.setCell p u) :=
  ⟨h.os, h.tape, h.output, by have := h.size; simpa [World.setCell] using this, fun k hk hc => (Below.heap_setCell _ _ _ _ (by omega)).trans (h.block k hk hc)⟩
theorem But.cell {c : Nat} {a b : World} (h : But c a b) {p : Addr} {v : Value} (hc : p.block ≠ c) (hv : a.cell? p = some v) : b.cell? p = some v := by
  have hb : p.block < a.heap.size := World.block_lt_of_cell? _ _ hv
  rw [World.cell?_of_block (w := a) (h.block _ hb hc)]; exact hv
theorem But.frozen {c : Nat} {a b : World} (h : But c a b) {p : Addr} (hc : p.block ≠ c) (hb : p.block < a.heap.size) : b.frozen? p = a.frozen? p :=
  World.frozen?_of_block (w := a) (h.block _ hb hc)
theorem But.below {c : Nat} {a b : World} (h : But c a b) {n : Nat} (hn : n ≤ c) (hs : n ≤ a.heap.size) : Below n a b :=
  ⟨h.os, h.tape, h.output, h.size, fun k hk => h.block k (by omega) (by omega)⟩
theorem But.fresh {w a b : World} {c : Nat} (x : Ext w a) (h : But c a b) (hc : w.heap.size ≤ c) : Ext w b :=
  Below.trans x (h.below hc x.size)
theorem setOne {w : World} {B : Nat} {cs : Array Value} {T : TypeId} (h : w.heap[B]? = some (.cells cs T (0, 0))) (i : Nat) (v : Value) :
    (w.setCell ⟨B, i, none⟩ v).heap[B]? = some (.cells (cs.setIfInBounds i v) T (0, 0)) := by
  unfold World.setCell
  simp [Array.getElem?_modify, h]
def runA (step : Int → Stm × Nat → Int × Bool) (acc : Int) : List (Stm × Nat) → Int × Bool
  | [] => (acc, true)
  | p :: r => if (step acc p).2 = true then runA step (step acc p).1 r else ((step acc p).1, false)
theorem runA_app (step : Int → Stm × Nat → Int × Bool) : ∀ (acc : Int) (l m : List (Stm × Nat)), runA step acc (l ++ m) = if (runA step acc l).2 = true then runA step (runA step acc l).1 m else runA step acc l
  | acc, [], m => by simp [runA]
  | acc, p :: r, m => by
    rw [List.cons_append, runA, runA]
    by_cases h : (step acc p).2 = true
    · rw [if_pos h, if_pos h, runA_app step _ r m]
    · rw [if_neg h, if_neg h, if_neg (by simp)]
def stepC (acc : Int) (_ : Stm × Nat) : Int × Bool := (wrap64 (acc + 1), true)
def stepV (_ : Int) (p : Stm × Nat) : Int × Bool := (stmE p, decide (stmE p = 0))
theorem runC_len : ∀ (l : List (Stm × Nat)) (acc : Int), 0 ≤ acc → acc + l.length < 9223372036854775808 → runA stepC acc l = (acc + l.length, true)
  | [], acc, _, _ => by simp [runA]
  | p :: r, acc, h, h2 => by
    rw [List.length_cons] at h2 ⊢
    have e : (stepC acc p) = (acc + 1, true) := by unfold stepC wrap64; rw [show (acc + 1 + 9223372036854775808) % 18446744073709551616 - 9223372036854775808 = acc + 1 by omega]
    rw [runA, e, if_pos rfl, runC_len r (acc + 1) (by omega) (by push_cast at h2 ⊢; omega)]
    push_cast
    rw [show acc + 1 + (r.length : Int) = acc + ((r.length : Int) + 1) by omega]
theorem runV_first : ∀ (l : List (Stm × Nat)), (runA stepV 0 l).1 = firstE l
  | [] => rfl
  | p :: r => by
    rw [runA, firstE, stepV]
    by_cases h : stmE p = 0
    · rw [if_pos (decide_eq_true h), if_neg (fun h' => h' h), h]
      exact runV_first r
    · rw [if_neg (by simpa using h), if_pos h]
end Go.Proofs.YtnancphlkbfglaaGreatDoor.Tr

namespace Go.Proofs.YtnancphlkbfglaaGreatDoor.Tr
open Go.RowKit Go.Sort Go.Lib Go.Shelf Fx Lx
set_option maxHeartbeats 4000000 in
theorem closC_any (kind : Int) (nm : ByteArray) (r a b : Option Addr) (R A B rc ac bc : Nat) (lev : Int) (acc : Int) (c : Nat) (T : TypeId) (w : World) (h : w.heap[c]? = some (.cells #[.int .i64 acc] T (0, 0))) :
    Calls Tryz.prog 96 #[.agg #[.int .i64 kind, .string nm, .slice r R rc, .slice a A ac, .slice b B bc], .int .i64 lev, .pointer (some ⟨c, 0, none⟩)] w fun e w' => e = .returned (.bool true) ∧ w'.heap[c]? = some (.cells #[.int .i64 (wrap64 (acc + 1))] T (0, 0)) ∧ But c w w' := by
  have hcw : c < w.heap.size := (Array.getElem?_eq_some_iff.1 h).1
  have h1 : ∀ o, (w.alloc o).heap[c]? = some (.cells #[.int .i64 acc] T (0, 0)) := fun o => (Lib.alloc_old w o c hcw).trans h
  have hc : ∀ o, (w.alloc o).cell? ⟨c, 0, none⟩ = some (.int .i64 acc) := fun o => by rw [Lib.cell_of_heap (h1 o)]; rfl
  have hf : ∀ o, (w.alloc o).frozen? ⟨c, 0, none⟩ = false := fun o => Lib.frozen_of_heap (h1 o) 0
  have H1 := Lib.hid h1
  clear h1 h hcw
  go_enter Tryz.func96, Tryz.ntmps96
  go_wp2
  go_ret
  exact ⟨rfl, setOne (H1.out _) 0 _, ((But.refl c w).alloc _).setCell ⟨c, 0, none⟩ rfl _⟩
end Go.Proofs.YtnancphlkbfglaaGreatDoor.Tr
