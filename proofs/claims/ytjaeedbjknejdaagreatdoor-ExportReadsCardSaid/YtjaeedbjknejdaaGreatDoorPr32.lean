/- Packed texts: LexStr, LexTok, LexLaw, LexQuote -/
import Derived.Test.YtjaeedbjknejdaaGreatDoorPr31
set_option linter.unusedVariables false
set_option linter.unusedSimpArgs false
set_option maxHeartbeats 16000000
set_option maxRecDepth 100000
namespace Go.Proofs.YtjaeedbjknejdaaGreatDoor.Lx
open Go.RowKit Go.Sort Go.Lib Go.Shelf Fx
theorem cont_le : ∀ (l : List UInt8) (esc : Bool) (acc : List UInt8) (i : Nat), (contents esc acc i l).2.1 <= i + l.length
  | [], _, _, _ => Nat.zero_le _
  | c :: r, esc, acc, i => by
    unfold contents
    have h1 := cont_le r true acc (i + 1)
    have h2 := cont_le r false (acc ++ [c]) (i + 1)
    repeat' split
    all_goals simp only [List.length_cons] at *
    all_goals omega
theorem next_str (s : ByteArray) (w : World) (h0 : 0 < s.size) (hs : s.size <= 16384) (hn : wordN s.data.toList = 0) (hq : ((s[0].toNat : Int) == 34) = true) :
    Calls Tryz.prog 157 #[.string s] w fun e w' => e = .returned (nextV (next s.data.toList)) /\ Ext w w' := by
  have hq0 : s[0].toNat = 34 := by rw [beq_iff_eq] at hq; omega
  have hd0 : isD s[0] = false := by unfold isD; rw [decide_eq_false]; omega
  have e45 : (45 : UInt8).toNat = 45 := rfl
  have e34 : (34 : UInt8).toNat = 34 := rfl
  have h45 : (s[0] == 45) = false := by rw [beq_eq_false_iff_ne]; intro e; have := congrArg UInt8.toNat e; omega
  have h34 : (s[0] == 34) = true := by rw [beq_iff_eq]; exact UInt8.toNat_inj.1 (by omega)
  have e1 : (s.extract 1 s.size).data.toList = s.data.toList.drop 1 := by rw [extract_from]
  obtain ⟨T, n, c, hT⟩ : ∃ T n c, contents false [] 0 (s.extract 1 s.size).data.toList = (T, n, c) := ⟨_, _, _, rfl⟩
  have hx : next s.data.toList = if c = 0 then (⟨4, T, 0, 0⟩, n + 1, 0) else (⟨0, [], 0, 0⟩, 0, c) := by
    unfold next
    rw [if_neg (by omega), bt_at s 0 h0, hd0, h45, h34, <- e1, hT]
    simp
  have hw := word_any s (by omega)
  rw [hn] at hw
  have hc0 := contents_any (s.extract 1 s.size) (by simp; omega)
  rw [hT] at hc0
  have hdg := digit_any s[0]
  rw [hd0] at hdg
  have q45 : ((s[0].toNat : Int) == 45) = false := by rw [beq_eq_false_iff_ne]; omega
  have hnb : (n : Int) <= 16384 := by
    have h1 := cont_le (s.extract 1 s.size).data.toList false [] 0
    rw [hT, e1] at h1
    have h2 : (s.data.toList.drop 1).length = s.size - 1 := by simp
    simp only at h1
    omega
  have HW := Lib.hid hw; have HX := Lib.hid hx; have HC := Lib.hid hc0; have HDG := Lib.hid hdg; have HNB := Lib.hid hnb
  clear hw hx hc0 hdg hT e1 h34 h45 e34 e45 hd0 hq0 hn
  generalize next s.data.toList = NX at HX ⊢
  go_enter Tryz.func157, Tryz.ntmps157
  go_wp2_with fail
  refine (HW.out _).mono ?_
  rintro e w1 ⟨rfl, rfl⟩
  go_wp2_with fail
  refine (HDG.out _).mono ?_
  rintro e w1 ⟨rfl, rfl⟩
  go_wp2_with fail
  refine (HC.out _).mono ?_
  rintro e w1 ⟨rfl, x1⟩
  obtain ⟨⟨y0, y1, y2, y3⟩, z0, z1, z2, z3⟩ := cells4 (kept_alloc x1)
  have Y := fun a' b' c' d' => set4r (kept_alloc x1) a' b' c' d'
  unfold contV
  by_cases hc : c = 0
  · subst hc
    have hf : Hid (NX = (⟨4, T, 0, 0⟩, n + 1, 0)) := Lib.hid (by rw [HX.out]; rfl)
    obtain ⟨u0, u1, u2, u3⟩ := Y (.int .i64 4) (.string ⟨T.toArray⟩) (.int .i64 0) (.int .i64 0)
    have hnb := HNB.out
    clear HX Y
    go_wp2
    try simp only [Exit.inBlock, Exit.then]
    refine bodyPost_ret (by simp [results, Tryz.results157, go_sem, u0, u1, u2, u3]; try rfl) rfl ?_
    refine ⟨ret_val (by rw [hf.out]; rfl), ext_set4 (((Ext.refl _).alloc _).trans x1) (Nat.le_refl _) _ _ _ _⟩
  have hf : Hid (NX = (⟨0, [], 0, 0⟩, 0, c)) := Lib.hid (by rw [HX.out]; exact if_neg hc)
  obtain ⟨u0, u1, u2, u3⟩ := Y (.int .i64 0) (.string ⟨#[]⟩) (.int .i64 0) (.int .i64 0)
  clear HX Y
  go_wp2
  try simp only [Exit.inBlock, Exit.then]
  refine bodyPost_ret (by simp [results, Tryz.results157, go_sem, u0, u1, u2, u3]; try rfl) rfl ?_
  exact ⟨ret_val (by rw [hf.out]; rfl), ext_set4 (((Ext.refl _).alloc _).trans x1) (Nat.le_refl _) _ _ _ _⟩
theorem beq_int (c k : UInt8) : (c == k) = ((c.toNat : Int) == (k.toNat : Int)) := by
  by_cases h : c = k
  · subst h; simp
  have h1 : (c == k) = false := by rw [beq_eq_false_iff_ne]; exact h
  have h2 : ((c.toNat : Int) == (k.toNat : Int)) = false := by rw [beq_eq_false_iff_ne]; intro e; exact h (UInt8.toNat_inj.1 (by omega))
  rw [h1, h2]
theorem next_is_mark (s : List UInt8) (hn : wordN s = 0) (hd : (isD (bt s 0) || (bt s 0 == 45 && decide (1 < s.length) && isD (bt s 1))) = false) (hq : (bt s 0 == 34) = false) :
    next s = match markOf s marks with | some m => (⟨5, m, 0, 0⟩, m.length, 0) | none => (⟨0, [], 0, 0⟩, 0, 4) := by
  unfold next
  rw [if_neg (by omega), hd, hq]; rfl
theorem marks_len : ∀ k, (h : k < 10) -> marks[k].length <= 2 := by decide
def marksV : Array Value := #[.string ⟨#[45, 62]⟩, .string ⟨#[45, 45]⟩, .string ⟨#[123]⟩, .string ⟨#[125]⟩, .string ⟨#[91]⟩, .string ⟨#[93]⟩, .string ⟨#[59]⟩, .string ⟨#[44]⟩, .string ⟨#[61]⟩, .string ⟨#[58]⟩]
theorem marksV_at (k : Nat) (h : k < 10) : marksV[k]? = some (.string ⟨(marks[k]'h).toArray⟩) := by
  have : k = 0 \/ k = 1 \/ k = 2 \/ k = 3 \/ k = 4 \/ k = 5 \/ k = 6 \/ k = 7 \/ k = 8 \/ k = 9 := by omega
  rcases this with rfl | rfl | rfl | rfl | rfl | rfl | rfl | rfl | rfl | rfl <;> rfl
theorem marks_any (w : World) : Calls Tryz.prog 211 #[] w fun e w' => e = .returned (.slice (some ⟨w.heap.size, 0, none⟩) 10 10) /\ w' = w.alloc (.cells marksV 9) := by
  go_enter Tryz.func211, Tryz.ntmps211
  go_wp2
  go_ret
  exact ⟨rfl, rfl⟩
theorem next_mark (s : ByteArray) (w : World) (h0 : 0 < s.size) (hs : s.size <= 16384) (hn : wordN s.data.toList = 0) (hd : isD s[0] = false) (hq : ((s[0].toNat : Int) == 34) = false)
    (hm : ((s[0].toNat : Int) == 45) = false \/ ((s[0].toNat : Int) == 45) = true /\ s.size <= 1 \/ ((s[0].toNat : Int) == 45) = true /\ ∃ h1 : 1 < s.size, isD s[1] = false) :
    Calls Tryz.prog 157 #[.string s] w fun e w' => e = .returned (nextV (next s.data.toList)) /\ Ext w w' := by
  have hx : next s.data.toList = match markOf s.data.toList (marks.drop 0) with | some m => (⟨5, m, 0, 0⟩, m.length, 0) | none => (⟨0, [], 0, 0⟩, 0, 4) := by
    refine next_is_mark s.data.toList hn ?_ ?_
    · rw [bt_at s 0 h0, hd, Bool.false_or]
      rcases hm with hm | ⟨_, hm⟩ | ⟨_, h1, hm⟩
      · rw [beq_int s[0] 45, show (((45 : UInt8).toNat : Nat) : Int) = 45 from rfl, hm]; rfl
      · rw [decide_eq_false (show ¬ 1 < s.data.toList.length by rw [<- size_len]; omega)]; simp
      rw [bt_at s 1 h1, hm]; simp
    rw [bt_at s 0 h0, beq_int s[0] 34, show (((34 : UInt8).toNat : Nat) : Int) = 34 from rfl, hq]
  have hw := word_any s (by omega)
  rw [hn] at hw
  have hdg := digit_any s[0]
  rw [hd] at hdg
  have HW := Lib.hid hw; have HX := Lib.hid hx; have HDG := Lib.hid hdg
  have HPF : Hid (∀ (p : ByteArray) (w : World), Calls Tryz.prog 212 #[.string s, .string p] w fun e w' => e = .returned (.bool (Lib.hasPrefix s.data.toList p.data.toList)) /\ w' = w) := Lib.hid (fun p w => Tryz.strings_HasPrefix s p w)
  clear hw hx hdg hn hd
  generalize next s.data.toList = NX at HX ⊢
  rcases hm with hm | hm | hm
  · go_enter Tryz.func157, Tryz.ntmps157
    go_wp2_with fail
    refine (HW.out _).mono ?_
    rintro e w1 ⟨rfl, rfl⟩
    go_wp2_with fail
    refine (HDG.out _).mono ?_
    rintro e w1 ⟨rfl, rfl⟩
    go_wp2_with fail
    refine (marks_any _).mono ?_
    rintro e w1 ⟨rfl, rfl⟩
    go_wp2_with fail
    go_loop [111] (fun i' => ∃ k : Nat, k <= 10 /\ Hid (NX = match markOf s.data.toList (marks.drop k) with | some m => (⟨5, m, 0, 0⟩, m.length, 0) | none => (⟨0, [], 0, 0⟩, 0, 4)) /\ i' = .int .i64 k) (fun i' => 10 - (RowKit.intOf i').toNat)
    case atStart => exact ⟨0, by omega, HX, rfl⟩
    obtain ⟨k, hk, ha, rfl⟩ := hrel
    clear HX
    by_cases hlt : k < 10
    · have hcell : ((w.alloc (.cells #[.int .i64 0, .string ⟨#[]⟩, .int .i64 0, .int .i64 0] 220)).alloc (.cells marksV 9)).cell? ⟨w.heap.size + 1, k, none⟩ = some (.string ⟨(marks[k]'hlt).toArray⟩) := by
        have h := heap_alloc_new (w.alloc (.cells #[.int .i64 0, .string ⟨#[]⟩, .int .i64 0, .int .i64 0] 220)) (.cells marksV 9)
        rw [World.size_alloc] at h
        rw [Lib.cell_of_heap h]; exact marksV_at k hlt
      have hst := ha.out
      rw [List.drop_eq_getElem_cons (show k < marks.length from hlt)] at hst
      have hml := marks_len k hlt
      have hpf := HPF.out ⟨(marks[k]'hlt).toArray⟩
      obtain ⟨m, hm'⟩ : ∃ m, marks[k]'hlt = m := ⟨_, rfl⟩
      rw [hm'] at hcell hml hpf
      rw [show marks[k]'(show k < marks.length from hlt) = m from hm'] at hst
      unfold markOf at hst
      have hpe : Lib.hasPrefix s.data.toList (⟨m.toArray⟩ : ByteArray).data.toList = m.isPrefixOf s.data.toList := rfl
      rw [hpe] at hpf
      have HPQ := Lib.hid hpf
      cases hp : m.isPrefixOf s.data.toList
      · rw [hp] at hst HPQ
        have HF := Lib.hid hst
        clear hst ha hpf hpe hm' hp hml
        go_wp2_with fail
        refine (HPQ.out _).mono ?_
        rintro e w1 ⟨rfl, rfl⟩
        go_wp2
        go_round
        case rel => exact ⟨k + 1, by omega, HF, by go_num⟩
        case measure => simp [RowKit.intOf]; omega
      rw [hp] at hst HPQ
      have hf : Hid (NX = (⟨5, m, 0, 0⟩, m.length, 0)) := Lib.hid hst
      have hms : (⟨m.toArray⟩ : ByteArray).size = m.length := size_mk m
      clear hst ha hpf hpe hm' hp
      go_wp2_with fail
      refine (HPQ.out _).mono ?_
      rintro e w1 ⟨rfl, rfl⟩
      go_wp2
      go_returns
      refine ⟨ret_val (by rw [hf.out]; rfl), ?_⟩
      exact ((Ext.refl _).alloc _).alloc _
    obtain rfl : k = 10 := by omega
    have hf : Hid (NX = (⟨0, [], 0, 0⟩, 0, 4)) := Lib.hid ha.out
    clear ha
    go_wp2
    go_returns
    refine ⟨ret_val (by rw [hf.out]; rfl), ?_⟩
    exact ((Ext.refl _).alloc _).alloc _
  · obtain ⟨hm, hsz⟩ := hm
    go_enter Tryz.func157, Tryz.ntmps157
    go_wp2_with fail
    refine (HW.out _).mono ?_
    rintro e w1 ⟨rfl, rfl⟩
    go_wp2_with fail
    refine (HDG.out _).mono ?_
    rintro e w1 ⟨rfl, rfl⟩
    go_wp2_with fail
    refine (marks_any _).mono ?_
    rintro e w1 ⟨rfl, rfl⟩
    go_wp2_with fail
    go_loop [111] (fun i' => ∃ k : Nat, k <= 10 /\ Hid (NX = match markOf s.data.toList (marks.drop k) with | some m => (⟨5, m, 0, 0⟩, m.length, 0) | none => (⟨0, [], 0, 0⟩, 0, 4)) /\ i' = .int .i64 k) (fun i' => 10 - (RowKit.intOf i').toNat)
    case atStart => exact ⟨0, by omega, HX, rfl⟩
    obtain ⟨k, hk, ha, rfl⟩ := hrel
    clear HX
    by_cases hlt : k < 10
    · have hcell : ((w.alloc (.cells #[.int .i64 0, .string ⟨#[]⟩, .int .i64 0, .int .i64 0] 220)).alloc (.cells marksV 9)).cell? ⟨w.heap.size + 1, k, none⟩ = some (.string ⟨(marks[k]'hlt).toArray⟩) := by
        have h := heap_alloc_new (w.alloc (.cells #[.int .i64 0, .string ⟨#[]⟩, .int .i64 0, .int .i64 0] 220)) (.cells marksV 9)
        rw [World.size_alloc] at h
        rw [Lib.cell_of_heap h]; exact marksV_at k hlt
      have hst := ha.out
      rw [List.drop_eq_getElem_cons (show k < marks.length from hlt)] at hst
      have hml := marks_len k hlt
      have hpf := HPF.out ⟨(marks[k]'hlt).toArray⟩
      obtain ⟨m, hm'⟩ : ∃ m, marks[k]'hlt = m := ⟨_, rfl⟩
      rw [hm'] at hcell hml hpf
      rw [show marks[k]'(show k < marks.length from hlt) = m from hm'] at hst
      unfold markOf at hst
      have hpe : Lib.hasPrefix s.data.toList (⟨m.toArray⟩ : ByteArray).data.toList = m.isPrefixOf s.data.toList := rfl
      rw [hpe] at hpf
      have HPQ := Lib.hid hpf
      cases hp : m.isPrefixOf s.data.toList
      · rw [hp] at hst HPQ
        have HF := Lib.hid hst
        clear hst ha hpf hpe hm' hp hml
        go_wp2_with fail
        refine (HPQ.out _).mono ?_
        rintro e w1 ⟨rfl, rfl⟩
        go_wp2
        go_round
        case rel => exact ⟨k + 1, by omega, HF, by go_num⟩
        case measure => simp [RowKit.intOf]; omega
      rw [hp] at hst HPQ
      have hf : Hid (NX = (⟨5, m, 0, 0⟩, m.length, 0)) := Lib.hid hst
      have hms : (⟨m.toArray⟩ : ByteArray).size = m.length := size_mk m
      clear hst ha hpf hpe hm' hp
      go_wp2_with fail
      refine (HPQ.out _).mono ?_
      rintro e w1 ⟨rfl, rfl⟩
      go_wp2
      go_returns
      refine ⟨ret_val (by rw [hf.out]; rfl), ?_⟩
      exact ((Ext.refl _).alloc _).alloc _
    obtain rfl : k = 10 := by omega
    have hf : Hid (NX = (⟨0, [], 0, 0⟩, 0, 4)) := Lib.hid ha.out
    clear ha
    go_wp2
    go_returns
    refine ⟨ret_val (by rw [hf.out]; rfl), ?_⟩
    exact ((Ext.refl _).alloc _).alloc _
  obtain ⟨hm, h1, hd1⟩ := hm
  have hdg1 := digit_any s[1]
  rw [hd1] at hdg1
  have HDG1 := Lib.hid hdg1
  clear hdg1 hd1
  go_enter Tryz.func157, Tryz.ntmps157
  go_wp2_with fail
  refine (HW.out _).mono ?_
  rintro e w1 ⟨rfl, rfl⟩
  go_wp2_with fail
  refine (HDG.out _).mono ?_
  rintro e w1 ⟨rfl, rfl⟩
  go_wp2_with fail
  refine (HDG1.out _).mono ?_
  rintro e w1 ⟨rfl, rfl⟩
  go_wp2_with fail
  refine (marks_any _).mono ?_
  rintro e w1 ⟨rfl, rfl⟩
  go_wp2_with fail
  go_loop [111] (fun i' => ∃ k : Nat, k <= 10 /\ Hid (NX = match markOf s.data.toList (marks.drop k) with | some m => (⟨5, m, 0, 0⟩, m.length, 0) | none => (⟨0, [], 0, 0⟩, 0, 4)) /\ i' = .int .i64 k) (fun i' => 10 - (RowKit.intOf i').toNat)
  case atStart => exact ⟨0, by omega, HX, rfl⟩
  obtain ⟨k, hk, ha, rfl⟩ := hrel
  clear HX
  by_cases hlt : k < 10
  · have hcell : ((w.alloc (.cells #[.int .i64 0, .string ⟨#[]⟩, .int .i64 0, .int .i64 0] 220)).alloc (.cells marksV 9)).cell? ⟨w.heap.size + 1, k, none⟩ = some (.string ⟨(marks[k]'hlt).toArray⟩) := by
      have h := heap_alloc_new (w.alloc (.cells #[.int .i64 0, .string ⟨#[]⟩, .int .i64 0, .int .i64 0] 220)) (.cells marksV 9)
      rw [World.size_alloc] at h
      rw [Lib.cell_of_heap h]; exact marksV_at k hlt
    have hst := ha.out
    rw [List.drop_eq_getElem_cons (show k < marks.length from hlt)] at hst
    have hml := marks_len k hlt
    have hpf := HPF.out ⟨(marks[k]'hlt).toArray⟩
    obtain ⟨m, hm'⟩ : ∃ m, marks[k]'hlt = m := ⟨_, rfl⟩
    rw [hm'] at hcell hml hpf
    rw [show marks[k]'(show k < marks.length from hlt) = m from hm'] at hst
    unfold markOf at hst
    have hpe : Lib.hasPrefix s.data.toList (⟨m.toArray⟩ : ByteArray).data.toList = m.isPrefixOf s.data.toList := rfl
    rw [hpe] at hpf
    have HPQ := Lib.hid hpf
    cases hp : m.isPrefixOf s.data.toList
    · rw [hp] at hst HPQ
      have HF := Lib.hid hst
      clear hst ha hpf hpe hm' hp hml
      go_wp2_with fail
      refine (HPQ.out _).mono ?_
      rintro e w1 ⟨rfl, rfl⟩
      go_wp2
      go_round
      case rel => exact ⟨k + 1, by omega, HF, by go_num⟩
      case measure => simp [RowKit.intOf]; omega
    rw [hp] at hst HPQ
    have hf : Hid (NX = (⟨5, m, 0, 0⟩, m.length, 0)) := Lib.hid hst
    have hms : (⟨m.toArray⟩ : ByteArray).size = m.length := size_mk m
    clear hst ha hpf hpe hm' hp
    go_wp2_with fail
    refine (HPQ.out _).mono ?_
    rintro e w1 ⟨rfl, rfl⟩
    go_wp2
    go_returns
    refine ⟨ret_val (by rw [hf.out]; rfl), ?_⟩
    exact ((Ext.refl _).alloc _).alloc _
  obtain rfl : k = 10 := by omega
  have hf : Hid (NX = (⟨0, [], 0, 0⟩, 0, 4)) := Lib.hid ha.out
  clear ha
  go_wp2
  go_returns
  refine ⟨ret_val (by rw [hf.out]; rfl), ?_⟩
  exact ((Ext.refl _).alloc _).alloc _
end Go.Proofs.YtjaeedbjknejdaaGreatDoor.Lx

namespace Go.Proofs.YtjaeedbjknejdaaGreatDoor.Lx
open Go.RowKit Go.Sort Go.Lib Go.Shelf Fx
theorem next_any (s : ByteArray) (w : World) (h0 : 0 < s.size) (hs : s.size <= 16384) (he : Env w) :
    Calls Tryz.prog 157 #[.string s] w fun e w' => e = .returned (nextV (next s.data.toList)) /\ Ext w w' := by
  rcases Nat.eq_zero_or_pos (wordN s.data.toList) with hn | hn
  · cases hd : isD s[0]
    · cases hq : ((s[0].toNat : Int) == 34)
      · cases h45 : ((s[0].toNat : Int) == 45)
        · exact next_mark s w h0 hs hn hd hq (.inl h45)
        by_cases h1 : 1 < s.size
        · cases hd1 : isD s[1]
          · exact next_mark s w h0 hs hn hd hq (.inr (.inr ⟨h45, h1, hd1⟩))
          exact next_num s w h0 hs he hn (.inr ⟨hd, h45, h1, hd1⟩)
        exact next_mark s w h0 hs hn hd hq (.inr (.inl ⟨h45, by omega⟩))
      exact next_str s w h0 hs hn hq
    exact next_num s w h0 hs he hn (.inl hd)
  exact next_word s w h0 hs hn
theorem markOf_len : ∀ (ms : List (List UInt8)) (s m : List UInt8), (∀ x ∈ ms, 1 <= x.length) -> markOf s ms = some m -> 1 <= m.length /\ m.length <= s.length
  | [], s, m, _, h => by simp [markOf] at h
  | x :: r, s, m, hx, h => by
    unfold markOf at h
    by_cases hp : x.isPrefixOf s = true
    · rw [if_pos hp] at h
      injection h with h
      subst h
      exact ⟨hx x (by simp), (List.isPrefixOf_iff_prefix.1 hp).length_le⟩
    · rw [if_neg hp] at h
      exact markOf_len r s m (fun y hy => hx y (by simp [hy])) h
theorem next_len (s : List UInt8) (h0 : 0 < s.length) (he : (next s).2.2 = 0) : 1 <= (next s).2.1 /\ (next s).2.1 <= s.length := by
  have hw := scan_le (okW s) s.length 0
  have hn := scan_le (okN s) (s.length - 1) 1
  have hn1 := scan_ge (okN s) (s.length - 1) 1
  have hw' : wordN s <= s.length := by unfold wordN; omega
  have hn' : numN s <= s.length /\ 1 <= numN s := by unfold numN; omega
  have hc := cont_le (s.drop 1) false [] 0
  have hd : (s.drop 1).length = s.length - 1 := by simp
  have hm := markOf_len marks s
  unfold next at he ⊢
  split at he
  · rename_i h1
    rw [if_pos h1]
    refine ⟨?_, ?_⟩ <;> repeat' split
    all_goals first
      | (simp_all; done)
      | (simp only; omega)
      | (simp_all; omega)
  rename_i h1
  rw [if_neg h1]
  split at he
  · rename_i h2
    rw [if_pos h2]
    split
    · exact ⟨hn'.2, hn'.1⟩
    simp_all
  rename_i h2
  rw [if_neg h2]
  split at he
  · rename_i h3
    rw [if_pos h3]
    split
    · simp only; omega
    simp_all
  · rename_i h3
    rw [if_neg h3]
    cases hk : markOf s marks with
    | none => rw [hk] at he; simp at he
    | some m => exact hm m (by decide) hk
theorem info_tok : (Tryz.prog.info? 220).map (fun i => (i.zero, i.size, i.bytes)) = some (some (.agg #[.int .i64 0, .string ⟨#[]⟩, .int .i64 0, .int .i64 0]), 4, 40) := by kernel_rfl
def tokC (t : Tok) : List Value := [.int .i64 t.kind, .string ⟨t.text.toArray⟩, .int .i64 t.n, .int .i64 t.line]
def toksC (L : List Tok) : List Value := L.flatMap tokC
theorem toksC_snoc (L : List Tok) (t : Tok) : toksC (L ++ [t]) = toksC L ++ tokC t := by unfold toksC; simp
theorem own_ext {w w' : World} {B n : Nat} {e : TypeId} {v : Value} {size : Nat} {xs : List Value} (h : w.ownsRow B e size v n xs) (x : Ext w w') : w'.ownsRow B e size v n xs := by
  refine ⟨h.1, ?_⟩
  rcases h.2 with h1 | ⟨g, cap, cur, hv, hb, hg, r⟩
  · exact .inl h1
  refine .inr ⟨g, cap, cur, hv, hb, ?_, r⟩
  rw [x.block g (Array.getElem?_eq_some_iff.1 hg).1]; exact hg
theorem cut_nl : ∀ s : List UInt8, (cut s [10]).2.1 = (skip s).1 /\ (cut s [10]).2.2 = (skip s).2
  | [] => by simp [cut, index, skip]
  | b :: r => by
    have ih := cut_nl r
    have hg := index_ge r [10]
    unfold cut at ih ⊢
    unfold skip index
    by_cases hb : b = 10
    · subst hb; simp [List.isPrefixOf]
    · have hb2 : ((10 : UInt8) == b) = false := by simpa using fun h => hb h.symm
      simp only [List.isPrefixOf, hb2, Bool.false_and, Bool.false_eq_true, if_false, hb]
      rw [<- ih.1, <- ih.2]
      by_cases h1 : index r [10] = -1
      · simp [h1]
      have h2 : (index r [10] == -1) = false := by simpa using h1
      have h3 : 0 <= index r [10] := by omega
      simp only [h2, Bool.false_eq_true, if_false, h3, if_true]
      rw [if_pos (by omega), show (index r [10] + 1).toNat = (index r [10]).toNat + 1 by omega]
      simp
theorem skip_len : ∀ s : List UInt8, (skip s).1.length + (if (skip s).2 then 1 else 0) <= s.length
  | [] => by simp [skip]
  | b :: r => by
    have ih := skip_len r
    unfold skip
    by_cases hb : b = 10
    · rw [if_pos hb]; simp
    · rw [if_neg hb]; simp only [List.length_cons]; omega
theorem cutnl_n (s a : ByteArray) (p : Bool) (w : World) (hs : s.size < 4294967281) (he : Env w) (ha : (⟨(skip s.data.toList).1.toArray⟩ : ByteArray) = a) (hp : (skip s.data.toList).2 = p) :
    Calls Tryz.prog 113 #[.string s, .string ⟨#[10]⟩] w fun e w' => (∃ b, e = .returned (.tuple #[.string b, .string a, .bool p])) /\ Ext w w' := by
  subst ha; subst hp
  obtain ⟨m, hm⟩ := he.2
  have h := Tryz.strings_Cut s ⟨#[10]⟩ m w hs hm
  rw [show (⟨#[10]⟩ : ByteArray).data.toList = [10] from rfl, (cut_nl s.data.toList).1, (cut_nl s.data.toList).2] at h
  refine h.mono ?_
  rintro e w' ⟨rfl, n, rfl⟩
  exact ⟨⟨_, rfl⟩, (Ext.refl _).drewN n⟩
theorem tokz_ways (f : Nat) (ln : Int) (L : List Tok) (c : UInt8) (r : List UInt8) (R : List Tok × Int × Int) (h : R = tokz (f + 1) ln L (c :: r)) :
    (c.toNat = 10 /\ Hid (R = tokz f (ln + 1) L r)) \/
    (c.toNat = 32 /\ Hid (R = tokz f ln L r)) \/
    (c.toNat = 9 /\ Hid (R = tokz f ln L r)) \/
    (c.toNat = 35 /\ Hid (R = tokz f (if (skip (c :: r)).2 then ln + 1 else ln) L (skip (c :: r)).1)) \/
    (c.toNat ≠ 10 /\ c.toNat ≠ 32 /\ c.toNat ≠ 9 /\ c.toNat ≠ 35 /\ (next (c :: r)).2.2 = 0 /\ Hid (R = tokz f ln (L ++ [{ (next (c :: r)).1 with line := ln }]) ((c :: r).drop (next (c :: r)).2.1))) \/
    (c.toNat ≠ 10 /\ c.toNat ≠ 32 /\ c.toNat ≠ 9 /\ c.toNat ≠ 35 /\ (next (c :: r)).2.2 ≠ 0 /\ Hid (R = ([], ln, (next (c :: r)).2.2))) := by
  have q : ∀ k : UInt8, c = k ↔ c.toNat = k.toNat := fun k => ⟨fun e => by rw [e], fun e => UInt8.toNat_inj.1 e⟩
  have q10 := q 10; have q32 := q 32; have q9 := q 9; have q35 := q 35
  rw [show (10 : UInt8).toNat = 10 from rfl] at q10
  rw [show (32 : UInt8).toNat = 32 from rfl] at q32
  rw [show (9 : UInt8).toNat = 9 from rfl] at q9
  rw [show (35 : UInt8).toNat = 35 from rfl] at q35
  unfold tokz at h
  dsimp only at h
  by_cases h1 : c = 10
  · rw [if_pos h1] at h; exact .inl ⟨q10.1 h1, Lib.hid h⟩
  rw [if_neg h1] at h
  by_cases h2 : c = 32
  · rw [if_pos (by simp [h2])] at h; exact .inr (.inl ⟨q32.1 h2, Lib.hid h⟩)
  by_cases h3 : c = 9
  · rw [if_pos (by simp [h3])] at h; exact .inr (.inr (.inl ⟨q9.1 h3, Lib.hid h⟩))
  rw [if_neg (by simp [h2, h3])] at h
  by_cases h4 : c = 35
  · rw [if_pos h4] at h; exact .inr (.inr (.inr (.inl ⟨q35.1 h4, Lib.hid h⟩)))
  rw [if_neg h4] at h
  have k1 : c.toNat ≠ 10 := fun e => h1 (q10.2 e)
  have k2 : c.toNat ≠ 32 := fun e => h2 (q32.2 e)
  have k3 : c.toNat ≠ 9 := fun e => h3 (q9.2 e)
  have k4 : c.toNat ≠ 35 := fun e => h4 (q35.2 e)
  by_cases h5 : (next (c :: r)).2.2 = 0
  · rw [if_pos h5] at h; exact .inr (.inr (.inr (.inr (.inl ⟨k1, k2, k3, k4, h5, Lib.hid h⟩))))
  rw [if_neg h5] at h; exact .inr (.inr (.inr (.inr (.inr ⟨k1, k2, k3, k4, h5, Lib.hid h⟩))))
end Go.Proofs.YtjaeedbjknejdaaGreatDoor.Lx

namespace Go.Proofs.YtjaeedbjknejdaaGreatDoor.Lx
open Go.Lib Fx
theorem tokz_cons (f : Nat) (ln : Int) (L : List Tok) (c : UInt8) (r : List UInt8) : tokz (f + 1) ln L (c :: r) =
    if c = 10 then tokz f (ln + 1) L r
    else if c = 32 || c = 9 then tokz f ln L r
    else if c = 35 then tokz f (if (skip (c :: r)).2 then ln + 1 else ln) L (skip (c :: r)).1
    else if (next (c :: r)).2.2 = 0 then tokz f ln (L ++ [⟨(next (c :: r)).1.kind, (next (c :: r)).1.text, (next (c :: r)).1.n, ln⟩]) ((c :: r).drop (next (c :: r)).2.1)
    else ([], ln, (next (c :: r)).2.2) := rfl
theorem tokz_nil (f : Nat) (ln : Int) (L : List Tok) : tokz f ln L [] = (L, 0, 0) := by cases f <;> rfl
theorem skip_le : ∀ s : List UInt8, (skip s).1.length <= s.length
  | [] => by simp [skip]
  | b :: r => by
    have ih := skip_le r
    unfold skip
    by_cases hb : b = 10
    · rw [if_pos hb]; simp
    · rw [if_neg hb]; simp only [List.length_cons]; omega
theorem skip_cons {c : UInt8} (r : List UInt8) (h : c ≠ 10) : skip (c :: r) = skip r := by
  show (if c = 10 then (r, true) else skip r) = skip r
  rw [if_neg h]
theorem tokz_fuel (hn : ∀ s : List UInt8, 0 < s.length -> (next s).2.2 = 0 -> 1 <= (next s).2.1) : ∀ (k : Nat) (s : List UInt8), s.length <= k -> ∀ (f g : Nat) (ln : Int) (L : List Tok), s.length <= f -> s.length <= g -> tokz f ln L s = tokz g ln L s := by
  intro k
  induction k with
  | zero =>
    intro s hs f g ln L _ _
    have : s = [] := List.eq_nil_of_length_eq_zero (by omega)
    subst this
    rw [tokz_nil, tokz_nil]
  | succ k ih =>
    intro s hs f g ln L hf hg
    cases s with
    | nil => rw [tokz_nil, tokz_nil]
    | cons c r =>
      simp only [List.length_cons] at hs hf hg
      obtain ⟨f, rfl⟩ : ∃ f', f = f' + 1 := ⟨f - 1, by omega⟩
      obtain ⟨g, rfl⟩ : ∃ g', g = g' + 1 := ⟨g - 1, by omega⟩
      rw [tokz_cons, tokz_cons]
      by_cases h1 : c = 10
      · rw [if_pos h1, if_pos h1]; exact ih r (by omega) f g _ L (by omega) (by omega)
      rw [if_neg h1, if_neg h1]
      by_cases h2 : (decide (c = 32) || decide (c = 9)) = true
      · rw [if_pos h2, if_pos h2]; exact ih r (by omega) f g _ L (by omega) (by omega)
      rw [if_neg h2, if_neg h2]
      by_cases h3 : c = 35
      · rw [if_pos h3, if_pos h3]
        have := skip_le r
        rw [skip_cons r h1]
        exact ih _ (by omega) f g _ L (by omega) (by omega)
      rw [if_neg h3, if_neg h3]
      by_cases h4 : (next (c :: r)).2.2 = 0
      · rw [if_pos h4, if_pos h4]
        have := hn (c :: r) (by simp) h4
        have hd : ((c :: r).drop (next (c :: r)).2.1).length <= r.length := by rw [List.length_drop, List.length_cons]; omega
        exact ih _ (by omega) f g _ _ (by omega) (by omega)
      · rw [if_neg h4, if_neg h4]
end Go.Proofs.YtjaeedbjknejdaaGreatDoor.Lx

namespace Go.Proofs.YtjaeedbjknejdaaGreatDoor.Lx
open Go.Lib Fx
def plainB (l : List UInt8) : Bool := l.all (fun b => decide (32 <= b.toNat /\ b.toNat <= 126))
def escB (b : UInt8) : List UInt8 := if b = 34 \/ b = 92 then [92, b] else [b]
def escL (l : List UInt8) : List UInt8 := l.flatMap escB
def quote (l : List UInt8) : List UInt8 × Int :=
  if 32 < l.length then ([], 2) else if !plainB l then ([], 1) else (34 :: (escL l ++ [34]), 0)
theorem contents_esc (rest : List UInt8) : ∀ (l acc : List UInt8) (i : Nat), plainB l = true -> acc.length + l.length <= 32 -> contents false acc i (escL l ++ 34 :: rest) = (acc ++ l, i + (escL l).length + 1, 0)
  | [], acc, i, _, _ => by
    show contents false acc i (34 :: rest) = _
    unfold contents
    rw [if_neg (by decide), if_neg (by decide), if_pos (by decide)]
    simp [escL]
  | b :: r, acc, i, hp, hl => by
    simp only [plainB, List.all_cons, Bool.and_eq_true, decide_eq_true_eq] at hp
    obtain ⟨⟨h1, h2⟩, hr⟩ := hp
    simp only [List.length_cons] at hl
    have ih := contents_esc rest r (acc ++ [b])
    have e : escL (b :: r) = escB b ++ escL r := rfl
    rw [e]
    have k1 : ¬ b.toNat = 10 := by omega
    have k2 : decide (b.toNat < 32) = false := by simp; omega
    have k3 : decide (126 < b.toNat) = false := by simp; omega
    have k4 : ¬ 32 < acc.length + 1 := by omega
    by_cases hb : b = 34 \/ b = 92
    · have e2 : escB b = [92, b] := if_pos hb
      rw [e2]
      show contents false acc i (92 :: b :: (escL r ++ 34 :: rest)) = _
      have s1 : contents false acc i (92 :: b :: (escL r ++ 34 :: rest)) = contents true acc (i + 1) (b :: (escL r ++ 34 :: rest)) := by
        show (if (92 : UInt8).toNat = 10 then _ else _) = _
        rw [if_neg (by decide), if_neg (by decide), if_neg (by decide), if_pos (by decide)]
      have s2 : contents true acc (i + 1) (b :: (escL r ++ 34 :: rest)) = contents false (acc ++ [b]) (i + 1 + 1) (escL r ++ 34 :: rest) := by
        show (if b.toNat = 10 then _ else _) = _
        have q : (true && !(b.toNat == 34) && !(b.toNat == 92)) = false := by rcases hb with rfl | rfl <;> rfl
        rw [if_neg k1, q, k2, k3, if_neg (by simp), if_neg (by simp), if_neg (by simp), if_neg k4]
      rw [s1, s2, ih _ hr (by simp; omega)]
      simp; omega
    · have e2 : escB b = [b] := if_neg hb
      rw [e2]
      show contents false acc i (b :: (escL r ++ 34 :: rest)) = _
      have n34 : (b.toNat == 34) = false := by rw [beq_eq_false_iff_ne]; intro e; exact hb (.inl (UInt8.toNat_inj.1 e))
      have n92 : (b.toNat == 92) = false := by rw [beq_eq_false_iff_ne]; intro e; exact hb (.inr (UInt8.toNat_inj.1 e))
      have s2 : contents false acc i (b :: (escL r ++ 34 :: rest)) = contents false (acc ++ [b]) (i + 1) (escL r ++ 34 :: rest) := by
        show (if b.toNat = 10 then _ else _) = _
        rw [if_neg k1, k2, k3, n34, n92, if_neg (by simp), if_neg (by simp), if_neg (by simp), if_neg k4]
      rw [s2, ih _ hr (by simp; omega)]
      simp; omega
theorem wordN_quote (r : List UInt8) : wordN (34 :: r) = 0 := by
  unfold wordN
  rw [List.length_cons]
  show (if okW (34 :: r) 0 then _ else 0) = 0
  rw [show okW (34 :: r) 0 = false from rfl]; rfl
theorem next_quote (l rest : List UInt8) (hp : plainB l = true) (hl : l.length <= 32) : next (34 :: (escL l ++ 34 :: rest)) = (⟨4, l, 0, 0⟩, (escL l).length + 2, 0) := by
  unfold next
  rw [wordN_quote, if_neg (by omega)]
  rw [show (isD (bt (34 :: (escL l ++ 34 :: rest)) 0) || (bt (34 :: (escL l ++ 34 :: rest)) 0 == 45 && decide (1 < (34 :: (escL l ++ 34 :: rest)).length) && isD (bt (34 :: (escL l ++ 34 :: rest)) 1))) = false from by
    show (isD 34 || ((34 : UInt8) == 45 && _ && _)) = false
    rw [show isD 34 = false from rfl, show ((34 : UInt8) == 45) = false from rfl]; simp]
  rw [if_neg (by simp), if_pos (by rfl)]
  rw [List.drop_succ_cons, List.drop_zero, contents_esc rest l [] 0 hp (by simpa using hl)]
  rw [if_pos rfl]
  simp
theorem escL_le : ∀ l : List UInt8, (escL l).length <= 2 * l.length
  | [] => Nat.le_refl _
  | b :: r => by
    have ih := escL_le r
    have e : escL (b :: r) = escB b ++ escL r := rfl
    have hb : (escB b).length <= 2 := by unfold escB; split <;> simp
    rw [e, List.length_append, List.length_cons]; omega
end Go.Proofs.YtjaeedbjknejdaaGreatDoor.Lx
