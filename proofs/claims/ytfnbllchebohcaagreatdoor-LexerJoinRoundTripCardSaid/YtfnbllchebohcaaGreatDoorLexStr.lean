/- What the lexer's next returns at a string and at a mark. -/
import Derived.Test.YtfnbllchebohcaaGreatDoorLexNext
namespace Go.Proofs.YtfnbllchebohcaaGreatDoor.Lx
open Go.RowKit Go.Sort Go.Lib Go.Shelf Fx

theorem cont_le : ∀ (l : List UInt8) (esc : Bool) (acc : List UInt8) (i : Nat), (contents esc acc i l).2.1 ≤ i + l.length
  | [], _, _, _ => Nat.zero_le _
  | c :: r, esc, acc, i => by
    unfold contents
    have h1 := cont_le r true acc (i + 1)
    have h2 := cont_le r false (acc ++ [c]) (i + 1)
    repeat' split
    all_goals simp only [List.length_cons] at *
    all_goals omega

set_option maxHeartbeats 8000000 in
theorem next_str (s : ByteArray) (w : World) (h0 : 0 < s.size) (hs : s.size ≤ 16384) (hn : wordN s.data.toList = 0) (hq : ((s[0].toNat : Int) == 34) = true) :
    Calls Tryz.prog 20 #[.string s] w fun e w' => e = .returned (nextV (next s.data.toList)) ∧ Ext w w' := by
  have hq0 : s[0].toNat = 34 := by rw [beq_iff_eq] at hq; omega
  have hd0 : isD s[0] = false := by unfold isD; rw [decide_eq_false]; omega
  have e45 : (45 : UInt8).toNat = 45 := rfl
  have e34 : (34 : UInt8).toNat = 34 := rfl
  have h45 : (s[0] == 45) = false := by rw [beq_eq_false_iff_ne]; intro e; have := congrArg UInt8.toNat e; omega
  have h34 : (s[0] == 34) = true := by rw [beq_iff_eq]; exact UInt8.toNat_inj.1 (by omega)
  have e1 : (s.extract 1 s.size).data.toList = s.data.toList.drop 1 := by rw [extract_from]
  obtain ⟨T, n, c, hT⟩ : ∃ T n c, contents false [] 0 (s.extract 1 s.size).data.toList = (T, n, c) := ⟨_, _, _, rfl⟩
  have hx : next s.data.toList = if c = 0 then (⟨4, T, 0, 0⟩, n + 1, 0) else (⟨0, [], 0, 0⟩, 0, c) := by
    unfold next
    rw [if_neg (by omega), bt_at s 0 h0, hd0, h45, h34, ← e1, hT]
    simp
  have hw := word_any s (by omega)
  rw [hn] at hw
  have hc0 := contents_any (s.extract 1 s.size) (by simp; omega)
  rw [hT] at hc0
  have hdg := digit_any s[0]
  rw [hd0] at hdg
  have q45 : ((s[0].toNat : Int) == 45) = false := by rw [beq_eq_false_iff_ne]; omega
  have hnb : (n : Int) ≤ 16384 := by
    have h1 := cont_le (s.extract 1 s.size).data.toList false [] 0
    rw [hT, e1] at h1
    have h2 : (s.data.toList.drop 1).length = s.size - 1 := by simp
    simp only at h1
    omega
  have HW := Lib.hid hw; have HX := Lib.hid hx; have HC := Lib.hid hc0; have HDG := Lib.hid hdg; have HNB := Lib.hid hnb
  clear hw hx hc0 hdg hT e1 h34 h45 e34 e45 hd0 hq0 hn
  generalize next s.data.toList = NX at HX ⊢
  go_enter Tryz.func20, Tryz.ntmps20
  go_wp2_with fail
  refine (HW.out _).mono ?_
  rintro e w1 ⟨rfl, rfl⟩
  go_wp2_with fail
  refine (HDG.out _).mono ?_
  rintro e w1 ⟨rfl, rfl⟩
  go_wp2_with fail
  refine (HC.out _).mono ?_
  rintro e w1 ⟨rfl, x1⟩
  obtain ⟨⟨y0, y1, y2, y3⟩, z0, z1, z2, z3⟩ := cells4 (kept_alloc x1)
  have Y := fun a' b' c' d' => set4r (kept_alloc x1) a' b' c' d'
  unfold contV
  by_cases hc : c = 0
  · subst hc
    have hf : Hid (NX = (⟨4, T, 0, 0⟩, n + 1, 0)) := Lib.hid (by rw [HX.out]; rfl)
    obtain ⟨u0, u1, u2, u3⟩ := Y (.int .i64 4) (.string ⟨T.toArray⟩) (.int .i64 0) (.int .i64 0)
    have hnb := HNB.out
    clear HX Y
    go_wp2
    try simp only [Exit.inBlock, Exit.then]
    refine bodyPost_ret (by simp [results, Tryz.results20, go_sem, u0, u1, u2, u3]; try rfl) rfl ?_
    refine ⟨ret_val (by rw [hf.out]; rfl), ext_set4 (((Ext.refl _).alloc _).trans x1) (Nat.le_refl _) _ _ _ _⟩
  · have hf : Hid (NX = (⟨0, [], 0, 0⟩, 0, c)) := Lib.hid (by rw [HX.out]; exact if_neg hc)
    obtain ⟨u0, u1, u2, u3⟩ := Y (.int .i64 0) (.string ⟨#[]⟩) (.int .i64 0) (.int .i64 0)
    clear HX Y
    go_wp2
    try simp only [Exit.inBlock, Exit.then]
    refine bodyPost_ret (by simp [results, Tryz.results20, go_sem, u0, u1, u2, u3]; try rfl) rfl ?_
    exact ⟨ret_val (by rw [hf.out]; rfl), ext_set4 (((Ext.refl _).alloc _).trans x1) (Nat.le_refl _) _ _ _ _⟩

theorem beq_int (c k : UInt8) : (c == k) = ((c.toNat : Int) == (k.toNat : Int)) := by
  by_cases h : c = k
  · subst h; simp
  · have h1 : (c == k) = false := by rw [beq_eq_false_iff_ne]; exact h
    have h2 : ((c.toNat : Int) == (k.toNat : Int)) = false := by rw [beq_eq_false_iff_ne]; intro e; exact h (UInt8.toNat_inj.1 (by omega))
    rw [h1, h2]
theorem next_is_mark (s : List UInt8) (hn : wordN s = 0) (hd : (isD (bt s 0) || (bt s 0 == 45 && decide (1 < s.length) && isD (bt s 1))) = false) (hq : (bt s 0 == 34) = false) :
    next s = match markOf s marks with | some m => (⟨5, m, 0, 0⟩, m.length, 0) | none => (⟨0, [], 0, 0⟩, 0, 4) := by
  unfold next
  rw [if_neg (by omega), hd, hq]; rfl
theorem marks_len : ∀ k, (h : k < 10) → marks[k].length ≤ 2 := by decide
def marksV : Array Value := #[.string ⟨#[45, 62]⟩, .string ⟨#[45, 45]⟩, .string ⟨#[123]⟩, .string ⟨#[125]⟩, .string ⟨#[91]⟩, .string ⟨#[93]⟩, .string ⟨#[59]⟩, .string ⟨#[44]⟩, .string ⟨#[61]⟩, .string ⟨#[58]⟩]
theorem marksV_at (k : Nat) (h : k < 10) : marksV[k]? = some (.string ⟨(marks[k]'h).toArray⟩) := by
  have : k = 0 ∨ k = 1 ∨ k = 2 ∨ k = 3 ∨ k = 4 ∨ k = 5 ∨ k = 6 ∨ k = 7 ∨ k = 8 ∨ k = 9 := by omega
  rcases this with rfl | rfl | rfl | rfl | rfl | rfl | rfl | rfl | rfl | rfl <;> rfl

theorem marks_any (w : World) : Calls Tryz.prog 37 #[] w fun e w' => e = .returned (.slice (some ⟨w.heap.size, 0, none⟩) 10 10) ∧ w' = w.alloc (.cells marksV 9) := by
  go_enter Tryz.func37, Tryz.ntmps37
  go_wp2
  go_ret
  exact ⟨rfl, rfl⟩

set_option maxHeartbeats 8000000 in
theorem next_mark (s : ByteArray) (w : World) (h0 : 0 < s.size) (hs : s.size ≤ 16384) (hn : wordN s.data.toList = 0) (hd : isD s[0] = false) (hq : ((s[0].toNat : Int) == 34) = false)
    (hm : ((s[0].toNat : Int) == 45) = false ∨ ((s[0].toNat : Int) == 45) = true ∧ s.size ≤ 1 ∨ ((s[0].toNat : Int) == 45) = true ∧ ∃ h1 : 1 < s.size, isD s[1] = false) :
    Calls Tryz.prog 20 #[.string s] w fun e w' => e = .returned (nextV (next s.data.toList)) ∧ Ext w w' := by
  have hx : next s.data.toList = match markOf s.data.toList (marks.drop 0) with | some m => (⟨5, m, 0, 0⟩, m.length, 0) | none => (⟨0, [], 0, 0⟩, 0, 4) := by
    refine next_is_mark s.data.toList hn ?_ ?_
    · rw [bt_at s 0 h0, hd, Bool.false_or]
      rcases hm with hm | ⟨_, hm⟩ | ⟨_, h1, hm⟩
      · rw [beq_int s[0] 45, show (((45 : UInt8).toNat : Nat) : Int) = 45 from rfl, hm]; rfl
      · rw [decide_eq_false (show ¬ 1 < s.data.toList.length by rw [← size_len]; omega)]; simp
      · rw [bt_at s 1 h1, hm]; simp
    · rw [bt_at s 0 h0, beq_int s[0] 34, show (((34 : UInt8).toNat : Nat) : Int) = 34 from rfl, hq]
  have hw := word_any s (by omega)
  rw [hn] at hw
  have hdg := digit_any s[0]
  rw [hd] at hdg
  have HW := Lib.hid hw; have HX := Lib.hid hx; have HDG := Lib.hid hdg
  have HPF : Hid (∀ (p : ByteArray) (w : World), Calls Tryz.prog 38 #[.string s, .string p] w fun e w' => e = .returned (.bool (Lib.hasPrefix s.data.toList p.data.toList)) ∧ w' = w) := Lib.hid (fun p w => Tryz.strings_HasPrefix s p w)
  clear hw hx hdg hn hd
  generalize next s.data.toList = NX at HX ⊢
  rcases hm with hm | hm | hm
  · go_enter Tryz.func20, Tryz.ntmps20
    go_wp2_with fail
    refine (HW.out _).mono ?_
    rintro e w1 ⟨rfl, rfl⟩
    go_wp2_with fail
    refine (HDG.out _).mono ?_
    rintro e w1 ⟨rfl, rfl⟩
    go_wp2_with fail
    refine (marks_any _).mono ?_
    rintro e w1 ⟨rfl, rfl⟩
    go_wp2_with fail
    go_loop [111] (fun i' => ∃ k : Nat, k ≤ 10 ∧ Hid (NX = match markOf s.data.toList (marks.drop k) with | some m => (⟨5, m, 0, 0⟩, m.length, 0) | none => (⟨0, [], 0, 0⟩, 0, 4)) ∧ i' = .int .i64 k) (fun i' => 10 - (RowKit.intOf i').toNat)
    case atStart => exact ⟨0, by omega, HX, rfl⟩
    case round =>
      obtain ⟨k, hk, ha, rfl⟩ := hrel
      clear HX
      by_cases hlt : k < 10
      · have hcell : ((w.alloc (.cells #[.int .i64 0, .string ⟨#[]⟩, .int .i64 0, .int .i64 0] 31)).alloc (.cells marksV 9)).cell? ⟨w.heap.size + 1, k, none⟩ = some (.string ⟨(marks[k]'hlt).toArray⟩) := by
          have h := heap_alloc_new (w.alloc (.cells #[.int .i64 0, .string ⟨#[]⟩, .int .i64 0, .int .i64 0] 31)) (.cells marksV 9)
          rw [World.size_alloc] at h
          rw [Lib.cell_of_heap h]; exact marksV_at k hlt
        have hst := ha.out
        rw [List.drop_eq_getElem_cons (show k < marks.length from hlt)] at hst
        have hml := marks_len k hlt
        have hpf := HPF.out ⟨(marks[k]'hlt).toArray⟩
        obtain ⟨m, hm'⟩ : ∃ m, marks[k]'hlt = m := ⟨_, rfl⟩
        rw [hm'] at hcell hml hpf
        rw [show marks[k]'(show k < marks.length from hlt) = m from hm'] at hst
        unfold markOf at hst
        have hpe : Lib.hasPrefix s.data.toList (⟨m.toArray⟩ : ByteArray).data.toList = m.isPrefixOf s.data.toList := rfl
        rw [hpe] at hpf
        have HPQ := Lib.hid hpf
        cases hp : m.isPrefixOf s.data.toList
        · rw [hp] at hst HPQ
          have HF := Lib.hid hst
          clear hst ha hpf hpe hm' hp hml
          go_wp2_with fail
          refine (HPQ.out _).mono ?_
          rintro e w1 ⟨rfl, rfl⟩
          go_wp2
          go_round
          case rel => exact ⟨k + 1, by omega, HF, by go_num⟩
          case measure => simp [RowKit.intOf]; omega
        · rw [hp] at hst HPQ
          have hf : Hid (NX = (⟨5, m, 0, 0⟩, m.length, 0)) := Lib.hid hst
          have hms : (⟨m.toArray⟩ : ByteArray).size = m.length := size_mk m
          clear hst ha hpf hpe hm' hp
          go_wp2_with fail
          refine (HPQ.out _).mono ?_
          rintro e w1 ⟨rfl, rfl⟩
          go_wp2
          go_returns
          refine ⟨ret_val (by rw [hf.out]; rfl), ?_⟩
          exact ((Ext.refl _).alloc _).alloc _
      · obtain rfl : k = 10 := by omega
        have hf : Hid (NX = (⟨0, [], 0, 0⟩, 0, 4)) := Lib.hid ha.out
        clear ha
        go_wp2
        go_returns
        refine ⟨ret_val (by rw [hf.out]; rfl), ?_⟩
        exact ((Ext.refl _).alloc _).alloc _
  · obtain ⟨hm, hsz⟩ := hm
    go_enter Tryz.func20, Tryz.ntmps20
    go_wp2_with fail
    refine (HW.out _).mono ?_
    rintro e w1 ⟨rfl, rfl⟩
    go_wp2_with fail
    refine (HDG.out _).mono ?_
    rintro e w1 ⟨rfl, rfl⟩
    go_wp2_with fail
    refine (marks_any _).mono ?_
    rintro e w1 ⟨rfl, rfl⟩
    go_wp2_with fail
    go_loop [111] (fun i' => ∃ k : Nat, k ≤ 10 ∧ Hid (NX = match markOf s.data.toList (marks.drop k) with | some m => (⟨5, m, 0, 0⟩, m.length, 0) | none => (⟨0, [], 0, 0⟩, 0, 4)) ∧ i' = .int .i64 k) (fun i' => 10 - (RowKit.intOf i').toNat)
    case atStart => exact ⟨0, by omega, HX, rfl⟩
    case round =>
      obtain ⟨k, hk, ha, rfl⟩ := hrel
      clear HX
      by_cases hlt : k < 10
      · have hcell : ((w.alloc (.cells #[.int .i64 0, .string ⟨#[]⟩, .int .i64 0, .int .i64 0] 31)).alloc (.cells marksV 9)).cell? ⟨w.heap.size + 1, k, none⟩ = some (.string ⟨(marks[k]'hlt).toArray⟩) := by
          have h := heap_alloc_new (w.alloc (.cells #[.int .i64 0, .string ⟨#[]⟩, .int .i64 0, .int .i64 0] 31)) (.cells marksV 9)
          rw [World.size_alloc] at h
          rw [Lib.cell_of_heap h]; exact marksV_at k hlt
        have hst := ha.out
        rw [List.drop_eq_getElem_cons (show k < marks.length from hlt)] at hst
        have hml := marks_len k hlt
        have hpf := HPF.out ⟨(marks[k]'hlt).toArray⟩
        obtain ⟨m, hm'⟩ : ∃ m, marks[k]'hlt = m := ⟨_, rfl⟩
        rw [hm'] at hcell hml hpf
        rw [show marks[k]'(show k < marks.length from hlt) = m from hm'] at hst
        unfold markOf at hst
        have hpe : Lib.hasPrefix s.data.toList (⟨m.toArray⟩ : ByteArray).data.toList = m.isPrefixOf s.data.toList := rfl
        rw [hpe] at hpf
        have HPQ := Lib.hid hpf
        cases hp : m.isPrefixOf s.data.toList
        · rw [hp] at hst HPQ
          have HF := Lib.hid hst
          clear hst ha hpf hpe hm' hp hml
          go_wp2_with fail
          refine (HPQ.out _).mono ?_
          rintro e w1 ⟨rfl, rfl⟩
          go_wp2
          go_round
          case rel => exact ⟨k + 1, by omega, HF, by go_num⟩
          case measure => simp [RowKit.intOf]; omega
        · rw [hp] at hst HPQ
          have hf : Hid (NX = (⟨5, m, 0, 0⟩, m.length, 0)) := Lib.hid hst
          have hms : (⟨m.toArray⟩ : ByteArray).size = m.length := size_mk m
          clear hst ha hpf hpe hm' hp
          go_wp2_with fail
          refine (HPQ.out _).mono ?_
          rintro e w1 ⟨rfl, rfl⟩
          go_wp2
          go_returns
          refine ⟨ret_val (by rw [hf.out]; rfl), ?_⟩
          exact ((Ext.refl _).alloc _).alloc _
      · obtain rfl : k = 10 := by omega
        have hf : Hid (NX = (⟨0, [], 0, 0⟩, 0, 4)) := Lib.hid ha.out
        clear ha
        go_wp2
        go_returns
        refine ⟨ret_val (by rw [hf.out]; rfl), ?_⟩
        exact ((Ext.refl _).alloc _).alloc _
  · obtain ⟨hm, h1, hd1⟩ := hm
    have hdg1 := digit_any s[1]
    rw [hd1] at hdg1
    have HDG1 := Lib.hid hdg1
    clear hdg1 hd1
    go_enter Tryz.func20, Tryz.ntmps20
    go_wp2_with fail
    refine (HW.out _).mono ?_
    rintro e w1 ⟨rfl, rfl⟩
    go_wp2_with fail
    refine (HDG.out _).mono ?_
    rintro e w1 ⟨rfl, rfl⟩
    go_wp2_with fail
    refine (HDG1.out _).mono ?_
    rintro e w1 ⟨rfl, rfl⟩
    go_wp2_with fail
    refine (marks_any _).mono ?_
    rintro e w1 ⟨rfl, rfl⟩
    go_wp2_with fail
    go_loop [111] (fun i' => ∃ k : Nat, k ≤ 10 ∧ Hid (NX = match markOf s.data.toList (marks.drop k) with | some m => (⟨5, m, 0, 0⟩, m.length, 0) | none => (⟨0, [], 0, 0⟩, 0, 4)) ∧ i' = .int .i64 k) (fun i' => 10 - (RowKit.intOf i').toNat)
    case atStart => exact ⟨0, by omega, HX, rfl⟩
    case round =>
      obtain ⟨k, hk, ha, rfl⟩ := hrel
      clear HX
      by_cases hlt : k < 10
      · have hcell : ((w.alloc (.cells #[.int .i64 0, .string ⟨#[]⟩, .int .i64 0, .int .i64 0] 31)).alloc (.cells marksV 9)).cell? ⟨w.heap.size + 1, k, none⟩ = some (.string ⟨(marks[k]'hlt).toArray⟩) := by
          have h := heap_alloc_new (w.alloc (.cells #[.int .i64 0, .string ⟨#[]⟩, .int .i64 0, .int .i64 0] 31)) (.cells marksV 9)
          rw [World.size_alloc] at h
          rw [Lib.cell_of_heap h]; exact marksV_at k hlt
        have hst := ha.out
        rw [List.drop_eq_getElem_cons (show k < marks.length from hlt)] at hst
        have hml := marks_len k hlt
        have hpf := HPF.out ⟨(marks[k]'hlt).toArray⟩
        obtain ⟨m, hm'⟩ : ∃ m, marks[k]'hlt = m := ⟨_, rfl⟩
        rw [hm'] at hcell hml hpf
        rw [show marks[k]'(show k < marks.length from hlt) = m from hm'] at hst
        unfold markOf at hst
        have hpe : Lib.hasPrefix s.data.toList (⟨m.toArray⟩ : ByteArray).data.toList = m.isPrefixOf s.data.toList := rfl
        rw [hpe] at hpf
        have HPQ := Lib.hid hpf
        cases hp : m.isPrefixOf s.data.toList
        · rw [hp] at hst HPQ
          have HF := Lib.hid hst
          clear hst ha hpf hpe hm' hp hml
          go_wp2_with fail
          refine (HPQ.out _).mono ?_
          rintro e w1 ⟨rfl, rfl⟩
          go_wp2
          go_round
          case rel => exact ⟨k + 1, by omega, HF, by go_num⟩
          case measure => simp [RowKit.intOf]; omega
        · rw [hp] at hst HPQ
          have hf : Hid (NX = (⟨5, m, 0, 0⟩, m.length, 0)) := Lib.hid hst
          have hms : (⟨m.toArray⟩ : ByteArray).size = m.length := size_mk m
          clear hst ha hpf hpe hm' hp
          go_wp2_with fail
          refine (HPQ.out _).mono ?_
          rintro e w1 ⟨rfl, rfl⟩
          go_wp2
          go_returns
          refine ⟨ret_val (by rw [hf.out]; rfl), ?_⟩
          exact ((Ext.refl _).alloc _).alloc _
      · obtain rfl : k = 10 := by omega
        have hf : Hid (NX = (⟨0, [], 0, 0⟩, 0, 4)) := Lib.hid ha.out
        clear ha
        go_wp2
        go_returns
        refine ⟨ret_val (by rw [hf.out]; rfl), ?_⟩
        exact ((Ext.refl _).alloc _).alloc _
end Go.Proofs.YtfnbllchebohcaaGreatDoor.Lx
