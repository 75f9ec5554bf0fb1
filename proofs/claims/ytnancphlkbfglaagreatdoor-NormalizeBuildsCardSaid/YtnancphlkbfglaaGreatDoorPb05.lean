/- Packed texts: FixForm, LexWalkA, AttMem, AttPorts -/
import Derived.Test.YtnancphlkbfglaaGreatDoorPb04
import Derived.Handy
import Derived.Test.YtnancphlkbfglaaGreatDoorPb01
import Derived.Lib.Builder
set_option linter.unusedVariables false
set_option linter.unusedSimpArgs false
namespace Go.Proofs.YtnancphlkbfglaaGreatDoor.Fx
open Go.RowKit Go.Sort Go.Lib Go.Shelf
theorem isD_dot : isD 46 = false := by decide
theorem splitDot_all : ∀ l : List UInt8, l.all isD = true → splitDot l = (l, [], false)
  | [], _ => rfl
  | b :: r, h => by
    simp only [List.all_cons, Bool.and_eq_true] at h
    have hb : (b == 46) = false := by
      rw [beq_eq_false_iff_ne]; intro e; subst e; rw [isD_dot] at h; exact absurd h.1 (by decide)
    unfold splitDot
    rw [hb, splitDot_all r h.2]; rfl
theorem splitDot_at : ∀ (l : List UInt8) (d : Nat), (l.take d).all isD = true → l[d]? = some 46 → splitDot l = (l.take d, l.drop (d + 1), true)
  | [], d, _, h => by simp at h
  | b :: r, 0, _, h => by
    simp at h; subst h; unfold splitDot; simp
  | b :: r, d + 1, h, hd => by
    simp only [List.take_succ_cons, List.all_cons, Bool.and_eq_true] at h
    have hb : (b == 46) = false := by
      rw [beq_eq_false_iff_ne]; intro e; subst e; rw [isD_dot] at h; exact absurd h.1 (by decide)
    unfold splitDot
    rw [hb, splitDot_at r d h.2 (by simpa using hd)]; simp
def ScI (l : List UInt8) (i dot : Nat) : Prop := (dot = l.length ∧ (l.take i).all isD = true) ∨ (dot < i ∧ dot < l.length ∧ (l.take dot).all isD = true ∧ l[dot]? = some 46 ∧ ((l.take i).drop (dot + 1)).all isD = true)
theorem ScI.start (l : List UInt8) : ScI l 0 l.length := Or.inl ⟨rfl, by simp⟩
theorem ScI.digit {l : List UInt8} {i dot : Nat} (h : ScI l i dot) (hi : i < l.length) (hd : isD l[i] = true) : ScI l (i + 1) dot := by
  have e := List.take_succ_eq_append_getElem hi
  rcases h with ⟨h1, h2⟩ | ⟨h1, h2, h3, h4, h5⟩
  · exact Or.inl ⟨h1, by rw [e, List.all_append, h2]; simp [hd]⟩
  · refine Or.inr ⟨by omega, h2, h3, h4, ?_⟩
    rw [e, List.drop_append, List.all_append, h5]
    have : dot + 1 - (l.take i).length = 0 := by simp; omega
    rw [this]; simp [hd]
theorem ScI.dot {l : List UInt8} {i : Nat} (h : ScI l i l.length) (hi : i < l.length) (hd : l[i] = 46) : ScI l (i + 1) i := by
  rcases h with ⟨h1, h2⟩ | ⟨h1, h2, _⟩
  · refine Or.inr ⟨by omega, hi, h2, by rw [List.getElem?_eq_getElem hi, hd], ?_⟩
    rw [List.drop_eq_nil_of_le (by simp; omega)]; rfl
  · omega
theorem ScI.bad {l : List UInt8} {i dot : Nat} (h : ScI l i dot) (hi : i < l.length) (hd : isD l[i] = false) (hn : ¬ (l[i] = 46 ∧ dot = l.length)) : ((splitDot l).1.all isD && (splitDot l).2.1.all isD) = false := by
  rcases h with ⟨h1, h2⟩ | ⟨h1, h2, h3, h4, h5⟩
  · have h46 : l[i] ≠ 46 := fun e => hn ⟨e, h1⟩
    have key : ∀ (l : List UInt8) (i : Nat) (hi : i < l.length), isD l[i] = false → l[i] ≠ 46 → (l.take i).all isD = true → (splitDot l).1.all isD = false := by
      intro l
      induction l with
      | nil => intro i hi; simp at hi
      | cons b r ih =>
        intro i hi hd h46 ht
        cases i with
        | zero =>
          simp at hd h46
          have hb : (b == 46) = false := by simpa using h46
          unfold splitDot; rw [hb]; simp [hd]
        | succ i =>
          simp only [List.take_succ_cons, List.all_cons, Bool.and_eq_true] at ht
          have hb : (b == 46) = false := by
            rw [beq_eq_false_iff_ne]; intro e; subst e; rw [isD_dot] at ht; exact absurd ht.1 (by decide)
          unfold splitDot; rw [hb]
          have := ih i (by simpa using hi) (by simpa using hd) (by simpa using h46) ht.2
          simp [this]
    rw [key l i hi hd h46 h2]; rfl
  · rw [splitDot_at l dot h3 h4]
    have : (l.drop (dot + 1)).all isD = false := by
      rw [List.all_eq_false]
      refine ⟨l[i], ?_, by simp [hd]⟩
      rw [List.mem_iff_getElem]
      exact ⟨i - (dot + 1), by simp; omega, by simp; congr 1; omega⟩
    simp [this]
theorem ScI.fin {l : List UInt8} {dot : Nat} (h : ScI l l.length dot) : (dot = l.length ∧ splitDot l = (l, [], false) ∧ l.all isD = true) ∨ (dot < l.length ∧ splitDot l = (l.take dot, l.drop (dot + 1), true) ∧ (l.take dot).all isD = true ∧ (l.drop (dot + 1)).all isD = true) := by
  rcases h with ⟨h1, h2⟩ | ⟨h1, h2, h3, h4, h5⟩
  · rw [List.take_length] at h2
    exact Or.inl ⟨h1, splitDot_all l h2, h2⟩
  · rw [List.take_length] at h5
    exact Or.inr ⟨h2, splitDot_at l dot h3 h4, h3, h5⟩
def formV : Option (Bool × List UInt8 × List UInt8) → Value
  | none => .tuple #[.bool false, .string ⟨#[]⟩, .string ⟨#[]⟩, .bool false]
  | some (m, w, p) => .tuple #[.bool m, .string ⟨w.toArray⟩, .string ⟨p.toArray⟩, .bool true]
theorem f3_scan {m pt : Bool} {w p : List UInt8} (h : (w.all isD && p.all isD) = false) : form3 m pt w p = none := by unfold form3; simp [h]
theorem f3_part {m : Bool} {w p : List UInt8} (h : p.length < 1 ∨ 3 < p.length ∨ p[p.length - 1]?.getD 0 = 48) : form3 m true w p = none := by
  unfold form3 partOk
  split
  · rfl
  · rw [if_pos]; rcases h with h | h | h
    · have : p = [] := List.eq_nil_of_length_eq_zero (by omega)
      simp [this]
    · simp; omega
    · simp [h]
theorem f3_word {m pt : Bool} {w p : List UInt8} (h : w = [] ∨ (1 < w.length ∧ w[0]?.getD 0 = 48) ∨ (m = true ∧ w = [48] ∧ p = [])) : form3 m pt w p = none := by
  unfold form3
  split
  · rfl
  · split
    · rfl
    · rw [if_pos]
      rcases h with h | ⟨h1, h2⟩ | ⟨h1, h2, h3⟩
      · simp [h]
      · simp [h1, h2]
      · simp [h1, h2, h3]
theorem f3_ok {m pt : Bool} {w p : List UInt8} (h1 : w.all isD = true) (h2 : p.all isD = true) (h3 : pt = true → 1 ≤ p.length ∧ p.length ≤ 3 ∧ p[p.length - 1]?.getD 0 ≠ 48) (h4 : w ≠ []) (h5 : ¬ (1 < w.length ∧ w[0]?.getD 0 = 48)) (h6 : ¬ (m = true ∧ w = [48] ∧ p = [])) : form3 m pt w p = some (m, w, p) := by
  unfold form3 partOk
  rw [if_neg (by simp [h1, h2]), if_neg, if_neg]
  · intro hc
    simp at hc
    rcases hc with (hc | hc) | hc
    · exact h4 hc
    · exact h5 hc
    · exact h6 ⟨hc.1.1, hc.1.2, hc.2⟩
  · intro hc
    cases pt
    · simp at hc
    · obtain ⟨a, b, c⟩ := h3 rfl
      simp [b, c] at hc
      exact absurd a (by rw [hc]; decide)
def HeadWay (s t : ByteArray) (m : Bool) : Prop := hasPrefix s.data.toList [45] = m ∧ t.data.toList = trimPrefix s.data.toList [45]
theorem head_ways (s : ByteArray) : (0 < s.size ∧ (∃ h : 0 < s.size, (((s[0]'h).toNat : Int) == 45) = true) ∧ HeadWay s (s.extract 1 s.size) true) ∨ (0 < s.size ∧ (∃ h : 0 < s.size, (((s[0]'h).toNat : Int) == 45) = false) ∧ HeadWay s s false) ∨ (s.size = 0 ∧ HeadWay s s false) := by
  unfold HeadWay trimPrefix hasPrefix
  rcases Nat.eq_zero_or_pos s.size with h | h
  · have e : s.data.toList = [] := List.eq_nil_of_length_eq_zero (by rw [← size_len]; exact h)
    rw [e]
    exact Or.inr (Or.inr ⟨h, rfl, rfl⟩)
  · have h' : 0 < s.data.toList.length := by rw [← size_len]; exact h
    have e0 : s.data.toList[0] = s[0] := rfl
    cases hl : s.data.toList with
    | nil => rw [hl] at h'; simp at h'
    | cons b r =>
      have hb : s[0] = b := by rw [← e0]; simp [hl]
      by_cases hc : b = 45
      · refine Or.inl ⟨h, ⟨h, by rw [hb, hc]; rfl⟩, by subst hc; simp [List.isPrefixOf], ?_⟩
        have e1 : (s.extract 1 s.size).data.toList = s.data.toList.drop 1 := by rw [extract_from]
        rw [e1, hl, hc]; simp [List.isPrefixOf]
      · have hp : List.isPrefixOf [45] (b :: r) = false := by simp [List.isPrefixOf]; exact fun h => hc h.symm
        refine Or.inr (Or.inl ⟨h, ⟨h, ?_⟩, hp, by rw [hp]; rfl⟩)
        rw [hb, beq_eq_false_iff_ne]; intro e
        exact hc (UInt8.toNat_inj.1 (by have e48 : (45 : UInt8).toNat = 45 := rfl; omega))
theorem byte_ways (t : ByteArray) (k d : Nat) (hk : k < t.size) (h : ScI t.data.toList k d) :
    ((((t[k].toNat : Int) == 46) = true ∧ ((d : Int) == (t.size : Int)) = true) ∧ ScI t.data.toList (k + 1) k) ∨
    ((((t[k].toNat : Int) == 46) = false ∧ (48 : Int) ≤ t[k].toNat ∧ (t[k].toNat : Int) ≤ 57) ∧ ScI t.data.toList (k + 1) d) ∨
    ((((t[k].toNat : Int) == 46) = true ∧ ((d : Int) == (t.size : Int)) = false ∧ (t[k].toNat : Int) < 48) ∧ ((splitDot t.data.toList).1.all isD && (splitDot t.data.toList).2.1.all isD) = false) ∨
    ((((t[k].toNat : Int) == 46) = false ∧ (t[k].toNat : Int) < 48) ∧ ((splitDot t.data.toList).1.all isD && (splitDot t.data.toList).2.1.all isD) = false) ∨
    ((((t[k].toNat : Int) == 46) = false ∧ ¬ (t[k].toNat : Int) < 48 ∧ (57 : Int) < t[k].toNat) ∧ ((splitDot t.data.toList).1.all isD && (splitDot t.data.toList).2.1.all isD) = false) := by
  have hk' : k < t.data.toList.length := by rw [← size_len]; exact hk
  have e0 : t.data.toList[k] = t[k] := rfl
  have hd : isD t[k] = decide (48 ≤ t[k].toNat ∧ t[k].toNat ≤ 57) := rfl
  have e46 : (46 : UInt8).toNat = 46 := rfl
  by_cases hc : t[k] = 46
  · have b46 : ((t[k].toNat : Int) == 46) = true := by rw [hc]; rfl
    have n46 : t[k].toNat = 46 := by rw [hc]; rfl
    by_cases hds : d = t.size
    · refine Or.inl ⟨⟨b46, by simp [hds]⟩, ?_⟩
      rw [hds, size_len] at h
      exact h.dot hk' (by rw [e0]; exact hc)
    · refine Or.inr (Or.inr (Or.inl ⟨⟨b46, by rw [beq_eq_false_iff_ne]; omega, by omega⟩, ?_⟩))
      exact h.bad hk' (by rw [e0, hd]; simp; omega) (fun x => hds (by rw [x.2, size_len]))
  · have b46 : ((t[k].toNat : Int) == 46) = false := by rw [beq_eq_false_iff_ne]; intro e; exact hc (UInt8.toNat_inj.1 (by omega))
    by_cases h1 : t[k].toNat < 48
    · exact Or.inr (Or.inr (Or.inr (Or.inl ⟨⟨b46, by omega⟩, h.bad hk' (by rw [e0, hd]; simp; omega) (fun x => hc (by rw [← e0]; exact x.1))⟩)))
    · by_cases h2 : 57 < t[k].toNat
      · exact Or.inr (Or.inr (Or.inr (Or.inr ⟨⟨b46, by omega, by omega⟩, h.bad hk' (by rw [e0, hd]; simp; omega) (fun x => hc (by rw [← e0]; exact x.1))⟩)))
      · exact Or.inr (Or.inl ⟨⟨b46, by omega, by omega⟩, h.digit hk' (by rw [e0, hd]; simp; omega)⟩)
theorem tl_nil (a : ByteArray) (h : a.size = 0) : a.toList = [] ∧ a.toList.isEmpty = true ∧ a.data.toList = [] := by
  have e : a.data.toList = [] := List.eq_nil_of_length_eq_zero (by rw [← size_len]; exact h)
  rw [ByteArray.toList_eq, e]; exact ⟨rfl, rfl, rfl⟩
theorem tl_cons (a : ByteArray) (h : 0 < a.size) : ¬ a.toList = [] ∧ a.toList.isEmpty = false ∧ a.data.toList ≠ [] := by
  have e : a.data.toList ≠ [] := fun e => by have := size_len a; rw [e] at this; simp only [List.length_nil] at this; omega
  rw [ByteArray.toList_eq]; exact ⟨e, by simpa using e, e⟩
theorem b0_ways (a : ByteArray) (h : 0 < a.size) : (a[0] = 48 ∧ ((a[0].toNat : Int) == 48) = true) ∨ (a[0] ≠ 48 ∧ ((a[0].toNat : Int) == 48) = false) := by
  have e48 : (48 : UInt8).toNat = 48 := rfl
  by_cases hc : a[0] = 48
  · exact Or.inl ⟨hc, by rw [hc]; rfl⟩
  · exact Or.inr ⟨hc, by rw [beq_eq_false_iff_ne]; intro e; exact hc (UInt8.toNat_inj.1 (by omega))⟩
theorem bl_ways (a : ByteArray) (k : Nat) (h : k < a.size) : (a[k] = 48 ∧ ((a[k].toNat : Int) == 48) = true) ∨ (a[k] ≠ 48 ∧ ((a[k].toNat : Int) == 48) = false) := by
  have e48 : (48 : UInt8).toNat = 48 := rfl
  by_cases hc : a[k] = 48
  · exact Or.inl ⟨hc, by rw [hc]; rfl⟩
  · exact Or.inr ⟨hc, by rw [beq_eq_false_iff_ne]; intro e; exact hc (UInt8.toNat_inj.1 (by omega))⟩
theorem ret_val {a b : Value} (h : a = b) : Ending.returned a = .returned b := by rw [h]
end Go.Proofs.YtnancphlkbfglaaGreatDoor.Fx

namespace Go.Proofs.YtnancphlkbfglaaGreatDoor.Lx
open Go.RowKit Go.Sort Go.Lib Go.Shelf Fx
theorem letter_any (b : UInt8) (w : World) : Calls Tryz.prog 129 #[.int .u8 b.toNat] w fun e w' => e = .returned (.bool (isL b)) ∧ w = w' := by
  go_enter Tryz.func129, Tryz.ntmps129
  go_wp2
  all_goals
    go_ret
    exact ⟨ret_bool (by rw [Bool.eq_iff_iff]; unfold isL; simp only [Bool.or_eq_true, decide_eq_true_eq, beq_iff_eq, true_iff]; omega), rfl⟩
theorem letterR_any (b : UInt8) (w : World) : Calls Tryz.prog 124 #[.int .u8 b.toNat] w fun e w' => e = .returned (.bool (isL b)) ∧ w = w' := by
  go_enter Tryz.func124, Tryz.ntmps124
  go_wp2
  all_goals
    go_ret
    exact ⟨ret_bool (by rw [Bool.eq_iff_iff]; unfold isL; simp only [Bool.or_eq_true, decide_eq_true_eq, beq_iff_eq, true_iff]; omega), rfl⟩
theorem digit_any (b : UInt8) (w : World) : Calls Tryz.prog 130 #[.int .u8 b.toNat] w fun e w' => e = .returned (.bool (isD b)) ∧ w = w' := by
  go_enter Tryz.func130, Tryz.ntmps130
  go_wp2
  all_goals
    go_ret
    exact ⟨ret_bool (by rw [Bool.eq_iff_iff]; unfold isD; simp only [decide_eq_true_eq, false_iff, Bool.false_eq_true]; omega), rfl⟩
theorem digitR_any (b : UInt8) (w : World) : Calls Tryz.prog 125 #[.int .u8 b.toNat] w fun e w' => e = .returned (.bool (isD b)) ∧ w = w' := by
  go_enter Tryz.func125, Tryz.ntmps125
  go_wp2
  all_goals
    go_ret
    exact ⟨ret_bool (by rw [Bool.eq_iff_iff]; unfold isD; simp only [decide_eq_true_eq, false_iff, Bool.false_eq_true]; omega), rfl⟩
theorem isKeyword_any (s : ByteArray) (w : World) : Calls Tryz.prog 95 #[.string s] w fun e w' => e = .returned (.bool (kw s.data.toList)) ∧ w = w' := by
  go_enter Tryz.func95, Tryz.ntmps95
  go_wp2
  all_goals
    go_ret
    exact ⟨ret_bool (by rw [← ByteArray.toList_eq]; unfold kw; simp_all), rfl⟩
theorem isKeywordR_any (s : ByteArray) (w : World) : Calls Tryz.prog 84 #[.string s] w fun e w' => e = .returned (.bool (kw s.data.toList)) ∧ w = w' := by
  go_enter Tryz.func84, Tryz.ntmps84
  go_wp2
  all_goals
    go_ret
    exact ⟨ret_bool (by rw [← ByteArray.toList_eq]; unfold kw; simp_all), rfl⟩
theorem bt_at (s : ByteArray) (k : Nat) (hk : k < s.size) : bt s.data.toList k = s[k] := by
  unfold bt
  have h : k < s.data.toList.length := by rw [← size_len]; exact hk
  rw [List.getElem?_eq_getElem h]; rfl
theorem scan_step (p : Nat → Bool) (l k : Nat) (hk : k < l) : scan p (l - k) k = if p k then scan p (l - (k + 1)) (k + 1) else k := by
  rw [show l - k = (l - (k + 1)) + 1 by omega]; rfl
set_option maxHeartbeats 1600000 in
theorem word_any (s : ByteArray) (hs : s.size ≤ 9223372036854775807) (w : World) :
    Calls Tryz.prog 94 #[.string s] w fun e w' => e = .returned (.int .i64 (wordN s.data.toList)) ∧ w = w' := by
  obtain ⟨N, hN⟩ : ∃ N, N = wordN s.data.toList := ⟨_, rfl⟩
  have HN : Hid (N = scan (okW s.data.toList) (s.size - 0) 0) := Lib.hid (by rw [hN]; unfold wordN; rw [← size_len]; rfl)
  rw [← hN]; clear hN
  go_enter Tryz.func94, Tryz.ntmps94
  go_wp2_with fail
  go_loop [3] (fun n => ∃ k : Nat, k ≤ s.size ∧ Hid (N = scan (okW s.data.toList) (s.size - k) k) ∧ n = .int .i64 k) (fun n => s.size - (RowKit.intOf n).toNat)
  case atStart => exact ⟨0, by omega, HN, rfl⟩
  case round =>
    obtain ⟨k, hk, ha, rfl⟩ := hrel
    clear HN
    by_cases hlt : k < s.size
    · have hst := ha.out
      rw [scan_step _ _ _ hlt] at hst
      have hok : okW s.data.toList k = (isL s[k] || (decide (0 < k) && isD s[k])) := by unfold okW; rw [bt_at s k hlt]
      rw [hok] at hst
      have HS := Lib.hid hst; clear hst hok ha
      by_cases c1 : isL s[k] = true
      · have HF : Hid (N = scan (okW s.data.toList) (s.size - (k + 1)) (k + 1)) := Lib.hid (by rw [HS.out, c1]; rfl)
        clear HS
        go_wp2_with fail
        refine (letter_any s[k] _).mono ?_
        rintro e w1 ⟨rfl, rfl⟩
        go_wp2
        go_round
        case rel => exact ⟨k + 1, by omega, HF, by go_num⟩
        case measure => simp [RowKit.intOf]; omega
      · have c1' : isL s[k] = false := by simpa using c1
        clear c1
        by_cases c2 : 0 < k
        · by_cases c3 : isD s[k] = true
          · have HF : Hid (N = scan (okW s.data.toList) (s.size - (k + 1)) (k + 1)) := Lib.hid (by rw [HS.out, c1', c3]; simp [c2])
            clear HS
            go_wp2_with fail
            refine (letter_any s[k] _).mono ?_
            rintro e w1 ⟨rfl, rfl⟩
            go_wp2_with fail
            refine (digit_any s[k] _).mono ?_
            rintro e w1 ⟨rfl, rfl⟩
            go_wp2
            go_round
            case rel => exact ⟨k + 1, by omega, HF, by go_num⟩
            case measure => simp [RowKit.intOf]; omega
          · have c3' : isD s[k] = false := by simpa using c3
            have HF : Hid (N = k) := Lib.hid (by rw [HS.out, c1', c3']; simp)
            clear HS c3
            go_wp2_with fail
            refine (letter_any s[k] _).mono ?_
            rintro e w1 ⟨rfl, rfl⟩
            go_wp2_with fail
            refine (digit_any s[k] _).mono ?_
            rintro e w1 ⟨rfl, rfl⟩
            go_wp2
            go_ret
            exact ⟨ret_int (by rw [HF.out]), rfl⟩
        · have HF : Hid (N = k) := Lib.hid (by rw [HS.out, c1']; simp [c2])
          clear HS
          go_wp2_with fail
          refine (letter_any s[k] _).mono ?_
          rintro e w1 ⟨rfl, rfl⟩
          go_wp2
          go_ret
          exact ⟨ret_int (by rw [HF.out]), rfl⟩
    · have HF : Hid (N = k) := Lib.hid (by rw [ha.out, show s.size - k = 0 by omega]; rfl)
      clear ha
      go_wp2
      go_ret
      exact ⟨ret_int (by rw [HF.out]), rfl⟩
set_option maxHeartbeats 1600000 in
theorem wordR_any (s : ByteArray) (hs : s.size ≤ 9223372036854775807) (w : World) :
    Calls Tryz.prog 83 #[.string s] w fun e w' => e = .returned (.int .i64 (wordN s.data.toList)) ∧ w = w' := by
  obtain ⟨N, hN⟩ : ∃ N, N = wordN s.data.toList := ⟨_, rfl⟩
  have HN : Hid (N = scan (okW s.data.toList) (s.size - 0) 0) := Lib.hid (by rw [hN]; unfold wordN; rw [← size_len]; rfl)
  rw [← hN]; clear hN
  go_enter Tryz.func83, Tryz.ntmps83
  go_wp2_with fail
  go_loop [3] (fun n => ∃ k : Nat, k ≤ s.size ∧ Hid (N = scan (okW s.data.toList) (s.size - k) k) ∧ n = .int .i64 k) (fun n => s.size - (RowKit.intOf n).toNat)
  case atStart => exact ⟨0, by omega, HN, rfl⟩
  case round =>
    obtain ⟨k, hk, ha, rfl⟩ := hrel
    clear HN
    by_cases hlt : k < s.size
    · have hst := ha.out
      rw [scan_step _ _ _ hlt] at hst
      have hok : okW s.data.toList k = (isL s[k] || (decide (0 < k) && isD s[k])) := by unfold okW; rw [bt_at s k hlt]
      rw [hok] at hst
      have HS := Lib.hid hst; clear hst hok ha
      by_cases c1 : isL s[k] = true
      · have HF : Hid (N = scan (okW s.data.toList) (s.size - (k + 1)) (k + 1)) := Lib.hid (by rw [HS.out, c1]; rfl)
        clear HS
        go_wp2_with fail
        refine (letterR_any s[k] _).mono ?_
        rintro e w1 ⟨rfl, rfl⟩
        go_wp2
        go_round
        case rel => exact ⟨k + 1, by omega, HF, by go_num⟩
        case measure => simp [RowKit.intOf]; omega
      · have c1' : isL s[k] = false := by simpa using c1
        clear c1
        by_cases c2 : 0 < k
        · by_cases c3 : isD s[k] = true
          · have HF : Hid (N = scan (okW s.data.toList) (s.size - (k + 1)) (k + 1)) := Lib.hid (by rw [HS.out, c1', c3]; simp [c2])
            clear HS
            go_wp2_with fail
            refine (letterR_any s[k] _).mono ?_
            rintro e w1 ⟨rfl, rfl⟩
            go_wp2_with fail
            refine (digitR_any s[k] _).mono ?_
            rintro e w1 ⟨rfl, rfl⟩
            go_wp2
            go_round
            case rel => exact ⟨k + 1, by omega, HF, by go_num⟩
            case measure => simp [RowKit.intOf]; omega
          · have c3' : isD s[k] = false := by simpa using c3
            have HF : Hid (N = k) := Lib.hid (by rw [HS.out, c1', c3']; simp)
            clear HS c3
            go_wp2_with fail
            refine (letterR_any s[k] _).mono ?_
            rintro e w1 ⟨rfl, rfl⟩
            go_wp2_with fail
            refine (digitR_any s[k] _).mono ?_
            rintro e w1 ⟨rfl, rfl⟩
            go_wp2
            go_ret
            exact ⟨ret_int (by rw [HF.out]), rfl⟩
        · have HF : Hid (N = k) := Lib.hid (by rw [HS.out, c1']; simp [c2])
          clear HS
          go_wp2_with fail
          refine (letterR_any s[k] _).mono ?_
          rintro e w1 ⟨rfl, rfl⟩
          go_wp2
          go_ret
          exact ⟨ret_int (by rw [HF.out]), rfl⟩
    · have HF : Hid (N = k) := Lib.hid (by rw [ha.out, show s.size - k = 0 by omega]; rfl)
      clear ha
      go_wp2
      go_ret
      exact ⟨ret_int (by rw [HF.out]), rfl⟩
theorem isName_any (s : ByteArray) (hs : s.size ≤ 9223372036854775807) (w : World) : Calls Tryz.prog 50 #[.string s] w fun e w' => e = .returned (.bool (nameB s.data.toList)) ∧ w = w' := by
  have hsz := size_len s
  rcases Nat.eq_zero_or_pos s.size with h0 | h0
  · obtain ⟨e1, e2, e3⟩ := tl_nil s h0
    go_enter Tryz.func50, Tryz.ntmps50
    go_wp2
    go_ret
    exact ⟨ret_bool (by rw [e3]; rfl), rfl⟩
  · obtain ⟨e1, e2, e3⟩ := tl_cons s h0
    have HB : Hid (nameB s.data.toList = (decide (s.size ≤ 16) && decide (wordN s.data.toList = s.size) && !kw s.data.toList)) := Lib.hid (by have e4 := e2; rw [ByteArray.toList_eq] at e4; unfold nameB; rw [← hsz, e4]; rfl)
    clear hsz e3
    generalize nameB s.data.toList = NB at HB ⊢
    go_enter Tryz.func50, Tryz.ntmps50
    go_wp2_with (first | (go_at_call 94; refine (word_any s hs _).mono ?_; rintro e w1 ⟨rfl, rfl⟩) | (go_at_call 95; refine (isKeyword_any s _).mono ?_; rintro e w1 ⟨rfl, rfl⟩))
    all_goals
      go_ret
      refine ⟨ret_bool ?_, rfl⟩
      rw [HB.out]
      first
        | (rw [decide_eq_true (show s.size ≤ 16 by omega), decide_eq_true (show wordN s.data.toList = s.size by omega)]; rfl)
        | (rw [decide_eq_false (show ¬ wordN s.data.toList = s.size by omega)]; simp)
        | (rw [decide_eq_false (show ¬ s.size ≤ 16 by omega)]; simp)
theorem isNameR_any (s : ByteArray) (hs : s.size ≤ 9223372036854775807) (w : World) : Calls Tryz.prog 35 #[.string s] w fun e w' => e = .returned (.bool (nameB s.data.toList)) ∧ w = w' := by
  have hsz := size_len s
  rcases Nat.eq_zero_or_pos s.size with h0 | h0
  · obtain ⟨e1, e2, e3⟩ := tl_nil s h0
    go_enter Tryz.func35, Tryz.ntmps35
    go_wp2
    go_ret
    exact ⟨ret_bool (by rw [e3]; rfl), rfl⟩
  · obtain ⟨e1, e2, e3⟩ := tl_cons s h0
    have HB : Hid (nameB s.data.toList = (decide (s.size ≤ 16) && decide (wordN s.data.toList = s.size) && !kw s.data.toList)) := Lib.hid (by have e4 := e2; rw [ByteArray.toList_eq] at e4; unfold nameB; rw [← hsz, e4]; rfl)
    clear hsz e3
    generalize nameB s.data.toList = NB at HB ⊢
    go_enter Tryz.func35, Tryz.ntmps35
    go_wp2_with (first | (go_at_call 83; refine (wordR_any s hs _).mono ?_; rintro e w1 ⟨rfl, rfl⟩) | (go_at_call 84; refine (isKeywordR_any s _).mono ?_; rintro e w1 ⟨rfl, rfl⟩))
    all_goals
      go_ret
      refine ⟨ret_bool ?_, rfl⟩
      rw [HB.out]
      first
        | (rw [decide_eq_true (show s.size ≤ 16 by omega), decide_eq_true (show wordN s.data.toList = s.size by omega)]; rfl)
        | (rw [decide_eq_false (show ¬ wordN s.data.toList = s.size by omega)]; simp)
        | (rw [decide_eq_false (show ¬ s.size ≤ 16 by omega)]; simp)
end Go.Proofs.YtnancphlkbfglaaGreatDoor.Lx

namespace Go.Proofs.YtnancphlkbfglaaGreatDoor.At
open Go.RowKit Go.Sort Go.Lib Go.Shelf Fx Lx
def prtC (p : Prt) : List Value := [.string p.1, .int .i64 p.2]
def prtsC (L : List Prt) : List Value := L.flatMap prtC
theorem prtsC_snoc (L : List Prt) (t : Prt) : prtsC (L ++ [t]) = prtsC L ++ prtC t := by unfold prtsC; simp
theorem prtsC_at : ∀ (L : List Prt) (k : Nat) (h : k < L.length), (prtsC L)[k * 2]? = some (.string L[k].1) ∧ (prtsC L)[k * 2 + 1]? = some (.int .i64 L[k].2)
  | [], k, h => by simp at h
  | t :: r, 0, _ => ⟨rfl, rfl⟩
  | t :: r, k + 1, h => by
    have ih := prtsC_at r k (by simpa using h)
    have e : prtsC (t :: r) = prtC t ++ prtsC r := rfl
    have hl : (prtC t).length = 2 := rfl
    rw [e, List.getElem?_append_right (by omega), List.getElem?_append_right (by omega), hl]
    rw [show (k + 1) * 2 - 2 = k * 2 by omega, show (k + 1) * 2 + 1 - 2 = k * 2 + 1 by omega]
    exact ih
def PrtIn (w : World) (a : Option Addr) (L : List Prt) : Prop :=
  ∀ k (h : k < L.length), ∃ g o, a = some ⟨g, o, none⟩ ∧ w.cell? ⟨g, o + k * 2, none⟩ = some (.string L[k].1) ∧ w.cell? ⟨g, o + k * 2 + 1, none⟩ = some (.int .i64 L[k].2)
theorem PrtIn.ext {w w' : World} {a : Option Addr} {L : List Prt} (h : PrtIn w a L) (x : Ext w w') : PrtIn w' a L := fun k hk => by
  obtain ⟨g, o, ha, h0, h1⟩ := h k hk
  exact ⟨g, o, ha, x.cell h0, x.cell h1⟩
theorem add_at (g j : Nat) : (⟨g, 0, none⟩ : Addr).add j = ⟨g, 0 + j, none⟩ := by
  rw [Nat.zero_add]; simp [Addr.add]; exact fun h => h.symm
theorem own_prts {w : World} {B : Nat} {v : Value} {L : List Prt} (h : w.ownsRow B 132 2 v L.length (prtsC L)) : ∃ a c, v = .slice a L.length c ∧ PrtIn w a L := by
  rcases h.2 with ⟨h1, h2⟩ | ⟨g, cap, cur, hv, _, hg, _⟩
  · have : L = [] := List.eq_nil_of_length_eq_zero h2
    subst this
    exact ⟨_, _, h1, fun k hk => absurd hk (by simp)⟩
  · refine ⟨_, cap, hv, fun k hk => ⟨g, 0, rfl, ?_, ?_⟩⟩
    all_goals
      have hc := fun j u hu => h.cells (g := g) (by rw [hv]; rfl) j u hu
      have hat := prtsC_at L k hk
    · have h0 := hc _ _ hat.1
      rw [add_at] at h0; exact h0
    · have h0 := hc _ _ hat.2
      rw [add_at] at h0; exact h0
abbrev Atr := ByteArray × ByteArray
def AtrIn (w : World) (a : Option Addr) (L : List Atr) : Prop :=
  ∀ k (h : k < L.length), ∃ g o, a = some ⟨g, o, none⟩ ∧ w.cell? ⟨g, o + k * 2, none⟩ = some (.string L[k].1) ∧ w.cell? ⟨g, o + k * 2 + 1, none⟩ = some (.string L[k].2)
theorem AtrIn.ext {w w' : World} {a : Option Addr} {L : List Atr} (h : AtrIn w a L) (x : Ext w w') : AtrIn w' a L := fun k hk => by
  obtain ⟨g, o, ha, h0, h1⟩ := h k hk
  exact ⟨g, o, ha, x.cell h0, x.cell h1⟩
def hasA (l : List Atr) (n : ByteArray) : Bool := l.any (fun q => decide (q.1 = n))
theorem beqs (n x : ByteArray) : (n.toList == x.toList) = decide (n = x) := by
  rw [ByteArray.toList_eq, ByteArray.toList_eq, Bool.eq_iff_iff, beq_iff_eq, decide_eq_true_eq]
  exact ⟨fun h => ByteArray.ext (Array.toList_inj.1 h), fun h => by rw [h]⟩
set_option maxHeartbeats 4000000 in
theorem closP_any (n x : ByteArray) (d : Int) (c : Addr) (w : World) (hc : w.cell? c = some (.string x)) :
    Calls Tryz.prog 67 #[.agg #[.string n, .int .i64 d], .pointer (some c)] w fun e w' => e = .returned (.bool (decide (n = x))) ∧ Ext w w' := by
  have hc' : ∀ o, (w.alloc o).cell? c = some (.string x) := fun o => ((Ext.refl w).alloc o).cell hc
  go_enter Tryz.func67, Tryz.ntmps67
  go_wp2
  go_ret
  exact ⟨ret_bool (beqs n x), (Ext.refl _).alloc _⟩
set_option maxHeartbeats 4000000 in
theorem idxP_any (a : Option Addr) (L : List Prt) (cap : Nat) (x : ByteArray) (c : Addr) (w : World) (h : PrtIn w a L) (hc : w.cell? c = some (.string x)) (hL : L.length ≤ 9223372036854775807) :
    Calls Tryz.prog 68 #[.slice a L.length cap, .func (.func 67) #[] #[.pointer (some c)]] w fun e w' => (∃ r : Int, e = .returned (.int .i64 r) ∧ decide (0 ≤ r) = hasN L x) ∧ Ext w w' := by
  obtain ⟨N, hN⟩ : ∃ N, N = L.length := ⟨_, rfl⟩
  have HI := Lib.hid h
  rw [← hN] at hL ⊢
  have HN := Lib.hid hN
  have HC := Lib.hid hc
  clear h hN hc
  go_enter Tryz.func68, Tryz.ntmps68
  go_wp2_with fail
  go_loopw [8] (fun i' wr => ∃ k : Nat, k ≤ N ∧ i' = .int .i64 k ∧ Hid (∀ j (hj : j < L.length), j < k → L[j].1 ≠ x) ∧ Ext w wr) (fun i' _ => N - (RowKit.intOf i').toNat)
  case atStart => exact ⟨0, by omega, rfl, Lib.hid (fun j _ h => absurd h (by omega)), Ext.refl _⟩
  case round =>
    obtain ⟨k, hk, rfl, hall, hx⟩ := hrel
    by_cases hlt : k < N
    · have hkl : k < L.length := by rw [← HN.out]; exact hlt
      obtain ⟨g, o, rfl, c0, c1⟩ := (HI.out.ext hx) k hkl
      obtain ⟨n, hn⟩ : ∃ n, n = L[k].1 := ⟨_, rfl⟩
      obtain ⟨d, hd⟩ : ∃ d, d = L[k].2 := ⟨_, rfl⟩
      rw [← hn] at c0; rw [← hd] at c1
      have HNM := Lib.hid hn
      clear hn hd
      by_cases heq : n = x
      · have hf : Hid (hasN L x = true) := Lib.hid (by
          unfold hasN; rw [List.any_eq_true]; exact ⟨L[k], List.getElem_mem hkl, by rw [← HNM.out]; exact decide_eq_true heq⟩)
        have HCL := Lib.hid (closP_any n x d c wr (hx.cell HC.out))
        rw [decide_eq_true heq] at HCL
        clear heq hall HNM
        go_wp2_with (go_at_call 67; refine HCL.out.mono ?_; rintro e w1 ⟨rfl, x1⟩)
        go_returns
        exact ⟨⟨k, rfl, by rw [hf.out]; simp⟩, hx.trans x1⟩
      · have hf : Hid (∀ j (hj : j < L.length), j < k + 1 → L[j].1 ≠ x) := Lib.hid (fun j hj h => by
          by_cases e : j = k
          · subst e; rw [← HNM.out]; exact heq
          · exact hall.out j hj (by omega))
        have HCL := Lib.hid (closP_any n x d c wr (hx.cell HC.out))
        rw [decide_eq_false heq] at HCL
        clear heq hall HNM
        go_wp2_with (go_at_call 67; refine HCL.out.mono ?_; rintro e w1 ⟨rfl, x1⟩)
        go_roundw
        case rel => exact ⟨k + 1, by omega, by go_num, hf, hx.trans x1⟩
        case measure => simp [RowKit.intOf]; omega
    · have hf : Hid (hasN L x = false) := Lib.hid (by
        unfold hasN; rw [List.any_eq_false]; intro q hq
        obtain ⟨j, hj, rfl⟩ := List.getElem_of_mem hq
        simpa using hall.out j hj (by rw [← HN.out] at hj; omega))
      clear hall
      go_wp2
      go_returns
      exact ⟨⟨-1, rfl, by rw [hf.out]; decide⟩, hx⟩
set_option maxHeartbeats 4000000 in
theorem hasP_any (a : Option Addr) (L : List Prt) (cap : Nat) (x : ByteArray) (c : Addr) (w : World) (h : PrtIn w a L) (hc : w.cell? c = some (.string x)) (hL : L.length ≤ 9223372036854775807) :
    Calls Tryz.prog 66 #[.slice a L.length cap, .func (.func 67) #[] #[.pointer (some c)]] w fun e w' => e = .returned (.bool (hasN L x)) ∧ Ext w w' := by
  have H := Lib.hid (idxP_any a L cap x c w h hc hL)
  clear h hc hL
  go_enter Tryz.func66, Tryz.ntmps66
  go_wp2_with (go_at_call 68; refine H.out.mono ?_; rintro e w1 ⟨⟨r, rfl, hr⟩, x1⟩)
  go_ret
  exact ⟨rfl, x1⟩
end Go.Proofs.YtnancphlkbfglaaGreatDoor.At

namespace Go.Proofs.YtnancphlkbfglaaGreatDoor.At
open Go.RowKit Go.Sort Go.Lib Go.Shelf Fx Lx
theorem info_prt : (Tryz.prog.info? 132).map (fun i => (i.zero, i.size, i.bytes)) = some (some (.agg #[.string ⟨#[]⟩, .int .i64 0]), 2, 24) := by kernel_rfl
theorem ne_facts {x k : Int} (h : x ≠ k) : (x == k) = false ∧ (x != k) = true := by
  have : (x == k) = false := by rw [beq_eq_false_iff_ne]; exact h
  exact ⟨this, by rw [bne, this]; rfl⟩
theorem eq_facts {x k : Int} (h : x = k) : (x == k) = true ∧ (x != k) = false := by
  have : (x == k) = true := by rw [beq_iff_eq]; exact h
  exact ⟨this, by rw [bne, this]; rfl⟩
theorem own_base {w : World} {B B' n : Nat} {e : TypeId} {v : Value} {size : Nat} {xs : List Value} (h : w.ownsRow B e size v n xs) (hb : B' ≤ B) : w.ownsRow B' e size v n xs := by
  refine ⟨h.1, ?_⟩
  rcases h.2 with h1 | ⟨g, cap, cur, hv, hg0, r⟩
  · exact .inl h1
  · exact .inr ⟨g, cap, cur, hv, by omega, r⟩
theorem own_ext {w w' : World} {B n : Nat} {e : TypeId} {v : Value} {size : Nat} {xs : List Value} (h : w.ownsRow B e size v n xs) (x : Ext w w') : w'.ownsRow B e size v n xs := by
  refine ⟨h.1, ?_⟩
  rcases h.2 with h1 | ⟨g, cap, cur, hv, hb, hg, r⟩
  · exact .inl h1
  · refine .inr ⟨g, cap, cur, hv, hb, ?_, r⟩
    rw [x.block g (Array.getElem?_eq_some_iff.1 hg).1]; exact hg
theorem cell_new1 (w : World) (l : List Value) (T : TypeId) (j : Nat) (u : Value) (h : l[j]? = some u) :
    (w.alloc (.cells l.toArray T)).cell? ((⟨w.heap.size, 0, none⟩ : Addr).add j) = some u := by
  have hb := heap_alloc_new w (.cells l.toArray T)
  have e : (⟨w.heap.size, 0, none⟩ : Addr).add j = ⟨w.heap.size, j, none⟩ := by simp [Addr.add]; exact fun h => h.symm
  rw [e, Lib.cell_of_heap hb]
  simpa using h
def PrtRes (B : Nat) (R : List Prt × Int) (e : Ending) (w : World) : Prop :=
  ∃ v, e = .returned (.tuple #[v, .int .i64 R.2]) ∧ w.ownsRow B 132 2 v R.1.length (prtsC R.1)
def sidesC : Array Value := #[.string ⟨#[116, 111, 112]⟩, .string ⟨#[114, 105, 103, 104, 116]⟩, .string ⟨#[98, 111, 116, 116, 111, 109]⟩, .string ⟨#[108, 101, 102, 116]⟩]
theorem sides_cell (w : World) (j : Nat) (hj : j < sidesL.length) : (w.alloc (.cells sidesC 9)).cell? ⟨w.heap.size, 0 + j, none⟩ = some (.string (sidesL.getD j ByteArray.empty)) := by
  have hb := heap_alloc_new w (.cells sidesC 9)
  rw [Lib.cell_of_heap hb]
  have : j < 4 := hj
  match j, this with
  | 0, _ => rfl
  | 1, _ => rfl
  | 2, _ => rfl
  | 3, _ => rfl
theorem side_any (x : ByteArray) (d : Int) (w : World) (o : Obj) (hd : sideN x = d) :
    Calls Tryz.prog 43 #[.slice (some ⟨w.heap.size + 1, 0, none⟩) 4 4, .string x] ((w.alloc o).alloc (.cells #[.string ⟨#[116, 111, 112]⟩, .string ⟨#[114, 105, 103, 104, 116]⟩, .string ⟨#[98, 111, 116, 116, 111, 109]⟩, .string ⟨#[108, 101, 102, 116]⟩] 9)) fun e w' => e = .returned (.int .i64 d) ∧ w' = (w.alloc o).alloc (.cells #[.string ⟨#[116, 111, 112]⟩, .string ⟨#[114, 105, 103, 104, 116]⟩, .string ⟨#[98, 111, 116, 116, 111, 109]⟩, .string ⟨#[108, 101, 102, 116]⟩] 9) := by
  have hz := sides_cell (w.alloc o)
  rw [World.size_alloc] at hz
  have h := Tryz.slices_Index_string (w.heap.size + 1) 0 4 4 sidesL x ((w.alloc o).alloc (.cells sidesC 9)) (by decide) (by decide) hz
  rw [show sidesL.take 4 = sidesL from rfl, show Lib.idxOfS sidesL x = sideN x from rfl, hd] at h
  exact h
theorem cell_new (w : World) (n : ByteArray) : ∀ o, ((w.alloc (.cells #[.string n] 9)).alloc o).cell? ⟨w.heap.size, 0, none⟩ = some (.string n) := fun o => by
  have hb := heap_alloc_new w (.cells #[.string n] 9)
  have h0 : (w.alloc (.cells #[.string n] 9)).cell? ⟨w.heap.size, 0, none⟩ = some (.string n) := by rw [Lib.cell_of_heap hb]; rfl
  exact ((Ext.refl _).alloc o).cell h0
theorem cut_hit (p n x : ByteArray) (w : World) (hs : p.size < 4294967281) (he : Env w) (hg : 0 ≤ gapN p) (hn : nmOf p = n) (hx : wdOf p = x) :
    Calls Tryz.prog 65 #[.string p, .string ⟨#[32]⟩] w fun e w' => e = .returned (.tuple #[.string n, .string x, .bool true]) ∧ Ext w w' := by
  subst hn; subst hx
  obtain ⟨m, hm⟩ := he.2
  have h := Tryz.strings_Cut p ⟨#[32]⟩ m w hs hm
  obtain ⟨h1, h2, h3⟩ := (cut_gap p).1 hg
  rw [show (⟨#[32]⟩ : ByteArray).data.toList = [32] from rfl, h1, h2, h3] at h
  refine h.mono ?_
  rintro e w' ⟨rfl, n, rfl⟩
  exact ⟨rfl, (Ext.refl _).drewN n⟩
theorem cut_miss (p : ByteArray) (w : World) (hs : p.size < 4294967281) (he : Env w) (hg : gapN p < 0) :
    Calls Tryz.prog 65 #[.string p, .string ⟨#[32]⟩] w fun e w' => (∃ b, e = .returned (.tuple #[.string b, .string ⟨#[]⟩, .bool false])) ∧ Ext w w' := by
  obtain ⟨m, hm⟩ := he.2
  have h := Tryz.strings_Cut p ⟨#[32]⟩ m w hs hm
  obtain ⟨h2, h3⟩ := (cut_gap p).2 hg
  rw [show (⟨#[32]⟩ : ByteArray).data.toList = [32] from rfl, h2, h3] at h
  refine h.mono ?_
  rintro e w' ⟨rfl, n, rfl⟩
  exact ⟨⟨_, rfl⟩, (Ext.refl _).drewN n⟩
theorem split_any (s : ByteArray) (w : World) (hs : s.size < 4294967281) (he : Env w) :
    Calls Tryz.prog 64 #[.string s, .string ⟨#[44, 32]⟩] w fun e w' => e = .returned (.slice (some ⟨w.heap.size, 0, none⟩) (parts s).length (parts s).length) ∧ w' = w.alloc (.cells ((parts s).map Value.string).toArray 9) := by
  obtain ⟨m, hm⟩ := he.2
  have h := Tryz.strings_Split s ⟨#[44, 32]⟩ m w hs hm (by decide)
  have hl : (parts s).length = Lib.countB s comma + 1 := Lib.splitB_all comma (by decide) 0 _ s rfl
  rw [hl]
  exact h
theorem parts_cell (w : World) (L : List ByteArray) (k : Nat) (h : k < L.length) : (w.alloc (.cells (L.map Value.string).toArray 9)).cell? ⟨w.heap.size, k, none⟩ = some (.string L[k]) := by
  have hb := heap_alloc_new w (.cells (L.map Value.string).toArray 9)
  rw [Lib.cell_of_heap hb]
  simp [h]
theorem split_small (sep : ByteArray) : ∀ (k : Nat) (s p : ByteArray), p ∈ Lib.splitB sep 0 k s → p.size ≤ s.size
  | 0, s, p, h => by
    rw [Lib.splitB_zero] at h; simp at h; rw [h]; exact Nat.le_refl _
  | k + 1, s, p, h => by
    rcases Lib.indexB_cases s sep with hm | ⟨i, hi, hle⟩
    · rw [Lib.splitB_miss _ _ _ _ hm] at h; simp at h; rw [h]; exact Nat.le_refl _
    · rw [Lib.splitB_hit _ _ _ _ i hi] at h
      rcases List.mem_cons.1 h with rfl | h'
      · rw [ByteArray.size_extract]; omega
      · have := split_small sep k _ p h'
        rw [ByteArray.size_extract] at this; omega
end Go.Proofs.YtnancphlkbfglaaGreatDoor.At
