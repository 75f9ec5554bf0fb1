/- What the document's form returns: sign, digits before the point and behind it, or nothing, for every text. -/
import Derived.Test.YtfhephcbjbdejaaGreatDoorFixParse
import Derived.Handy
namespace Go.Proofs.YtfhephcbjbdejaaGreatDoor.Fx
open Go.RowKit Go.Sort Go.Lib Go.Shelf

theorem isD_dot : isD 46 = false := by decide
theorem splitDot_all : ∀ l : List UInt8, l.all isD = true → splitDot l = (l, [], false)
  | [], _ => rfl
  | b :: r, h => by
    simp only [List.all_cons, Bool.and_eq_true] at h
    have hb : (b == 46) = false := by
      rw [beq_eq_false_iff_ne]; intro e; subst e; rw [isD_dot] at h; exact absurd h.1 (by decide)
    unfold splitDot
    rw [hb, splitDot_all r h.2]; rfl
theorem splitDot_at : ∀ (l : List UInt8) (d : Nat), (l.take d).all isD = true → l[d]? = some 46 → splitDot l = (l.take d, l.drop (d + 1), true)
  | [], d, _, h => by simp at h
  | b :: r, 0, _, h => by
    simp at h; subst h; unfold splitDot; simp
  | b :: r, d + 1, h, hd => by
    simp only [List.take_succ_cons, List.all_cons, Bool.and_eq_true] at h
    have hb : (b == 46) = false := by
      rw [beq_eq_false_iff_ne]; intro e; subst e; rw [isD_dot] at h; exact absurd h.1 (by decide)
    unfold splitDot
    rw [hb, splitDot_at r d h.2 (by simpa using hd)]; simp
/-- The scan, i bytes done. -/
def ScI (l : List UInt8) (i dot : Nat) : Prop := (dot = l.length ∧ (l.take i).all isD = true) ∨ (dot < i ∧ dot < l.length ∧ (l.take dot).all isD = true ∧ l[dot]? = some 46 ∧ ((l.take i).drop (dot + 1)).all isD = true)
theorem ScI.start (l : List UInt8) : ScI l 0 l.length := Or.inl ⟨rfl, by simp⟩
theorem ScI.digit {l : List UInt8} {i dot : Nat} (h : ScI l i dot) (hi : i < l.length) (hd : isD l[i] = true) : ScI l (i + 1) dot := by
  have e := List.take_succ_eq_append_getElem hi
  rcases h with ⟨h1, h2⟩ | ⟨h1, h2, h3, h4, h5⟩
  · exact Or.inl ⟨h1, by rw [e, List.all_append, h2]; simp [hd]⟩
  · refine Or.inr ⟨by omega, h2, h3, h4, ?_⟩
    rw [e, List.drop_append, List.all_append, h5]
    have : dot + 1 - (l.take i).length = 0 := by simp; omega
    rw [this]; simp [hd]
theorem ScI.dot {l : List UInt8} {i : Nat} (h : ScI l i l.length) (hi : i < l.length) (hd : l[i] = 46) : ScI l (i + 1) i := by
  rcases h with ⟨h1, h2⟩ | ⟨h1, h2, _⟩
  · refine Or.inr ⟨by omega, hi, h2, by rw [List.getElem?_eq_getElem hi, hd], ?_⟩
    rw [List.drop_eq_nil_of_le (by simp; omega)]; rfl
  · omega
theorem all_at {l : List UInt8} {i : Nat} (hi : i < l.length) (hd : isD l[i] = false) : l.all isD = false := by
  rw [List.all_eq_false]; exact ⟨l[i], List.getElem_mem hi, by simp [hd]⟩
theorem ScI.bad {l : List UInt8} {i dot : Nat} (h : ScI l i dot) (hi : i < l.length) (hd : isD l[i] = false) (hn : ¬ (l[i] = 46 ∧ dot = l.length)) : ((splitDot l).1.all isD && (splitDot l).2.1.all isD) = false := by
  rcases h with ⟨h1, h2⟩ | ⟨h1, h2, h3, h4, h5⟩
  · have h46 : l[i] ≠ 46 := fun e => hn ⟨e, h1⟩
    have key : ∀ (l : List UInt8) (i : Nat) (hi : i < l.length), isD l[i] = false → l[i] ≠ 46 → (l.take i).all isD = true → (splitDot l).1.all isD = false := by
      intro l
      induction l with
      | nil => intro i hi; simp at hi
      | cons b r ih =>
        intro i hi hd h46 ht
        cases i with
        | zero =>
          simp at hd h46
          have hb : (b == 46) = false := by simpa using h46
          unfold splitDot; rw [hb]; simp [hd]
        | succ i =>
          simp only [List.take_succ_cons, List.all_cons, Bool.and_eq_true] at ht
          have hb : (b == 46) = false := by
            rw [beq_eq_false_iff_ne]; intro e; subst e; rw [isD_dot] at ht; exact absurd ht.1 (by decide)
          unfold splitDot; rw [hb]
          have := ih i (by simpa using hi) (by simpa using hd) (by simpa using h46) ht.2
          simp [this]
    rw [key l i hi hd h46 h2]; rfl
  · rw [splitDot_at l dot h3 h4]
    have : (l.drop (dot + 1)).all isD = false := by
      rw [List.all_eq_false]
      refine ⟨l[i], ?_, by simp [hd]⟩
      rw [List.mem_iff_getElem]
      exact ⟨i - (dot + 1), by simp; omega, by simp; congr 1; omega⟩
    simp [this]
theorem ScI.fin {l : List UInt8} {dot : Nat} (h : ScI l l.length dot) : (dot = l.length ∧ splitDot l = (l, [], false) ∧ l.all isD = true) ∨ (dot < l.length ∧ splitDot l = (l.take dot, l.drop (dot + 1), true) ∧ (l.take dot).all isD = true ∧ (l.drop (dot + 1)).all isD = true) := by
  rcases h with ⟨h1, h2⟩ | ⟨h1, h2, h3, h4, h5⟩
  · rw [List.take_length] at h2
    exact Or.inl ⟨h1, splitDot_all l h2, h2⟩
  · rw [List.take_length] at h5
    exact Or.inr ⟨h2, splitDot_at l dot h3 h4, h3, h5⟩

/-- The results of form. -/
def formV : Option (Bool × List UInt8 × List UInt8) → Value
  | none => .tuple #[.bool false, .string ⟨#[]⟩, .string ⟨#[]⟩, .bool false]
  | some (m, w, p) => .tuple #[.bool m, .string ⟨w.toArray⟩, .string ⟨p.toArray⟩, .bool true]
theorem f3_scan {m pt : Bool} {w p : List UInt8} (h : (w.all isD && p.all isD) = false) : form3 m pt w p = none := by unfold form3; simp [h]
theorem f3_part {m : Bool} {w p : List UInt8} (h : p.length < 1 ∨ 3 < p.length ∨ p[p.length - 1]?.getD 0 = 48) : form3 m true w p = none := by
  unfold form3 partOk
  split
  · rfl
  · rw [if_pos]; rcases h with h | h | h
    · have : p = [] := List.eq_nil_of_length_eq_zero (by omega)
      simp [this]
    · simp; omega
    · simp [h]
theorem f3_word {m pt : Bool} {w p : List UInt8} (h : w = [] ∨ (1 < w.length ∧ w[0]?.getD 0 = 48) ∨ (m = true ∧ w = [48] ∧ p = [])) : form3 m pt w p = none := by
  unfold form3
  split
  · rfl
  · split
    · rfl
    · rw [if_pos]
      rcases h with h | ⟨h1, h2⟩ | ⟨h1, h2, h3⟩
      · simp [h]
      · simp [h1, h2]
      · simp [h1, h2, h3]
theorem f3_ok {m pt : Bool} {w p : List UInt8} (h1 : w.all isD = true) (h2 : p.all isD = true) (h3 : pt = true → 1 ≤ p.length ∧ p.length ≤ 3 ∧ p[p.length - 1]?.getD 0 ≠ 48) (h4 : w ≠ []) (h5 : ¬ (1 < w.length ∧ w[0]?.getD 0 = 48)) (h6 : ¬ (m = true ∧ w = [48] ∧ p = [])) : form3 m pt w p = some (m, w, p) := by
  unfold form3 partOk
  rw [if_neg (by simp [h1, h2]), if_neg, if_neg]
  · intro hc
    simp at hc
    rcases hc with (hc | hc) | hc
    · exact h4 hc
    · exact h5 hc
    · exact h6 ⟨hc.1.1, hc.1.2, hc.2⟩
  · intro hc
    cases pt
    · simp at hc
    · obtain ⟨a, b, c⟩ := h3 rfl
      simp [b, c] at hc
      exact absurd a (by rw [hc]; decide)

/-- The sign and what stands behind it. -/
def HeadWay (s t : ByteArray) (m : Bool) : Prop := hasPrefix s.data.toList [45] = m ∧ t.data.toList = trimPrefix s.data.toList [45]
theorem head_ways (s : ByteArray) : (0 < s.size ∧ (∃ h : 0 < s.size, (((s[0]'h).toNat : Int) == 45) = true) ∧ HeadWay s (s.extract 1 s.size) true) ∨ (0 < s.size ∧ (∃ h : 0 < s.size, (((s[0]'h).toNat : Int) == 45) = false) ∧ HeadWay s s false) ∨ (s.size = 0 ∧ HeadWay s s false) := by
  unfold HeadWay trimPrefix hasPrefix
  rcases Nat.eq_zero_or_pos s.size with h | h
  · have e : s.data.toList = [] := List.eq_nil_of_length_eq_zero (by rw [← size_len]; exact h)
    rw [e]
    exact Or.inr (Or.inr ⟨h, rfl, rfl⟩)
  · have h' : 0 < s.data.toList.length := by rw [← size_len]; exact h
    have e0 : s.data.toList[0] = s[0] := rfl
    cases hl : s.data.toList with
    | nil => rw [hl] at h'; simp at h'
    | cons b r =>
      have hb : s[0] = b := by rw [← e0]; simp [hl]
      by_cases hc : b = 45
      · refine Or.inl ⟨h, ⟨h, by rw [hb, hc]; rfl⟩, by subst hc; simp [List.isPrefixOf], ?_⟩
        have e1 : (s.extract 1 s.size).data.toList = s.data.toList.drop 1 := by rw [extract_from]
        rw [e1, hl, hc]; simp [List.isPrefixOf]
      · have hp : List.isPrefixOf [45] (b :: r) = false := by simp [List.isPrefixOf]; exact fun h => hc h.symm
        refine Or.inr (Or.inl ⟨h, ⟨h, ?_⟩, hp, by rw [hp]; rfl⟩)
        rw [hb, beq_eq_false_iff_ne]; intro e
        exact hc (UInt8.toNat_inj.1 (by have e48 : (45 : UInt8).toNat = 45 := rfl; omega))

/-- One byte of the scan. -/
theorem byte_ways (t : ByteArray) (k d : Nat) (hk : k < t.size) (h : ScI t.data.toList k d) :
    ((((t[k].toNat : Int) == 46) = true ∧ ((d : Int) == (t.size : Int)) = true) ∧ ScI t.data.toList (k + 1) k) ∨
    ((((t[k].toNat : Int) == 46) = false ∧ (48 : Int) ≤ t[k].toNat ∧ (t[k].toNat : Int) ≤ 57) ∧ ScI t.data.toList (k + 1) d) ∨
    ((((t[k].toNat : Int) == 46) = true ∧ ((d : Int) == (t.size : Int)) = false ∧ (t[k].toNat : Int) < 48) ∧ ((splitDot t.data.toList).1.all isD && (splitDot t.data.toList).2.1.all isD) = false) ∨
    ((((t[k].toNat : Int) == 46) = false ∧ (t[k].toNat : Int) < 48) ∧ ((splitDot t.data.toList).1.all isD && (splitDot t.data.toList).2.1.all isD) = false) ∨
    ((((t[k].toNat : Int) == 46) = false ∧ ¬ (t[k].toNat : Int) < 48 ∧ (57 : Int) < t[k].toNat) ∧ ((splitDot t.data.toList).1.all isD && (splitDot t.data.toList).2.1.all isD) = false) := by
  have hk' : k < t.data.toList.length := by rw [← size_len]; exact hk
  have e0 : t.data.toList[k] = t[k] := rfl
  have hd : isD t[k] = decide (48 ≤ t[k].toNat ∧ t[k].toNat ≤ 57) := rfl
  have e46 : (46 : UInt8).toNat = 46 := rfl
  by_cases hc : t[k] = 46
  · have b46 : ((t[k].toNat : Int) == 46) = true := by rw [hc]; rfl
    have n46 : t[k].toNat = 46 := by rw [hc]; rfl
    by_cases hds : d = t.size
    · refine Or.inl ⟨⟨b46, by simp [hds]⟩, ?_⟩
      rw [hds, size_len] at h
      exact h.dot hk' (by rw [e0]; exact hc)
    · refine Or.inr (Or.inr (Or.inl ⟨⟨b46, by rw [beq_eq_false_iff_ne]; omega, by omega⟩, ?_⟩))
      exact h.bad hk' (by rw [e0, hd]; simp; omega) (fun x => hds (by rw [x.2, size_len]))
  · have b46 : ((t[k].toNat : Int) == 46) = false := by rw [beq_eq_false_iff_ne]; intro e; exact hc (UInt8.toNat_inj.1 (by omega))
    by_cases h1 : t[k].toNat < 48
    · exact Or.inr (Or.inr (Or.inr (Or.inl ⟨⟨b46, by omega⟩, h.bad hk' (by rw [e0, hd]; simp; omega) (fun x => hc (by rw [← e0]; exact x.1))⟩)))
    · by_cases h2 : 57 < t[k].toNat
      · exact Or.inr (Or.inr (Or.inr (Or.inr ⟨⟨b46, by omega, by omega⟩, h.bad hk' (by rw [e0, hd]; simp; omega) (fun x => hc (by rw [← e0]; exact x.1))⟩)))
      · exact Or.inr (Or.inl ⟨⟨b46, by omega, by omega⟩, h.digit hk' (by rw [e0, hd]; simp; omega)⟩)
theorem tl_nil (a : ByteArray) (h : a.size = 0) : a.toList = [] ∧ a.toList.isEmpty = true ∧ a.data.toList = [] := by
  have e : a.data.toList = [] := List.eq_nil_of_length_eq_zero (by rw [← size_len]; exact h)
  rw [ByteArray.toList_eq, e]; exact ⟨rfl, rfl, rfl⟩
theorem tl_cons (a : ByteArray) (h : 0 < a.size) : ¬ a.toList = [] ∧ a.toList.isEmpty = false ∧ a.data.toList ≠ [] := by
  have e : a.data.toList ≠ [] := fun e => by have := size_len a; rw [e] at this; simp only [List.length_nil] at this; omega
  rw [ByteArray.toList_eq]; exact ⟨e, by simpa using e, e⟩
theorem b0_ways (a : ByteArray) (h : 0 < a.size) : (a[0] = 48 ∧ ((a[0].toNat : Int) == 48) = true) ∨ (a[0] ≠ 48 ∧ ((a[0].toNat : Int) == 48) = false) := by
  have e48 : (48 : UInt8).toNat = 48 := rfl
  by_cases hc : a[0] = 48
  · exact Or.inl ⟨hc, by rw [hc]; rfl⟩
  · exact Or.inr ⟨hc, by rw [beq_eq_false_iff_ne]; intro e; exact hc (UInt8.toNat_inj.1 (by omega))⟩
theorem bl_ways (a : ByteArray) (k : Nat) (h : k < a.size) : (a[k] = 48 ∧ ((a[k].toNat : Int) == 48) = true) ∨ (a[k] ≠ 48 ∧ ((a[k].toNat : Int) == 48) = false) := by
  have e48 : (48 : UInt8).toNat = 48 := rfl
  by_cases hc : a[k] = 48
  · exact Or.inl ⟨hc, by rw [hc]; rfl⟩
  · exact Or.inr ⟨hc, by rw [beq_eq_false_iff_ne]; intro e; exact hc (UInt8.toNat_inj.1 (by omega))⟩
theorem ret_val {a b : Value} (h : a = b) : Ending.returned a = .returned b := by rw [h]

end Go.Proofs.YtfhephcbjbdejaaGreatDoor.Fx
