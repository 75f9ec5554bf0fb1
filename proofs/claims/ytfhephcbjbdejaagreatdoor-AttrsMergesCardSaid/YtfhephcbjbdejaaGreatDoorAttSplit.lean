/- What the document's split returns. -/
import Derived.Test.YtfhephcbjbdejaaGreatDoorAttPorts
import Derived.Deep.AppendLies
namespace Go.Proofs.YtfhephcbjbdejaaGreatDoor.At
open Go.RowKit Go.Sort Go.Lib Go.Shelf Fx Lx

/-- The pieces of s from a on, of which i - a bytes are known to hold no mark. -/
def splitFrom (s : ByteArray) (a i : Nat) : Nat → List ByteArray
  | 0 => [s.extract a s.size]
  | f + 1 =>
    if i + 1 < s.size then
      if bt s.data.toList i = 44 ∧ bt s.data.toList (i + 1) = 32 then s.extract a i :: splitFrom s (i + 2) (i + 2) f
      else splitFrom s a (i + 1) f
    else [s.extract a s.size]
theorem occ2 (l : List UInt8) (i : Nat) (h : i + 1 < l.length) : Lib.occAt l [44, 32] i = (decide (bt l i = 44) && decide (bt l (i + 1) = 32)) := by
  rw [Lib.occAt_iff_take l [44, 32] i (by simp; omega)]
  have h0 : i < l.length := by omega
  have e : (l.drop i).take ([44, 32] : List UInt8).length = [l[i], l[i + 1]] := by
    rw [List.drop_eq_getElem_cons h0, List.drop_eq_getElem_cons h]; rfl
  rw [e]
  unfold bt
  rw [List.getElem?_eq_getElem h0, List.getElem?_eq_getElem h]
  rw [Bool.eq_iff_iff, beq_iff_eq, Bool.and_eq_true, decide_eq_true_eq, decide_eq_true_eq]
  exact ⟨fun h => by injection h with h1 h2; injection h2 with h2 _; exact ⟨h1, h2⟩, fun ⟨h1, h2⟩ => by rw [show l[i] = 44 from h1, show l[i + 1] = 32 from h2]⟩
theorem split_from (s : ByteArray) : ∀ (f a i : Nat), a ≤ i → s.size ≤ i + f → i ≤ s.size → Lib.NoOcc (s.extract a s.size).data.toList [44, 32] (i - a) → splitFrom s a i f = parts (s.extract a s.size)
  | 0, a, i, ha, hf, hi, hn => by
    have hm : Lib.indexB (s.extract a s.size) comma = -1 := by
      refine Lib.index_past (i := i - a) (by decide) hn ?_
      rw [← size_len, ByteArray.size_extract, show comma.data.toList.length = 2 from rfl]; omega
    show [s.extract a s.size] = parts _
    unfold parts; rw [Lib.splitB_miss _ _ _ _ hm]
  | f + 1, a, i, ha, hf, hi, hn => by
    have hl : (s.extract a s.size).data.toList.length = s.size - a := by rw [← size_len, ByteArray.size_extract]; omega
    have hbt : ∀ j, a ≤ j → bt (s.extract a s.size).data.toList (j - a) = bt s.data.toList j := fun j hj => by
      unfold bt; rw [extract_from, List.getElem?_drop, show a + (j - a) = j by omega]
    unfold splitFrom
    by_cases h1 : i + 1 < s.size
    · rw [if_pos h1]
      have ho := occ2 (s.extract a s.size).data.toList (i - a) (by omega)
      rw [show i - a + 1 = (i + 1) - a by omega, hbt i ha, hbt (i + 1) (by omega)] at ho
      by_cases h2 : bt s.data.toList i = 44 ∧ bt s.data.toList (i + 1) = 32
      · rw [if_pos h2]
        rw [decide_eq_true h2.1, decide_eq_true h2.2] at ho
        have hx : Lib.indexB (s.extract a s.size) comma = (i - a : Nat) := Lib.index_hit hn (by rw [hl]; omega) ho
        have ih := split_from s f (i + 2) (i + 2) (Nat.le_refl _) (by omega) (by omega) (by rw [Nat.sub_self]; exact Lib.NoOcc.zero _ _)
        rw [ih]
        have hc := Lib.countB_hit (s.extract a s.size) comma (i - a) (by decide) hx
        have e2 : (s.extract a s.size).extract (i - a + comma.size) (s.extract a s.size).size = s.extract (i + 2) s.size := by
          apply ByteArray.ext
          apply Array.toList_inj.1
          rw [extract_from, extract_from, extract_from, List.drop_drop, show comma.size = 2 from rfl, show a + (i - a + 2) = i + 2 by omega]
        have e1 : (s.extract a s.size).extract 0 (i - a) = s.extract a i := by
          rw [ByteArray.extract_extract]
          congr 1 <;> omega
        rw [e2] at hc
        show _ = Lib.splitB comma 0 (Lib.countB (s.extract a s.size) comma) (s.extract a s.size)
        rw [hc, show ∀ n : Nat, 1 + n = n + 1 from fun n => Nat.add_comm 1 n, Lib.splitB_hit _ _ _ _ _ hx, e2]
        show _ = (s.extract a s.size).extract 0 (i - a) :: _
        rw [e1]
        rfl
      · rw [if_neg h2]
        have ho' : Lib.occAt (s.extract a s.size).data.toList [44, 32] (i - a) = false := by
          rw [ho]
          by_cases h3 : bt s.data.toList i = 44
          · rw [decide_eq_true h3, decide_eq_false (fun e => h2 ⟨h3, e⟩)]; rfl
          · rw [decide_eq_false h3]; rfl
        exact split_from s f a (i + 1) (by omega) (by omega) (by omega) (by rw [show i + 1 - a = (i - a) + 1 by omega]; exact Lib.NoOcc.succ hn ho')
    · rw [if_neg h1]
      have hm : Lib.indexB (s.extract a s.size) comma = -1 := by
        refine Lib.index_past (i := i - a) (by decide) hn ?_
        rw [hl, show comma.data.toList.length = 2 from rfl]; omega
      unfold parts; rw [Lib.splitB_miss _ _ _ _ hm]
theorem split_all (s : ByteArray) (f : Nat) (h : s.size ≤ f) : splitFrom s 0 0 f = parts s := by
  have := split_from s f 0 0 (Nat.le_refl _) (by omega) (by omega) (Lib.NoOcc.zero _ _)
  rw [this]
  congr 1
  apply ByteArray.ext
  apply Array.toList_inj.1
  rw [extract_from]; rfl
end Go.Proofs.YtfhephcbjbdejaaGreatDoor.At
