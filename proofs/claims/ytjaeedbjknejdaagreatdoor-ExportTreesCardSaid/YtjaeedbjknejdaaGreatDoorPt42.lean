/- Packed texts: TreToks, TrePar, TreRtp, ParSiz -/
import Derived.Test.YtjaeedbjknejdaaGreatDoorPt41
set_option linter.unusedVariables false
set_option linter.unusedSimpArgs false
set_option maxHeartbeats 16000000
set_option maxRecDepth 100000
namespace Go.Proofs.YtjaeedbjknejdaaGreatDoor.Tr
open Go.Lib Fx Lx
def mk (m : List UInt8) (ln : Int) : Tok := ⟨5, m, 0, ln⟩
def nm (x : ByteArray) (ln : Int) : Tok := ⟨1, x.data.toList, 0, ln⟩
def okS (x : Stm) : Prop := formB x = true /\ ((x.kind = 1 \/ x.kind = 4 \/ x.kind = 5) -> nameB x.name.data.toList = true) /\ x.refs.all refB = true /\ (∀ q ∈ x.attrs, (x.kind ≠ 4 -> nameB q.1.data.toList = true) /\ q.2.size <= 32 /\ q.2.data.toList.all okT = true)
theorem attrsGo_ok (kind : Int) : ∀ (L D : List Two), attrsGo kind L D = 0 -> ∀ q ∈ L, (kind ≠ 4 -> nameB q.1.data.toList = true) /\ q.2.size <= 32 /\ q.2.data.toList.all okT = true
  | x :: r, D, h, q, hq => by
    rw [attrsGo] at h
    split at h
    · exact absurd h (by decide)
    · rename_i h1
      split at h
      · exact absurd h (by decide)
      split at h
      · exact absurd h (by decide)
      rename_i h3
      split at h
      · exact absurd h (by decide)
      rename_i h4
      rcases List.mem_cons.1 hq with rfl | hq
      · refine ⟨fun hk => ?_, by omega, by simpa using h4⟩
        cases hn : nameB q.1.data.toList
        · exact absurd ⟨hk, hn⟩ h1
        rfl
      exact attrsGo_ok kind r _ h q hq
theorem okS_of (x : Stm) (lev : Nat) (h : stmE (x, lev) = 0) : okS x := by
  unfold stmE at h
  dsimp only at h
  split at h
  · exact absurd h (by decide)
  rename_i h1
  split at h
  · exact absurd h (by decide)
  split at h
  · exact absurd h (by decide)
  rename_i h3
  split at h
  · exact absurd h (by decide)
  rename_i h4
  refine ⟨by simpa using h1, fun hk => ?_, by simpa using h4, ?_⟩
  · cases hn : nameB x.name.data.toList
    · exact absurd ⟨hk, hn⟩ h3
    rfl
  unfold attrsE at h
  split at h
  · exact absurd h (by decide)
  exact attrsGo_ok x.kind x.attrs [] h
theorem firstE_zero : ∀ (l : List (Stm × Nat)), firstE l = 0 -> ∀ p ∈ l, stmE p = 0
  | q :: r, h, p, hp => by
    rw [firstE] at h
    by_cases hq : stmE q = 0
    · rw [if_neg (fun h' => h' hq)] at h
      rcases List.mem_cons.1 hp with rfl | hp
      · exact hq
      exact firstE_zero r h p hp
    · rw [if_pos hq] at h; exact absurd h hq
theorem valid_ok (name : ByteArray) (L : List Stm) (h : validE name L = 0) : nameB name.data.toList = true /\ (flatL 0 L).length <= 512 /\ (∀ p ∈ flatL 0 L, stmE p = 0) /\ AllL okS L := by
  unfold validE at h
  split at h
  · exact absurd h (by decide)
  rename_i h1
  split at h
  · exact absurd h (by decide)
  rename_i h2
  have h3 := firstE_zero _ h
  exact ⟨by simpa using h1, by omega, h3, allL_flat okS 0 L fun q hq => okS_of q.1 q.2 (h3 q hq)⟩
end Go.Proofs.YtjaeedbjknejdaaGreatDoor.Tr

namespace Go.Proofs.YtjaeedbjknejdaaGreatDoor.Tr
open Go.Lib Fx Lx
def kNode : List UInt8 := [110, 111, 100, 101]
def kEdge : List UInt8 := [101, 100, 103, 101]
theorem empty_of (s : ByteArray) (h : s.size = 0) : s = ⟨#[]⟩ := by
  apply ByteArray.ext; exact Array.eq_empty_of_size_eq_zero h
end Go.Proofs.YtjaeedbjknejdaaGreatDoor.Tr

namespace Go.Proofs.YtjaeedbjknejdaaGreatDoor.Tr
open Go.Lib Fx Lx
theorem form_parts (k : Int) (n : ByteArray) (r a : List Two) (b : List Stm) (h : formB (.mk k n r a b) = true) :
    (k = 1 /\ r = [] /\ b = []) \/ (k = 2 /\ n = ⟨#[]⟩ /\ b = [] /\ 2 <= r.length) \/ (k = 3 /\ r = [] /\ b = [] /\ (n.data.toList = kNode \/ n.data.toList = kEdge)) \/ (k = 4 /\ r = [] /\ b = [] /\ ∃ v, a = [(⟨#[]⟩, v)]) \/ (k = 5 /\ r = [] /\ a = []) := by
  rw [formB_mk] at h
  by_cases h1 : k = 1
  · rw [if_pos h1] at h
    simp only [Bool.and_eq_true, decide_eq_true_eq] at h
    exact .inl ⟨h1, List.eq_nil_of_length_eq_zero h.1, List.eq_nil_of_length_eq_zero h.2⟩
  rw [if_neg h1] at h
  by_cases h2 : k = 2
  · rw [if_pos h2] at h
    simp only [Bool.and_eq_true, decide_eq_true_eq] at h
    exact .inr (.inl ⟨h2, empty_of n h.1.1, List.eq_nil_of_length_eq_zero h.1.2, h.2⟩)
  rw [if_neg h2] at h
  by_cases h3 : k = 3
  · rw [if_pos h3] at h
    simp only [Bool.and_eq_true, Bool.or_eq_true, decide_eq_true_eq] at h
    exact .inr (.inr (.inl ⟨h3, List.eq_nil_of_length_eq_zero h.1.1, List.eq_nil_of_length_eq_zero h.1.2, h.2⟩))
  rw [if_neg h3] at h
  by_cases h4 : k = 4
  · rw [if_pos h4] at h
    simp only [Bool.and_eq_true, decide_eq_true_eq] at h
    refine .inr (.inr (.inr (.inl ⟨h4, List.eq_nil_of_length_eq_zero h.1.1, List.eq_nil_of_length_eq_zero h.1.2, ?_⟩)))
    have h5 := h.2
    unfold setB at h5
    split at h5
    · rename_i q
      obtain ⟨x, v⟩ := q
      have : x.size = 0 := by simpa using h5
      exact ⟨v, by rw [empty_of x this]⟩
    exact absurd h5 (by decide)
  rw [if_neg h4] at h
  by_cases h5 : k = 5
  · rw [if_pos h5] at h
    simp only [Bool.and_eq_true, decide_eq_true_eq] at h
    exact .inr (.inr (.inr (.inr ⟨h5, List.eq_nil_of_length_eq_zero h.1, List.eq_nil_of_length_eq_zero h.2⟩)))
  rw [if_neg h5] at h; exact absurd h (by decide)
end Go.Proofs.YtjaeedbjknejdaaGreatDoor.Tr

namespace Go.Proofs.YtjaeedbjknejdaaGreatDoor.Pa
open Go.Lib Fx Lx Tr
def ownS (x : Stm) : Nat := x.name.size + sizeTwo x.refs + sizeTwo x.attrs + 1
theorem size_flat (C : Nat) : ∀ (M : Nat) (L : List Stm), sizeL L <= M -> ∀ lev : Nat, (∀ p ∈ flatL lev L, ownS p.1 <= C) -> sizeL L <= C * (flatL lev L).length := by
  intro M
  induction M using Nat.strongRecOn with
  | _ M ih =>
  intro L
  induction L with
  | nil => intro _ _ _; rw [sizeL_nil]; omega
  | cons x r ihr =>
    intro hM lev h
    rw [sizeL_cons] at hM ⊢
    have hb := sizeS_body x
    rw [flatL_cons, flatS_eq] at h ⊢
    have h1 := ihr (by omega) lev (fun p hp => h p (List.mem_append_right _ hp))
    have h2 := ih (sizeL x.body) (by omega) x.body (Nat.le_refl _) (if x.kind = 5 then lev + 1 else lev) (fun p hp => h p (List.mem_append_left _ (List.mem_cons_of_mem _ hp)))
    have h3 : ownS x <= C := h (x, lev) (List.mem_append_left _ List.mem_cons_self)
    unfold ownS at h3
    rw [List.length_append, List.length_cons, Nat.mul_add, Nat.mul_add]
    omega
theorem two_le (C : Nat) : ∀ L : List Two, (∀ q ∈ L, q.1.size + q.2.size + 1 <= C) -> sizeTwo L <= C * L.length
  | [], _ => by simp [sizeTwo]
  | q :: r, h => by
    have h1 := h q (by simp)
    have h2 := two_le C r fun p hp => h p (by simp [hp])
    rw [sizeTwo, List.length_cons, Nat.mul_add]; omega
theorem name_len {n : ByteArray} (h : nameB n.data.toList = true) : n.size <= 16 := by
  unfold nameB at h
  simp only [Bool.and_eq_true, decide_eq_true_eq] at h
  rw [size_len]; exact h.1.1.2
theorem own_le {x : Stm} (h : okS x) (hr : x.refs.length <= 10) (ha : x.attrs.length <= 20) : ownS x <= 1400 := by
  obtain ⟨k, n, rs, al, b⟩ := x
  obtain ⟨h1, h2, h3, h4⟩ := h
  simp only [Stm.kind, Stm.name, Stm.refs, Stm.attrs] at h2 h3 h4 hr ha
  show n.size + sizeTwo rs + sizeTwo al + 1 <= 1400
  have hp := form_parts k n rs al b h1
  have hn : n.size <= 16 := by
    rcases hp with ⟨rfl, _⟩ | ⟨rfl, rfl, _⟩ | ⟨rfl, _, _, hn | hn⟩ | ⟨rfl, _⟩ | ⟨rfl, _⟩
    · exact name_len (h2 (.inl rfl))
    · decide
    · rw [size_len, hn]; decide
    · rw [size_len, hn]; decide
    · exact name_len (h2 (.inr (.inl rfl)))
    exact name_len (h2 (.inr (.inr rfl)))
  have hR : sizeTwo rs <= 33 * rs.length := two_le 33 rs fun q hq => by
    have h := List.all_eq_true.1 h3 q hq
    unfold refB at h
    rw [Bool.and_eq_true, Bool.or_eq_true, decide_eq_true_eq] at h
    have e1 := name_len h.1
    have e2 : q.2.size <= 16 := by
      rcases h.2 with e | e
      · omega
      exact name_len e
    omega
  have hA : sizeTwo al <= 49 * al.length := two_le 49 al fun q hq => by
    obtain ⟨g1, g2, _⟩ := h4 q hq
    by_cases h5 : k = 4
    · rcases hp with ⟨rfl, _⟩ | ⟨rfl, _⟩ | ⟨rfl, _⟩ | ⟨rfl, _, _, v, rfl⟩ | ⟨rfl, _⟩
      · cases h5
      · cases h5
      · cases h5
      · rw [List.mem_singleton] at hq
        subst hq
        dsimp only at g2 ⊢
        have : ByteArray.size ⟨#[]⟩ = 0 := rfl
        omega
      cases h5
    have := name_len (g1 h5)
    omega
  omega
end Go.Proofs.YtjaeedbjknejdaaGreatDoor.Pa
