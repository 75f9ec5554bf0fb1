/- Packed texts: NorFindR, NorPlainR, NorNodeR, NorDepthR -/
import Derived.Test.YtjaeedbjknejdaaGreatDoorPr08
set_option linter.unusedVariables false
set_option linter.unusedSimpArgs false
set_option maxHeartbeats 16000000
set_option maxRecDepth 100000
namespace Go.Proofs.YtjaeedbjknejdaaGreatDoor.Nm
open Go.RowKit Go.Lib Fx Lx At
def findGo (n : ByteArray) : Int -> List Nd -> Int
  | _, [] => -1
  | k, x :: r => if x.name = n then k else findGo n (k + 1) r
def findT (L : List Nd) (n : ByteArray) : Int := findGo n 0 L
theorem findGo_hit (n : ByteArray) : ∀ (L : List Nd) (b : Int) (k : Nat) (h : k < L.length), (∀ j (hj : j < L.length), j < k -> L[j].name ≠ n) -> L[k].name = n -> findGo n b L = b + k
  | x :: r, b, 0, _, _, hx => by
    have hx : x.name = n := hx
    unfold findGo; rw [if_pos hx]; simp
  | x :: r, b, k + 1, h, hall, hx => by
    unfold findGo
    have h0 : x.name ≠ n := hall 0 (by simp) (by omega)
    rw [if_neg h0, findGo_hit n r (b + 1) k (by simpa using h) (fun j hj hjk => hall (j + 1) (by simpa using hj) (by omega)) (by simpa using hx)]
    omega
theorem findGo_miss (n : ByteArray) : ∀ (L : List Nd) (b : Int), (∀ j (hj : j < L.length), L[j].name ≠ n) -> findGo n b L = -1
  | [], _, _ => rfl
  | x :: r, b, hall => by
    unfold findGo
    have h0 : x.name ≠ n := hall 0 (by simp)
    rw [if_neg h0, findGo_miss n r (b + 1) (fun j hj => hall (j + 1) (by simpa using hj))]
theorem box1 {w w1 : World} {c : Array Value} {T : TypeId} (h : Ext (w.alloc (.cells c T)) w1) : ∀ j v, c[j]? = some v -> w1.cell? ⟨w.heap.size, j, none⟩ = some v := fun j v hv => h.cell (by rw [Lib.cell_of_heap (heap_alloc_new w _)]; exact hv)
end Go.Proofs.YtjaeedbjknejdaaGreatDoor.Nm

namespace Go.Proofs.YtjaeedbjknejdaaGreatDoor.Nm
open Go.RowKit Go.Sort Go.Lib Go.Shelf Fx Lx Tr At
theorem ret_i {a b : Int} (h : a = b) : Ending.returned (.int .i64 a) = .returned (.int .i64 b) := by rw [h]
end Go.Proofs.YtjaeedbjknejdaaGreatDoor.Nm

namespace Go.Proofs.YtjaeedbjknejdaaGreatDoor.Nm
open Go.RowKit Go.Sort Go.Lib Go.Shelf Fx Lx Tr At
theorem find_first {L : List Nd} {i : Nat} (hi : i < L.length) : findT L L[i].name = (i : Int) \/ ((L.take i).any fun p => decide (p.name = L[i].name)) = true /\ findT L L[i].name ≠ (i : Int) := by
  by_cases h : ∀ j (hj : j < L.length), j < i -> L[j].name ≠ L[i].name
  · left
    unfold findT
    rw [findGo_hit L[i].name L 0 i hi h rfl]; omega
  right
  have key : ∀ k, (∃ j, ∃ hj : j < L.length, j <= k /\ L[j].name = L[i].name) -> ∃ j, ∃ hj : j < L.length, j <= k /\ L[j].name = L[i].name /\ ∀ m (hm : m < L.length), m < j -> L[m].name ≠ L[i].name := by
    intro k
    induction k with
    | zero => rintro ⟨j, hj, h1, h2⟩; exact ⟨j, hj, h1, h2, fun m _ hm => by omega⟩
    | succ k ih =>
      rintro ⟨j, hj, h1, h2⟩
      by_cases hs : ∃ j, ∃ hj : j < L.length, j <= k /\ L[j].name = L[i].name
      · obtain ⟨j', hj', a, b⟩ := ih hs
        exact ⟨j', hj', by omega, b⟩
      · exact ⟨j, hj, h1, h2, fun m hm hmj e => hs ⟨m, hm, by omega, e⟩⟩
  obtain ⟨j0, hj0, h0, h1⟩ : ∃ j, ∃ hj : j < L.length, j < i /\ L[j].name = L[i].name := by
    by_cases hc : ∃ j, ∃ hj : j < L.length, j < i /\ L[j].name = L[i].name
    · exact hc
    exact absurd (fun j hj hji e => hc ⟨j, hj, hji, e⟩) h
  obtain ⟨j, hj, a, b, c⟩ := key j0 ⟨j0, hj0, Nat.le_refl _, h1⟩
  refine ⟨?_, ?_⟩
  · rw [List.any_eq_true]
    exact ⟨L[j], by rw [List.mem_take_iff_getElem]; exact ⟨j, by omega, rfl⟩, decide_eq_true b⟩
  unfold findT
  rw [findGo_hit L[i].name L 0 j hj c b]; omega
theorem find_same {L : List Nd} {i : Nat} (hi : i < L.length) (h : findT L L[i].name = (i : Int)) : ((L.take i).any fun p => decide (p.name = L[i].name)) = false := by
  cases hb : ((L.take i).any fun p => decide (p.name = L[i].name)) with
  | false => rfl
  | true =>
    exfalso
    rw [List.any_eq_true] at hb
    obtain ⟨p, hp, he⟩ := hb
    rw [List.mem_take_iff_getElem] at hp
    obtain ⟨j, hj, rfl⟩ := hp
    have he := of_decide_eq_true he
    have key : ∀ (M : List Nd) (n : ByteArray) (b : Int) (j : Nat) (hj : j < M.length), M[j].name = n -> findGo n b M <= b + j := by
      intro M n
      induction M with
      | nil => intro b j hj; exact absurd hj (by simp)
      | cons x M ih =>
        intro b j hj hx
        unfold findGo
        by_cases hx0 : x.name = n
        · rw [if_pos hx0]; omega
        · rw [if_neg hx0]
          cases j with
          | zero => exact absurd hx hx0
          | succ j =>
            have := ih (b + 1) j (by simpa using hj) hx
            omega
    have := key L L[i].name 0 j (by omega) he
    unfold findT at h
    omega
theorem nfacts {x k : Int} (h : x ≠ k) : (x == k) = false /\ (x != k) = true := by
  have : (x == k) = false := by rw [beq_eq_false_iff_ne]; exact h
  exact ⟨this, by rw [bne, this]; rfl⟩
theorem efacts (x : Int) : (x == x) = true /\ (x != x) = false := by
  have : (x == x) = true := by rw [beq_iff_eq]
  exact ⟨this, by rw [bne, this]; rfl⟩
end Go.Proofs.YtjaeedbjknejdaaGreatDoor.Nm

namespace Go.Proofs.YtjaeedbjknejdaaGreatDoor.Nm
open Go.RowKit Go.Sort Go.Lib Go.Shelf Fx Lx Tr At
theorem depT_step (C : List (ByteArray × Int)) (f : Nat) {c : Nat} (h : c < C.length) : depT C (f + 1) (c : Int) = 1 + depT C f C[c].2 := by
  rw [depT, if_neg (by omega)]
  have e : (C[((c : Int)).toNat]?.map Prod.snd).getD (-1) = C[c].2 := by rw [Int.toNat_natCast, List.getElem?_eq_getElem h]; rfl
  rw [e]
theorem depT_end (C : List (ByteArray × Int)) (f : Nat) {c : Int} (h : c < 0) : depT C f c = 0 := by
  cases f with
  | zero => rfl
  | succ f => rw [depT, if_pos h]
end Go.Proofs.YtjaeedbjknejdaaGreatDoor.Nm
