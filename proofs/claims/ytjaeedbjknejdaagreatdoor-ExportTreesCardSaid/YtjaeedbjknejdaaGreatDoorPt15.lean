/- Packed texts: TreHas, TreForm, NorFin, NorRes -/
import Derived.Test.YtjaeedbjknejdaaGreatDoorPt14
import Derived.Laws.ResultCell
set_option linter.unusedVariables false
set_option linter.unusedSimpArgs false
set_option maxHeartbeats 16000000
set_option maxRecDepth 100000
namespace Go.Proofs.YtjaeedbjknejdaaGreatDoor.Tr
open Go.RowKit Go.Sort Go.Lib Go.Shelf Fx Lx
def TwoIn (w : World) (a : Option Addr) (L : List Two) : Prop :=
  ∀ k (h : k < L.length), ∃ g o, a = some ⟨g, o, none⟩ /\ w.cell? ⟨g, o + k * 2, none⟩ = some (.string L[k].1) /\ w.cell? ⟨g, o + k * 2 + 1, none⟩ = some (.string L[k].2)
theorem TwoIn.ext {w w' : World} {a : Option Addr} {L : List Two} (h : TwoIn w a L) (x : Ext w w') : TwoIn w' a L := fun k hk => by
  obtain ⟨g, o, ha, h0, h1⟩ := h k hk
  exact ⟨g, o, ha, x.cell h0, x.cell h1⟩
theorem TwoAt.in {n : Nat} {w : World} {a : Option Addr} {L : List Two} (h : TwoAt n w a L) : TwoIn w a L := fun k hk => by
  obtain ⟨g, o, ha, _, h0, h1⟩ := h k hk
  exact ⟨g, o, ha, h0, h1⟩
def hasA (l : List Two) (n : ByteArray) : Bool := l.any (fun q => decide (q.1 = n))
theorem beqs (n x : ByteArray) : (n.toList == x.toList) = decide (n = x) := by
  rw [ByteArray.toList_eq, ByteArray.toList_eq, Bool.eq_iff_iff, beq_iff_eq, decide_eq_true_eq]
  exact ⟨fun h => ByteArray.ext (Array.toList_inj.1 h), fun h => by rw [h]⟩
theorem closA_any (n x : ByteArray) (d : ByteArray) (c : Addr) (w : World) (hc : w.cell? c = some (.string x)) :
    Calls Tryz.prog 192 #[.agg #[.string n, .string d], .pointer (some c)] w fun e w' => e = .returned (.bool (decide (n = x))) /\ Ext w w' := by
  have hc' : ∀ o, (w.alloc o).cell? c = some (.string x) := fun o => ((Ext.refl w).alloc o).cell hc
  go_enter Tryz.func192, Tryz.ntmps192
  go_wp2
  go_ret
  exact ⟨ret_bool (beqs n x), (Ext.refl _).alloc _⟩
theorem idxA_any (a : Option Addr) (L : List Two) (cap : Nat) (x : ByteArray) (c : Addr) (w : World) (h : TwoIn w a L) (hc : w.cell? c = some (.string x)) (hL : L.length <= 9223372036854775807) :
    Calls Tryz.prog 238 #[.slice a L.length cap, .func (.func 192) #[] #[.pointer (some c)]] w fun e w' => (∃ r : Int, e = .returned (.int .i64 r) /\ decide (0 <= r) = hasA L x) /\ Ext w w' := by
  obtain ⟨N, hN⟩ : ∃ N, N = L.length := ⟨_, rfl⟩
  have HI := Lib.hid h
  rw [<- hN] at hL ⊢
  have HN := Lib.hid hN
  have HC := Lib.hid hc
  clear h hN hc
  go_enter Tryz.func238, Tryz.ntmps238
  go_wp2_with fail
  go_loopw [8] (fun i' wr => ∃ k : Nat, k <= N /\ i' = .int .i64 k /\ Hid (∀ j (hj : j < L.length), j < k -> L[j].1 ≠ x) /\ Ext w wr) (fun i' _ => N - (RowKit.intOf i').toNat)
  case atStart => exact ⟨0, by omega, rfl, Lib.hid (fun j _ h => absurd h (by omega)), Ext.refl _⟩
  obtain ⟨k, hk, rfl, hall, hx⟩ := hrel
  by_cases hlt : k < N
  · have hkl : k < L.length := by rw [<- HN.out]; exact hlt
    obtain ⟨g, o, rfl, c0, c1⟩ := (HI.out.ext hx) k hkl
    obtain ⟨n, hn⟩ : ∃ n, n = L[k].1 := ⟨_, rfl⟩
    obtain ⟨d, hd⟩ : ∃ d, d = L[k].2 := ⟨_, rfl⟩
    rw [<- hn] at c0; rw [<- hd] at c1
    have HNM := Lib.hid hn
    clear hn hd
    by_cases heq : n = x
    · have hf : Hid (hasA L x = true) := Lib.hid (by
        unfold hasA; rw [List.any_eq_true]; exact ⟨L[k], List.getElem_mem hkl, by rw [<- HNM.out]; exact decide_eq_true heq⟩)
      have HCL := Lib.hid (closA_any n x d c wr (hx.cell HC.out))
      rw [decide_eq_true heq] at HCL
      clear heq hall HNM
      go_wp2_with (go_at_call 192; refine HCL.out.mono ?_; rintro e w1 ⟨rfl, x1⟩)
      go_returns
      exact ⟨⟨k, rfl, by rw [hf.out]; simp⟩, hx.trans x1⟩
    have hf : Hid (∀ j (hj : j < L.length), j < k + 1 -> L[j].1 ≠ x) := Lib.hid (fun j hj h => by
      by_cases e : j = k
      · subst e; rw [<- HNM.out]; exact heq
      exact hall.out j hj (by omega))
    have HCL := Lib.hid (closA_any n x d c wr (hx.cell HC.out))
    rw [decide_eq_false heq] at HCL
    clear heq hall HNM
    go_wp2_with (go_at_call 192; refine HCL.out.mono ?_; rintro e w1 ⟨rfl, x1⟩)
    go_roundw
    case rel => exact ⟨k + 1, by omega, by go_num, hf, hx.trans x1⟩
    case measure => simp [RowKit.intOf]; omega
  have hf : Hid (hasA L x = false) := Lib.hid (by
    unfold hasA; rw [List.any_eq_false]; intro q hq
    obtain ⟨j, hj, rfl⟩ := List.getElem_of_mem hq
    simpa using hall.out j hj (by rw [<- HN.out] at hj; omega))
  clear hall
  go_wp2
  go_returns
  exact ⟨⟨-1, rfl, by rw [hf.out]; decide⟩, hx⟩
theorem hasA_any (a : Option Addr) (L : List Two) (cap : Nat) (x : ByteArray) (c : Addr) (w : World) (h : TwoIn w a L) (hc : w.cell? c = some (.string x)) (hL : L.length <= 9223372036854775807) :
    Calls Tryz.prog 191 #[.slice a L.length cap, .func (.func 192) #[] #[.pointer (some c)]] w fun e w' => e = .returned (.bool (hasA L x)) /\ Ext w w' := by
  have H := Lib.hid (idxA_any a L cap x c w h hc hL)
  clear h hc hL
  go_enter Tryz.func191, Tryz.ntmps191
  go_wp2_with (go_at_call 238; refine H.out.mono ?_; rintro e w1 ⟨⟨r, rfl, hr⟩, x1⟩)
  go_ret
  exact ⟨rfl, x1⟩
end Go.Proofs.YtjaeedbjknejdaaGreatDoor.Tr

namespace Go.Proofs.YtjaeedbjknejdaaGreatDoor.Tr
open Go.RowKit Go.Sort Go.Lib Go.Shelf Fx Lx
theorem stm_cells (w : World) (k : Int) (nm : ByteArray) (r a b : Option Addr) (R A B rc ac bc : Nat) : ∀ w1, Ext (w.alloc (.cells #[.int .i64 k, .string nm, .slice r R rc, .slice a A ac, .slice b B bc] 67)) w1 ->
    w1.cell? ⟨w.heap.size, 0, none⟩ = some (.int .i64 k) /\ w1.cell? ⟨w.heap.size, 1, none⟩ = some (.string nm) /\ w1.cell? ⟨w.heap.size, 2, none⟩ = some (.slice r R rc) /\ w1.cell? ⟨w.heap.size, 3, none⟩ = some (.slice a A ac) /\ w1.cell? ⟨w.heap.size, 4, none⟩ = some (.slice b B bc) := fun w1 x => by
  have hb := heap_alloc_new w (.cells #[.int .i64 k, .string nm, .slice r R rc, .slice a A ac, .slice b B bc] 67)
  refine ⟨x.cell ?_, x.cell ?_, x.cell ?_, x.cell ?_, x.cell ?_⟩ <;> rw [Lib.cell_of_heap hb] <;> rfl
theorem form_node (nm : ByteArray) (r a b : Option Addr) (R A B rc ac bc : Nat) (w : World) :
    Calls Tryz.prog 135 #[.agg #[.int .i64 1, .string nm, .slice r R rc, .slice a A ac, .slice b B bc]] w fun e w' => e = .returned (.int .i64 (if (decide (R = 0) && decide (B = 0)) = true then 0 else 1)) /\ Ext w w' := by
  by_cases hR : R = 0
  · by_cases hB : B = 0
    · subst hR; subst hB
      go_enter Tryz.func135, Tryz.ntmps135
      go_wp2
      go_ret
      exact ⟨rfl, (Ext.refl _).alloc _⟩
    subst hR
    have f1 : ((B : Int) == 0) = false := by simpa using hB
    rw [decide_eq_false hB]
    clear hB
    go_enter Tryz.func135, Tryz.ntmps135
    go_wp2
    go_ret
    exact ⟨rfl, (Ext.refl _).alloc _⟩
  have f1 : ((R : Int) == 0) = false := by simpa using hR
  rw [decide_eq_false hR]
  clear hR
  go_enter Tryz.func135, Tryz.ntmps135
  go_wp2
  go_ret
  exact ⟨rfl, (Ext.refl _).alloc _⟩
theorem form_cluster (nm : ByteArray) (r a b : Option Addr) (R A B rc ac bc : Nat) (w : World) :
    Calls Tryz.prog 135 #[.agg #[.int .i64 5, .string nm, .slice r R rc, .slice a A ac, .slice b B bc]] w fun e w' => e = .returned (.int .i64 (if (decide (R = 0) && decide (A = 0)) = true then 0 else 1)) /\ Ext w w' := by
  by_cases hR : R = 0
  · by_cases hB : A = 0
    · subst hR; subst hB
      go_enter Tryz.func135, Tryz.ntmps135
      go_wp2
      go_ret
      exact ⟨rfl, (Ext.refl _).alloc _⟩
    subst hR
    have f1 : ((A : Int) == 0) = false := by simpa using hB
    rw [decide_eq_false hB]
    clear hB
    go_enter Tryz.func135, Tryz.ntmps135
    go_wp2
    go_ret
    exact ⟨rfl, (Ext.refl _).alloc _⟩
  have f1 : ((R : Int) == 0) = false := by simpa using hR
  rw [decide_eq_false hR]
  clear hR
  go_enter Tryz.func135, Tryz.ntmps135
  go_wp2
  go_ret
  exact ⟨rfl, (Ext.refl _).alloc _⟩
theorem size0 {n : ByteArray} : (n.toList == []) = decide (n.size = 0) := by
  rw [ByteArray.toList_eq, size_len, Bool.eq_iff_iff, beq_iff_eq, decide_eq_true_eq, List.length_eq_zero_iff]
theorem form_edge (nm : ByteArray) (r a b : Option Addr) (R A B rc ac bc : Nat) (w : World) :
    Calls Tryz.prog 135 #[.agg #[.int .i64 2, .string nm, .slice r R rc, .slice a A ac, .slice b B bc]] w fun e w' => e = .returned (.int .i64 (if (decide (nm.size = 0) && decide (B = 0) && decide (2 <= R)) = true then 0 else 1)) /\ Ext w w' := by
  have hN := @size0 nm
  cases hn : decide (nm.size = 0)
  · rw [hn] at hN
    clear hn
    go_enter Tryz.func135, Tryz.ntmps135
    go_wp2
    go_ret
    exact ⟨rfl, (Ext.refl _).alloc _⟩
  rw [hn] at hN
  clear hn
  by_cases hB : B = 0
  · subst hB
    by_cases hR : 2 <= R
    · have f1 : decide ((2 : Int) <= R) = true := decide_eq_true (by omega)
      rw [decide_eq_true hR]
      go_enter Tryz.func135, Tryz.ntmps135
      go_wp2
      go_ret
      exact ⟨rfl, (Ext.refl _).alloc _⟩
    have f1 : decide ((2 : Int) <= R) = false := decide_eq_false (by omega)
    rw [decide_eq_false hR]
    go_enter Tryz.func135, Tryz.ntmps135
    go_wp2
    go_ret
    exact ⟨rfl, (Ext.refl _).alloc _⟩
  have f1 : ((B : Int) == 0) = false := by simpa using hB
  rw [decide_eq_false hB]
  clear hB
  go_enter Tryz.func135, Tryz.ntmps135
  go_wp2
  go_ret
  exact ⟨rfl, (Ext.refl _).alloc _⟩
end Go.Proofs.YtjaeedbjknejdaaGreatDoor.Tr

namespace Go.Proofs.YtjaeedbjknejdaaGreatDoor.Nm
open Go.RowKit Go.Sort Go.Lib Fx Lx Tr At
variable {w0 w w2 : World} {bb m1 m2 B : Nat} {nv av cv lv : Value} {aw : List Value} {ks : List (Lk × Value)} {S : St} {NV : List (Nd × Value)}
theorem row_has {w : World} {B : Nat} {T : TypeId} {sz : Nat} {v : Value} {n : Nat} {xs : List Value} (h : w.ownsRow B T sz v n xs) (h0 : 0 < n) : ∃ g c, v = .slice (some ⟨g, 0, none⟩) n c /\ n <= c /\ c <= maxLen /\ ∃ cs, w.heap[g]? = some (.cells cs T (0, 0)) := by
  rcases h.2 with ⟨_, rfl⟩ | ⟨g, cap, cur, rfl, _, hg, h1, h2, _⟩
  · exact absurd h0 (by omega)
  exact ⟨g, cap, rfl, h1, h2, cur, hg⟩
end Go.Proofs.YtjaeedbjknejdaaGreatDoor.Nm

namespace Go.Proofs.YtjaeedbjknejdaaGreatDoor.Nm
open Go.RowKit Go.Sort Go.Lib Fx Lx Tr At
theorem cells5g {w : World} {g : Nat} {T : TypeId} {c0 c1 c2 c3 c4 : Value} (h : w.heap[g]? = some (.cells #[c0, c1, c2, c3, c4] T (0, 0))) :
    w.cell? ⟨g, 0, none⟩ = some c0 /\ w.cell? ⟨g, 1, none⟩ = some c1 /\ w.cell? ⟨g, 2, none⟩ = some c2 /\ w.cell? ⟨g, 3, none⟩ = some c3 /\ w.cell? ⟨g, 4, none⟩ = some c4 := by
  refine ⟨?_, ?_, ?_, ?_, ?_⟩ <;> (rw [Lib.cell_of_heap h]; rfl)
theorem set5g {w : World} {g : Nat} {T : TypeId} {c0 c1 c2 c3 c4 : Value} (h : w.heap[g]? = some (.cells #[c0, c1, c2, c3, c4] T (0, 0))) (v0 v1 v2 v3 v4 : Value) :
    (((((w.setCell ⟨g, 0, none⟩ v0).setCell ⟨g, 1, none⟩ v1).setCell ⟨g, 2, none⟩ v2).setCell ⟨g, 3, none⟩ v3).setCell ⟨g, 4, none⟩ v4).heap[g]? = some (.cells #[v0, v1, v2, v3, v4] T (0, 0)) :=
  blk_set (blk_set (blk_set (blk_set (blk_set h 0 v0) 1 v1) 2 v2) 3 v3) 4 v4
theorem ext5g {w0 w : World} (x : Ext w0 w) {g : Nat} (hg : w0.heap.size <= g) (v0 v1 v2 v3 v4 : Value) :
    Ext w0 (((((w.setCell ⟨g, 0, none⟩ v0).setCell ⟨g, 1, none⟩ v1).setCell ⟨g, 2, none⟩ v2).setCell ⟨g, 3, none⟩ v3).setCell ⟨g, 4, none⟩ v4) :=
  ((((x.setCell hg _).setCell hg _).setCell hg _).setCell hg _).setCell hg _
end Go.Proofs.YtjaeedbjknejdaaGreatDoor.Nm
