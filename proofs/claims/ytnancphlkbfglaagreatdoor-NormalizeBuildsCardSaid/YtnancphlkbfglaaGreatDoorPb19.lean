/- Packed texts: TreHas, TreForm, NorPtL, NorFind -/
import Derived.Test.YtnancphlkbfglaaGreatDoorPb18
import Derived.Test.YtnancphlkbfglaaGreatDoorPb15
import Derived.Test.YtnancphlkbfglaaGreatDoorPb17
set_option linter.unusedVariables false
set_option linter.unusedSimpArgs false
namespace Go.Proofs.YtnancphlkbfglaaGreatDoor.Tr
open Go.RowKit Go.Sort Go.Lib Go.Shelf Fx Lx
def TwoIn (w : World) (a : Option Addr) (L : List Two) : Prop :=
  ∀ k (h : k < L.length), ∃ g o, a = some ⟨g, o, none⟩ ∧ w.cell? ⟨g, o + k * 2, none⟩ = some (.string L[k].1) ∧ w.cell? ⟨g, o + k * 2 + 1, none⟩ = some (.string L[k].2)
theorem TwoIn.ext {w w' : World} {a : Option Addr} {L : List Two} (h : TwoIn w a L) (x : Ext w w') : TwoIn w' a L := fun k hk => by
  obtain ⟨g, o, ha, h0, h1⟩ := h k hk
  exact ⟨g, o, ha, x.cell h0, x.cell h1⟩
theorem TwoAt.in {n : Nat} {w : World} {a : Option Addr} {L : List Two} (h : TwoAt n w a L) : TwoIn w a L := fun k hk => by
  obtain ⟨g, o, ha, _, h0, h1⟩ := h k hk
  exact ⟨g, o, ha, h0, h1⟩
def hasA (l : List Two) (n : ByteArray) : Bool := l.any (fun q => decide (q.1 = n))
theorem beqs (n x : ByteArray) : (n.toList == x.toList) = decide (n = x) := by
  rw [ByteArray.toList_eq, ByteArray.toList_eq, Bool.eq_iff_iff, beq_iff_eq, decide_eq_true_eq]
  exact ⟨fun h => ByteArray.ext (Array.toList_inj.1 h), fun h => by rw [h]⟩
set_option maxHeartbeats 4000000 in
theorem closA_any (n x : ByteArray) (d : ByteArray) (c : Addr) (w : World) (hc : w.cell? c = some (.string x)) :
    Calls Tryz.prog 132 #[.agg #[.string n, .string d], .pointer (some c)] w fun e w' => e = .returned (.bool (decide (n = x))) ∧ Ext w w' := by
  have hc' : ∀ o, (w.alloc o).cell? c = some (.string x) := fun o => ((Ext.refl w).alloc o).cell hc
  go_enter Tryz.func132, Tryz.ntmps132
  go_wp2
  go_ret
  exact ⟨ret_bool (beqs n x), (Ext.refl _).alloc _⟩
set_option maxHeartbeats 4000000 in
theorem idxA_any (a : Option Addr) (L : List Two) (cap : Nat) (x : ByteArray) (c : Addr) (w : World) (h : TwoIn w a L) (hc : w.cell? c = some (.string x)) (hL : L.length ≤ 9223372036854775807) :
    Calls Tryz.prog 151 #[.slice a L.length cap, .func (.func 132) #[] #[.pointer (some c)]] w fun e w' => (∃ r : Int, e = .returned (.int .i64 r) ∧ decide (0 ≤ r) = hasA L x) ∧ Ext w w' := by
  obtain ⟨N, hN⟩ : ∃ N, N = L.length := ⟨_, rfl⟩
  have HI := Lib.hid h
  rw [← hN] at hL ⊢
  have HN := Lib.hid hN
  have HC := Lib.hid hc
  clear h hN hc
  go_enter Tryz.func151, Tryz.ntmps151
  go_wp2_with fail
  go_loopw [8] (fun i' wr => ∃ k : Nat, k ≤ N ∧ i' = .int .i64 k ∧ Hid (∀ j (hj : j < L.length), j < k → L[j].1 ≠ x) ∧ Ext w wr) (fun i' _ => N - (RowKit.intOf i').toNat)
  case atStart => exact ⟨0, by omega, rfl, Lib.hid (fun j _ h => absurd h (by omega)), Ext.refl _⟩
  case round =>
    obtain ⟨k, hk, rfl, hall, hx⟩ := hrel
    by_cases hlt : k < N
    · have hkl : k < L.length := by rw [← HN.out]; exact hlt
      obtain ⟨g, o, rfl, c0, c1⟩ := (HI.out.ext hx) k hkl
      obtain ⟨n, hn⟩ : ∃ n, n = L[k].1 := ⟨_, rfl⟩
      obtain ⟨d, hd⟩ : ∃ d, d = L[k].2 := ⟨_, rfl⟩
      rw [← hn] at c0; rw [← hd] at c1
      have HNM := Lib.hid hn
      clear hn hd
      by_cases heq : n = x
      · have hf : Hid (hasA L x = true) := Lib.hid (by
          unfold hasA; rw [List.any_eq_true]; exact ⟨L[k], List.getElem_mem hkl, by rw [← HNM.out]; exact decide_eq_true heq⟩)
        have HCL := Lib.hid (closA_any n x d c wr (hx.cell HC.out))
        rw [decide_eq_true heq] at HCL
        clear heq hall HNM
        go_wp2_with (go_at_call 132; refine HCL.out.mono ?_; rintro e w1 ⟨rfl, x1⟩)
        go_returns
        exact ⟨⟨k, rfl, by rw [hf.out]; simp⟩, hx.trans x1⟩
      · have hf : Hid (∀ j (hj : j < L.length), j < k + 1 → L[j].1 ≠ x) := Lib.hid (fun j hj h => by
          by_cases e : j = k
          · subst e; rw [← HNM.out]; exact heq
          · exact hall.out j hj (by omega))
        have HCL := Lib.hid (closA_any n x d c wr (hx.cell HC.out))
        rw [decide_eq_false heq] at HCL
        clear heq hall HNM
        go_wp2_with (go_at_call 132; refine HCL.out.mono ?_; rintro e w1 ⟨rfl, x1⟩)
        go_roundw
        case rel => exact ⟨k + 1, by omega, by go_num, hf, hx.trans x1⟩
        case measure => simp [RowKit.intOf]; omega
    · have hf : Hid (hasA L x = false) := Lib.hid (by
        unfold hasA; rw [List.any_eq_false]; intro q hq
        obtain ⟨j, hj, rfl⟩ := List.getElem_of_mem hq
        simpa using hall.out j hj (by rw [← HN.out] at hj; omega))
      clear hall
      go_wp2
      go_returns
      exact ⟨⟨-1, rfl, by rw [hf.out]; decide⟩, hx⟩
set_option maxHeartbeats 4000000 in
theorem hasA_any (a : Option Addr) (L : List Two) (cap : Nat) (x : ByteArray) (c : Addr) (w : World) (h : TwoIn w a L) (hc : w.cell? c = some (.string x)) (hL : L.length ≤ 9223372036854775807) :
    Calls Tryz.prog 131 #[.slice a L.length cap, .func (.func 132) #[] #[.pointer (some c)]] w fun e w' => e = .returned (.bool (hasA L x)) ∧ Ext w w' := by
  have H := Lib.hid (idxA_any a L cap x c w h hc hL)
  clear h hc hL
  go_enter Tryz.func131, Tryz.ntmps131
  go_wp2_with (go_at_call 151; refine H.out.mono ?_; rintro e w1 ⟨⟨r, rfl, hr⟩, x1⟩)
  go_ret
  exact ⟨rfl, x1⟩
end Go.Proofs.YtnancphlkbfglaaGreatDoor.Tr

namespace Go.Proofs.YtnancphlkbfglaaGreatDoor.Tr
open Go.RowKit Go.Sort Go.Lib Go.Shelf Fx Lx
theorem stm_cells (w : World) (k : Int) (nm : ByteArray) (r a b : Option Addr) (R A B rc ac bc : Nat) : ∀ w1, Ext (w.alloc (.cells #[.int .i64 k, .string nm, .slice r R rc, .slice a A ac, .slice b B bc] 56)) w1 →
    w1.cell? ⟨w.heap.size, 0, none⟩ = some (.int .i64 k) ∧ w1.cell? ⟨w.heap.size, 1, none⟩ = some (.string nm) ∧ w1.cell? ⟨w.heap.size, 2, none⟩ = some (.slice r R rc) ∧ w1.cell? ⟨w.heap.size, 3, none⟩ = some (.slice a A ac) ∧ w1.cell? ⟨w.heap.size, 4, none⟩ = some (.slice b B bc) := fun w1 x => by
  have hb := heap_alloc_new w (.cells #[.int .i64 k, .string nm, .slice r R rc, .slice a A ac, .slice b B bc] 56)
  refine ⟨x.cell ?_, x.cell ?_, x.cell ?_, x.cell ?_, x.cell ?_⟩ <;> rw [Lib.cell_of_heap hb] <;> rfl
theorem b0 {n : Nat} : (((n : Int) == 0) = true) = (n = 0) := by simp
set_option maxHeartbeats 4000000 in
theorem form_node (nm : ByteArray) (r a b : Option Addr) (R A B rc ac bc : Nat) (w : World) :
    Calls Tryz.prog 97 #[.agg #[.int .i64 1, .string nm, .slice r R rc, .slice a A ac, .slice b B bc]] w fun e w' => e = .returned (.int .i64 (if (decide (R = 0) && decide (B = 0)) = true then 0 else 1)) ∧ Ext w w' := by
  by_cases hR : R = 0
  · by_cases hB : B = 0
    · subst hR; subst hB
      go_enter Tryz.func97, Tryz.ntmps97
      go_wp2
      go_ret
      exact ⟨rfl, (Ext.refl _).alloc _⟩
    · subst hR
      have f1 : ((B : Int) == 0) = false := by simpa using hB
      rw [decide_eq_false hB]
      clear hB
      go_enter Tryz.func97, Tryz.ntmps97
      go_wp2
      go_ret
      exact ⟨rfl, (Ext.refl _).alloc _⟩
  · have f1 : ((R : Int) == 0) = false := by simpa using hR
    rw [decide_eq_false hR]
    clear hR
    go_enter Tryz.func97, Tryz.ntmps97
    go_wp2
    go_ret
    exact ⟨rfl, (Ext.refl _).alloc _⟩
set_option maxHeartbeats 4000000 in
theorem form_cluster (nm : ByteArray) (r a b : Option Addr) (R A B rc ac bc : Nat) (w : World) :
    Calls Tryz.prog 97 #[.agg #[.int .i64 5, .string nm, .slice r R rc, .slice a A ac, .slice b B bc]] w fun e w' => e = .returned (.int .i64 (if (decide (R = 0) && decide (A = 0)) = true then 0 else 1)) ∧ Ext w w' := by
  by_cases hR : R = 0
  · by_cases hB : A = 0
    · subst hR; subst hB
      go_enter Tryz.func97, Tryz.ntmps97
      go_wp2
      go_ret
      exact ⟨rfl, (Ext.refl _).alloc _⟩
    · subst hR
      have f1 : ((A : Int) == 0) = false := by simpa using hB
      rw [decide_eq_false hB]
      clear hB
      go_enter Tryz.func97, Tryz.ntmps97
      go_wp2
      go_ret
      exact ⟨rfl, (Ext.refl _).alloc _⟩
  · have f1 : ((R : Int) == 0) = false := by simpa using hR
    rw [decide_eq_false hR]
    clear hR
    go_enter Tryz.func97, Tryz.ntmps97
    go_wp2
    go_ret
    exact ⟨rfl, (Ext.refl _).alloc _⟩
theorem size0 {n : ByteArray} : (n.toList == []) = decide (n.size = 0) := by
  rw [ByteArray.toList_eq, size_len, Bool.eq_iff_iff, beq_iff_eq, decide_eq_true_eq, List.length_eq_zero_iff]
set_option maxHeartbeats 4000000 in
theorem form_edge (nm : ByteArray) (r a b : Option Addr) (R A B rc ac bc : Nat) (w : World) :
    Calls Tryz.prog 97 #[.agg #[.int .i64 2, .string nm, .slice r R rc, .slice a A ac, .slice b B bc]] w fun e w' => e = .returned (.int .i64 (if (decide (nm.size = 0) && decide (B = 0) && decide (2 ≤ R)) = true then 0 else 1)) ∧ Ext w w' := by
  have hN := @size0 nm
  cases hn : decide (nm.size = 0)
  · rw [hn] at hN
    clear hn
    go_enter Tryz.func97, Tryz.ntmps97
    go_wp2
    go_ret
    exact ⟨rfl, (Ext.refl _).alloc _⟩
  · rw [hn] at hN
    clear hn
    by_cases hB : B = 0
    · subst hB
      by_cases hR : 2 ≤ R
      · have f1 : decide ((2 : Int) ≤ R) = true := decide_eq_true (by omega)
        rw [decide_eq_true hR]
        go_enter Tryz.func97, Tryz.ntmps97
        go_wp2
        go_ret
        exact ⟨rfl, (Ext.refl _).alloc _⟩
      · have f1 : decide ((2 : Int) ≤ R) = false := decide_eq_false (by omega)
        rw [decide_eq_false hR]
        go_enter Tryz.func97, Tryz.ntmps97
        go_wp2
        go_ret
        exact ⟨rfl, (Ext.refl _).alloc _⟩
    · have f1 : ((B : Int) == 0) = false := by simpa using hB
      rw [decide_eq_false hB]
      clear hB
      go_enter Tryz.func97, Tryz.ntmps97
      go_wp2
      go_ret
      exact ⟨rfl, (Ext.refl _).alloc _⟩
end Go.Proofs.YtnancphlkbfglaaGreatDoor.Tr

namespace Go.Proofs.YtnancphlkbfglaaGreatDoor.Nm
open Go.RowKit Go.Sort Go.Lib Go.Shelf Fx Lx Tr At
def PtL (w : World) (v : Value) (L : List Prt) : Prop := ∃ p c, v = .slice p L.length c ∧ PrtIn w p L ∧ L.length ≤ c ∧ c ≤ maxLen ∧ ∀ q, p = some q → ∃ cs, w.heap[q.block]? = some (.cells cs 132 (0, 0))
theorem PtL.ext {w w' : World} {v : Value} {L : List Prt} (h : PtL w v L) (x : Ext w w') : PtL w' v L := by
  obtain ⟨p, c, h1, h2, h3, h4, h5⟩ := h
  exact ⟨p, c, h1, h2.ext x, h3, h4, fun q e => by obtain ⟨cs, hc⟩ := h5 q e; exact ⟨cs, At.heap_ext hc x⟩⟩
theorem PtL.nil (w : World) : PtL w (.slice none 0 0) [] := ⟨none, 0, rfl, fun k hk => absurd hk (by simp), by simp, by unfold maxLen; omega, fun q e => by cases e⟩
theorem PtL.keep {w w' : World} {row : Option Nat} {t : Option TypeId} {v : Value} {L : List Prt} (h : PtL w v L) (hg : w.grownBy w' row) (ht : TyOf w row t) (hne : some 132 ≠ t) : PtL w' v L := by
  obtain ⟨p, c, h1, h2, h3, h4, h5⟩ := h
  refine ⟨p, c, h1, fun k hk => ?_, h3, h4, fun q e => ?_⟩
  · obtain ⟨g, o, ha, c0, c1⟩ := h2 k hk
    obtain ⟨cs, hb⟩ := h5 _ ha
    have hb' := blk_keep hb hg ht hne
    refine ⟨g, o, ha, ?_, ?_⟩
    · rw [Lib.cell_of_heap hb']; rw [Lib.cell_of_heap hb] at c0; exact c0
    · rw [Lib.cell_of_heap hb']; rw [Lib.cell_of_heap hb] at c1; exact c1
  · obtain ⟨cs, hb⟩ := h5 q e
    exact ⟨cs, blk_keep hb hg ht hne⟩
theorem own_ptL {w : World} {B : Nat} {v : Value} {L : List Prt} (h : w.ownsRow B 132 2 v L.length (prtsC L)) : PtL w v L := by
  obtain ⟨a, c, hv, hi⟩ := own_prts h
  rcases h.2 with ⟨h1, h2⟩ | ⟨g, cap, cur, h1, _, hg, h3, h4, _⟩
  · rw [hv] at h1
    injection h1 with e1 e2 e3
    subst e1; subst e3
    exact ⟨none, 0, hv, hi, by omega, by unfold maxLen; omega, fun q e => by cases e⟩
  · rw [hv] at h1
    injection h1 with e1 e2 e3
    subst e1; subst e3
    exact ⟨_, c, hv, hi, h3, h4, fun q e => by cases e; exact ⟨cur, hg⟩⟩
set_option maxHeartbeats 2000000 in
theorem lab_any (a : Option Addr) (L : List Atr) (cap : Nat) (o : ByteArray) (w : World) (h : AtrIn w a L) (hL : L.length ≤ 9223372036854775807) :
    Calls Tryz.prog 25 #[.slice a L.length cap, .string o] w fun e w' => e = .returned (.string (labelT L o)) ∧ Ext w w' := by
  have hg := get_any a L cap kLabel w h hL
  obtain ⟨V, hV⟩ : ∃ V, V = labelT L o := ⟨_, rfl⟩
  rw [← hV]
  unfold labelT at hV
  obtain ⟨⟨s, b⟩, hG⟩ : ∃ G, G = getT L kLabel := ⟨_, rfl⟩
  rw [← hG] at hg hV
  dsimp only at hg hV
  unfold kLabel at hg
  generalize L.length = N at hg ⊢
  have HG := Lib.hid hg; have HV := Lib.hid hV
  clear hg hV hG h
  cases b with
  | true =>
    have hr : Hid (V = s) := Lib.hid (by rw [HV.out, if_pos rfl])
    go_enter Tryz.func25, Tryz.ntmps25
    go_wp2_with (go_at_call 27; refine HG.out.mono ?_; rintro e w2 ⟨rfl, x2⟩)
    go_ret
    rw [hr.out]
    exact ⟨rfl, x2⟩
  | false =>
    have hr : Hid (V = o) := Lib.hid (by rw [HV.out, if_neg (by decide)])
    go_enter Tryz.func25, Tryz.ntmps25
    go_wp2_with (go_at_call 27; refine HG.out.mono ?_; rintro e w2 ⟨rfl, x2⟩)
    go_ret
    rw [hr.out]
    exact ⟨rfl, x2⟩
set_option maxHeartbeats 2000000 in
theorem portR_any (a : Option Addr) (L : List Prt) (cap : Nat) (n : ByteArray) (w : World) (h : PrtIn w a L) (hL : L.length ≤ 1000000) :
    Calls Tryz.prog 82 #[.slice a L.length cap, .string n] w fun e w' => e = .returned (.int .i64 (portT L n)) ∧ Ext w w' := by
  obtain ⟨N, hN⟩ : ∃ N, N = L.length := ⟨_, rfl⟩
  obtain ⟨V, hV⟩ : ∃ V, V = portT L n := ⟨_, rfl⟩
  rw [← hV]
  rw [← hN] at hL ⊢
  unfold portT at hV
  have hz := @size0 n
  have HN := Lib.hid hN; have HI := Lib.hid h; have HV := Lib.hid hV
  clear hN h hV
  by_cases h0 : n.size = 0
  · rw [decide_eq_true h0] at hz
    have hr : Hid (V = -1) := Lib.hid (by rw [HV.out, if_pos h0])
    clear h0
    go_enter Tryz.func82, Tryz.ntmps82
    go_wp2
    go_ret
    exact ⟨ret_i hr.out.symm, Ext.refl _⟩
  rw [decide_eq_false h0] at hz
  have H0 : Hid (V = portGo n ((0 : Nat) : Int) (L.drop 0)) := Lib.hid (by rw [HV.out, if_neg h0, List.drop_zero]; rfl)
  clear HV h0
  go_enter Tryz.func82, Tryz.ntmps82
  go_wp2_with fail
  go_loopw [5] (fun i' wr => ∃ k : Nat, k ≤ N ∧ i' = .int .i64 k ∧ Hid (V = portGo n (k : Int) (L.drop k)) ∧ Ext w wr) (fun i' _ => N - (RowKit.intOf i').toNat)
  case atStart => exact ⟨0, Nat.zero_le _, rfl, H0, Ext.refl _⟩
  case round =>
    clear H0
    obtain ⟨k, hk, rfl, hv, hx⟩ := hrel
    by_cases hlt : k < N
    · have hkl : k < L.length := by rw [← HN.out]; exact hlt
      obtain ⟨g, o, rfl, c0, -⟩ := (HI.out.ext hx) k hkl
      have hv1 := hv.out
      rw [List.drop_eq_getElem_cons hkl] at hv1
      unfold portGo at hv1
      obtain ⟨s, hs⟩ : ∃ s, s = L[k].1 := ⟨_, rfl⟩
      rw [← hs] at c0 hv1
      have HV := Lib.hid hv1
      have b0 : (0 : Int) ≤ (k : Int) := by omega
      have b1 : (k : Int) < (N : Int) := by omega
      clear hv hv1 hs
      by_cases he : s = n
      · have f1 : (s.toList == n.toList) = true := by rw [At.beqs]; exact decide_eq_true he
        have hr : Hid (V = (k : Int)) := Lib.hid (by rw [HV.out, if_pos he])
        clear he
        go_wp2
        go_ret
        exact ⟨ret_i hr.out.symm, hx⟩
      · have f1 : (s.toList == n.toList) = false := by rw [At.beqs]; exact decide_eq_false he
        have hr : Hid (V = portGo n ((k + 1 : Nat) : Int) (L.drop (k + 1))) := Lib.hid (by rw [HV.out, if_neg he]; rfl)
        clear he
        go_wp2
        go_roundw
        case rel => exact ⟨k + 1, by omega, by go_num, hr, hx⟩
        case measure => simp [RowKit.intOf]; omega
    · have hr : Hid (V = -2) := Lib.hid (by rw [hv.out, List.drop_eq_nil_of_le (by rw [← HN.out]; omega)]; rfl)
      clear hv
      go_wp2
      go_ret
      exact ⟨ret_i hr.out.symm, hx⟩
theorem portsV_len (s : ByteArray) : (portsV s).1.length ≤ 8 := by
  unfold portsV
  split
  · simp
  · exact portsGo_len _ _ (by simp)
end Go.Proofs.YtnancphlkbfglaaGreatDoor.Nm

namespace Go.Proofs.YtnancphlkbfglaaGreatDoor.Nm
open Go.RowKit Go.Sort Go.Lib Go.Shelf Fx Lx Tr At
theorem ret_bb {a b : Bool} (h : a = b) : Ending.returned (.bool a) = .returned (.bool b) := by rw [h]
set_option maxHeartbeats 4000000 in
theorem closF_any (n l x : ByteArray) (a b d : Int) (p : Value) (c : Addr) (w : World) (hc : w.cell? c = some (.string x)) :
    Calls Tryz.prog 146 #[.agg #[.string n, .string l, .int .i64 a, .int .i64 b, .int .i64 d, p], .pointer (some c)] w fun e w' => e = .returned (.bool (decide (n = x))) ∧ Ext w w' := by
  have hc' : ∀ o, (w.alloc o).cell? c = some (.string x) := fun o => ((Ext.refl w).alloc o).cell hc
  go_enter Tryz.func146, Tryz.ntmps146
  go_wp2
  go_ret
  exact ⟨ret_bb (At.beqs n x), (Ext.refl _).alloc _⟩
set_option maxHeartbeats 4000000 in
theorem idxF_any (a : Option Addr) (L : List Nd) (cap : Nat) (x : ByteArray) (c : Addr) (w : World) (h : NdIn w a L) (hc : w.cell? c = some (.string x)) (hL : L.length ≤ 4611686018427387904) :
    Calls Tryz.prog 145 #[.slice a L.length cap, .func (.func 146) #[] #[.pointer (some c)]] w fun e w' => e = .returned (.int .i64 (findT L x)) ∧ Ext w w' := by
  obtain ⟨N, hN⟩ : ∃ N, N = L.length := ⟨_, rfl⟩
  obtain ⟨V, hV⟩ : ∃ V, V = findT L x := ⟨_, rfl⟩
  rw [← hV]
  have HI := Lib.hid h
  rw [← hN] at hL ⊢
  have HN := Lib.hid hN
  have HC := Lib.hid hc
  have HV := Lib.hid hV
  clear h hN hc hV
  go_enter Tryz.func145, Tryz.ntmps145
  go_wp2_with fail
  go_loopw [8] (fun i' wr => ∃ k : Nat, k ≤ N ∧ i' = .int .i64 k ∧ Hid (∀ j (hj : j < L.length), j < k → L[j].name ≠ x) ∧ Ext w wr) (fun i' _ => N - (RowKit.intOf i').toNat)
  case atStart => exact ⟨0, by omega, rfl, Lib.hid (fun j _ h => absurd h (by omega)), Ext.refl _⟩
  case round =>
    obtain ⟨k, hk, rfl, hall, hx⟩ := hrel
    by_cases hlt : k < N
    · have hkl : k < L.length := by rw [← HN.out]; exact hlt
      obtain ⟨g, o, p, pc, rfl, c0, c1, c2, c3, c4, c5, -⟩ := (HI.out.ext hx) k hkl
      obtain ⟨n, hn⟩ : ∃ n, n = L[k].name := ⟨_, rfl⟩
      obtain ⟨n1, hn1⟩ : ∃ n, n = L[k].label := ⟨_, rfl⟩
      obtain ⟨n2, hn2⟩ : ∃ n, n = L[k].w := ⟨_, rfl⟩
      obtain ⟨n3, hn3⟩ : ∃ n, n = L[k].h := ⟨_, rfl⟩
      obtain ⟨n4, hn4⟩ : ∃ n, n = L[k].c := ⟨_, rfl⟩
      obtain ⟨n5, hn5⟩ : ∃ n, n = L[k].ports.length := ⟨_, rfl⟩
      rw [← hn] at c0; rw [← hn1] at c1; rw [← hn2] at c2; rw [← hn3] at c3; rw [← hn4] at c4; rw [← hn5] at c5
      have HNM := Lib.hid hn
      have b0 : (0 : Int) ≤ (k : Int) := by omega
      have b1 : (k : Int) < (N : Int) := by omega
      clear hn hn1 hn2 hn3 hn4 hn5
      by_cases heq : n = x
      · have hf : Hid (V = (k : Int)) := Lib.hid (by
          rw [HV.out]; unfold findT; rw [findGo_hit x L 0 k hkl hall.out (by rw [← HNM.out]; exact heq)]; omega)
        have HCL := Lib.hid (closF_any n n1 x n2 n3 n4 (.slice p n5 pc) c wr (hx.cell HC.out))
        rw [decide_eq_true heq] at HCL
        clear heq hall HNM
        go_wp2_with (go_at_call 146; refine HCL.out.mono ?_; rintro e w1 ⟨rfl, x1⟩)
        go_returns
        exact ⟨congrArg (fun z => Ending.returned (Value.int .i64 z)) hf.out.symm, hx.trans x1⟩
      · have hf : Hid (∀ j (hj : j < L.length), j < k + 1 → L[j].name ≠ x) := Lib.hid (fun j hj h => by
          by_cases e : j = k
          · subst e; rw [← HNM.out]; exact heq
          · exact hall.out j hj (by omega))
        have HCL := Lib.hid (closF_any n n1 x n2 n3 n4 (.slice p n5 pc) c wr (hx.cell HC.out))
        rw [decide_eq_false heq] at HCL
        clear heq hall HNM
        go_wp2_with (go_at_call 146; refine HCL.out.mono ?_; rintro e w1 ⟨rfl, x1⟩)
        go_roundw
        case rel => exact ⟨k + 1, by omega, by go_num, hf, hx.trans x1⟩
        case measure => simp [RowKit.intOf]; omega
    · have hf : Hid (V = -1) := Lib.hid (by
        rw [HV.out]; exact findGo_miss x L 0 (fun j hj => hall.out j hj (by rw [← HN.out] at hj; omega)))
      clear hall
      go_wp2
      go_returns
      exact ⟨congrArg (fun z => Ending.returned (Value.int .i64 z)) hf.out.symm, hx⟩
set_option maxHeartbeats 4000000 in
set_option maxRecDepth 100000 in
theorem find_any (g : Gr) (va : Value) (n : ByteArray) (w : World) (ha : GrIn w va g) (hN : g.N.length ≤ 4611686018427387904) :
    Calls Tryz.prog 113 #[va, .string n] w fun e w' => e = .returned (.int .i64 (findT g.N n)) ∧ Ext w w' := by
  obtain ⟨na, nac, ea, eac, ca, cac, rfl, a1, -, -⟩ := ha
  have H := fun (w1 : World) (c : Addr) (x : Ext w w1) (hc : w1.cell? c = some (.string n)) => idxF_any na g.N nac n c w1 (a1.ext x) hc hN
  obtain ⟨V, hV⟩ : ∃ V, V = findT g.N n := ⟨_, rfl⟩
  rw [← hV] at H ⊢
  obtain ⟨q, hq⟩ : ∃ n, n = g.N.length := ⟨_, rfl⟩
  obtain ⟨el, hel⟩ : ∃ n, n = g.E.length := ⟨_, rfl⟩
  obtain ⟨cl, hcl⟩ : ∃ n, n = g.C.length := ⟨_, rfl⟩
  rw [← hq] at H ⊢; rw [← hel, ← hcl]
  have H := Lib.hid H
  clear a1 hV hq hel hcl hN
  go_enter Tryz.func113, Tryz.ntmps113
  go_wp2_with (go_at_call 145; refine (H.out _ _ (((Ext.refl _).alloc _).alloc _) ?cc).mono ?_; rotate_left; rintro e w1 ⟨rfl, x1⟩)
  go_ret
  exact ⟨rfl, (((Ext.refl _).alloc _).alloc _).trans x1⟩
  all_goals
    have hb := heap_alloc_new (w.alloc (.cells #[.string g.name, .bool g.dir, .slice na q nac, .slice ea el eac, .slice ca cl cac] 31)) (.cells #[.string n] 9)
    rw [World.size_alloc] at hb
    rw [Lib.cell_of_heap hb]
    rfl
end Go.Proofs.YtnancphlkbfglaaGreatDoor.Nm
