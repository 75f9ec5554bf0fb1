/- Lists of ports and of attributes in memory; slices.ContainsFunc at them with the program's closures. -/
import Derived.Test.YtfhephcbjbdejaaGreatDoorAttText
import Derived.Test.YtfhephcbjbdejaaGreatDoorLexWalkA
namespace Go.Proofs.YtfhephcbjbdejaaGreatDoor.At
open Go.RowKit Go.Sort Go.Lib Go.Shelf Fx Lx

def prtC (p : Prt) : List Value := [.string p.1, .int .i64 p.2]
def prtsC (L : List Prt) : List Value := L.flatMap prtC
theorem prtsC_snoc (L : List Prt) (t : Prt) : prtsC (L ++ [t]) = prtsC L ++ prtC t := by unfold prtsC; simp
theorem prtsC_at : ∀ (L : List Prt) (k : Nat) (h : k < L.length), (prtsC L)[k * 2]? = some (.string L[k].1) ∧ (prtsC L)[k * 2 + 1]? = some (.int .i64 L[k].2)
  | [], k, h => by simp at h
  | t :: r, 0, _ => ⟨rfl, rfl⟩
  | t :: r, k + 1, h => by
    have ih := prtsC_at r k (by simpa using h)
    have e : prtsC (t :: r) = prtC t ++ prtsC r := rfl
    have hl : (prtC t).length = 2 := rfl
    rw [e, List.getElem?_append_right (by omega), List.getElem?_append_right (by omega), hl]
    rw [show (k + 1) * 2 - 2 = k * 2 by omega, show (k + 1) * 2 + 1 - 2 = k * 2 + 1 by omega]
    exact ih
/-- A list of ports behind a slice. -/
def PrtIn (w : World) (a : Option Addr) (L : List Prt) : Prop :=
  ∀ k (h : k < L.length), ∃ g o, a = some ⟨g, o, none⟩ ∧ w.cell? ⟨g, o + k * 2, none⟩ = some (.string L[k].1) ∧ w.cell? ⟨g, o + k * 2 + 1, none⟩ = some (.int .i64 L[k].2)
theorem PrtIn.ext {w w' : World} {a : Option Addr} {L : List Prt} (h : PrtIn w a L) (x : Ext w w') : PrtIn w' a L := fun k hk => by
  obtain ⟨g, o, ha, h0, h1⟩ := h k hk
  exact ⟨g, o, ha, x.cell h0, x.cell h1⟩
theorem add_at (g j : Nat) : (⟨g, 0, none⟩ : Addr).add j = ⟨g, 0 + j, none⟩ := by
  rw [Nat.zero_add]; simp [Addr.add]; exact fun h => h.symm
theorem own_prts {w : World} {B : Nat} {v : Value} {L : List Prt} (h : w.ownsRow B 49 2 v L.length (prtsC L)) : ∃ a c, v = .slice a L.length c ∧ PrtIn w a L := by
  rcases h.2 with ⟨h1, h2⟩ | ⟨g, cap, cur, hv, _, hg, _⟩
  · have : L = [] := List.eq_nil_of_length_eq_zero h2
    subst this
    exact ⟨_, _, h1, fun k hk => absurd hk (by simp)⟩
  · refine ⟨_, cap, hv, fun k hk => ⟨g, 0, rfl, ?_, ?_⟩⟩
    all_goals
      have hc := fun j u hu => h.cells (g := g) (by rw [hv]; rfl) j u hu
      have hat := prtsC_at L k hk
    · have h0 := hc _ _ hat.1
      rw [add_at] at h0; exact h0
    · have h0 := hc _ _ hat.2
      rw [add_at] at h0; exact h0
/-- A list of attributes. -/
abbrev Atr := ByteArray × ByteArray
def AtrIn (w : World) (a : Option Addr) (L : List Atr) : Prop :=
  ∀ k (h : k < L.length), ∃ g o, a = some ⟨g, o, none⟩ ∧ w.cell? ⟨g, o + k * 2, none⟩ = some (.string L[k].1) ∧ w.cell? ⟨g, o + k * 2 + 1, none⟩ = some (.string L[k].2)
theorem AtrIn.ext {w w' : World} {a : Option Addr} {L : List Atr} (h : AtrIn w a L) (x : Ext w w') : AtrIn w' a L := fun k hk => by
  obtain ⟨g, o, ha, h0, h1⟩ := h k hk
  exact ⟨g, o, ha, x.cell h0, x.cell h1⟩
def hasA (l : List Atr) (n : ByteArray) : Bool := l.any (fun q => decide (q.1 = n))

theorem beqs (n x : ByteArray) : (n.toList == x.toList) = decide (n = x) := by
  rw [ByteArray.toList_eq, ByteArray.toList_eq, Bool.eq_iff_iff, beq_iff_eq, decide_eq_true_eq]
  exact ⟨fun h => ByteArray.ext (Array.toList_inj.1 h), fun h => by rw [h]⟩
set_option maxHeartbeats 4000000 in
theorem closP_any (n x : ByteArray) (d : Int) (c : Addr) (w : World) (hc : w.cell? c = some (.string x)) :
    Calls Tryz.prog 42 #[.agg #[.string n, .int .i64 d], .pointer (some c)] w fun e w' => e = .returned (.bool (decide (n = x))) ∧ Ext w w' := by
  have hc' : ∀ o, (w.alloc o).cell? c = some (.string x) := fun o => ((Ext.refl w).alloc o).cell hc
  go_enter Tryz.func42, Tryz.ntmps42
  go_wp2
  go_ret
  exact ⟨ret_bool (beqs n x), (Ext.refl _).alloc _⟩
set_option maxHeartbeats 4000000 in
theorem idxP_any (a : Option Addr) (L : List Prt) (cap : Nat) (x : ByteArray) (c : Addr) (w : World) (h : PrtIn w a L) (hc : w.cell? c = some (.string x)) (hL : L.length ≤ 9223372036854775807) :
    Calls Tryz.prog 67 #[.slice a L.length cap, .func (.func 42) #[] #[.pointer (some c)]] w fun e w' => (∃ r : Int, e = .returned (.int .i64 r) ∧ decide (0 ≤ r) = hasN L x) ∧ Ext w w' := by
  obtain ⟨N, hN⟩ : ∃ N, N = L.length := ⟨_, rfl⟩
  have HI := Lib.hid h
  rw [← hN] at hL ⊢
  have HN := Lib.hid hN
  have HC := Lib.hid hc
  clear h hN hc
  go_enter Tryz.func67, Tryz.ntmps67
  go_wp2_with fail
  go_loopw [8] (fun i' wr => ∃ k : Nat, k ≤ N ∧ i' = .int .i64 k ∧ Hid (∀ j (hj : j < L.length), j < k → L[j].1 ≠ x) ∧ Ext w wr) (fun i' _ => N - (RowKit.intOf i').toNat)
  case atStart => exact ⟨0, by omega, rfl, Lib.hid (fun j _ h => absurd h (by omega)), Ext.refl _⟩
  case round =>
    obtain ⟨k, hk, rfl, hall, hx⟩ := hrel
    by_cases hlt : k < N
    · have hkl : k < L.length := by rw [← HN.out]; exact hlt
      obtain ⟨g, o, rfl, c0, c1⟩ := (HI.out.ext hx) k hkl
      obtain ⟨n, hn⟩ : ∃ n, n = L[k].1 := ⟨_, rfl⟩
      obtain ⟨d, hd⟩ : ∃ d, d = L[k].2 := ⟨_, rfl⟩
      rw [← hn] at c0; rw [← hd] at c1
      have HNM := Lib.hid hn
      clear hn hd
      by_cases heq : n = x
      · have hf : Hid (hasN L x = true) := Lib.hid (by
          unfold hasN; rw [List.any_eq_true]; exact ⟨L[k], List.getElem_mem hkl, by rw [← HNM.out]; exact decide_eq_true heq⟩)
        have HCL := Lib.hid (closP_any n x d c wr (hx.cell HC.out))
        rw [decide_eq_true heq] at HCL
        clear heq hall HNM
        go_wp2_with (go_at_call 42; refine HCL.out.mono ?_; rintro e w1 ⟨rfl, x1⟩)
        go_returns
        exact ⟨⟨k, rfl, by rw [hf.out]; simp⟩, hx.trans x1⟩
      · have hf : Hid (∀ j (hj : j < L.length), j < k + 1 → L[j].1 ≠ x) := Lib.hid (fun j hj h => by
          by_cases e : j = k
          · subst e; rw [← HNM.out]; exact heq
          · exact hall.out j hj (by omega))
        have HCL := Lib.hid (closP_any n x d c wr (hx.cell HC.out))
        rw [decide_eq_false heq] at HCL
        clear heq hall HNM
        go_wp2_with (go_at_call 42; refine HCL.out.mono ?_; rintro e w1 ⟨rfl, x1⟩)
        go_roundw
        case rel => exact ⟨k + 1, by omega, by go_num, hf, hx.trans x1⟩
        case measure => simp [RowKit.intOf]; omega
    · have hf : Hid (hasN L x = false) := Lib.hid (by
        unfold hasN; rw [List.any_eq_false]; intro q hq
        obtain ⟨j, hj, rfl⟩ := List.getElem_of_mem hq
        simpa using hall.out j hj (by rw [← HN.out] at hj; omega))
      clear hall
      go_wp2
      go_returns
      exact ⟨⟨-1, rfl, by rw [hf.out]; decide⟩, hx⟩
set_option maxHeartbeats 4000000 in
theorem hasP_any (a : Option Addr) (L : List Prt) (cap : Nat) (x : ByteArray) (c : Addr) (w : World) (h : PrtIn w a L) (hc : w.cell? c = some (.string x)) (hL : L.length ≤ 9223372036854775807) :
    Calls Tryz.prog 41 #[.slice a L.length cap, .func (.func 42) #[] #[.pointer (some c)]] w fun e w' => e = .returned (.bool (hasN L x)) ∧ Ext w w' := by
  have H := Lib.hid (idxP_any a L cap x c w h hc hL)
  clear h hc hL
  go_enter Tryz.func41, Tryz.ntmps41
  go_wp2_with (go_at_call 67; refine H.out.mono ?_; rintro e w1 ⟨⟨r, rfl, hr⟩, x1⟩)
  go_ret
  exact ⟨rfl, x1⟩
set_option maxHeartbeats 4000000 in
theorem closA_any (n x : ByteArray) (d : ByteArray) (c : Addr) (w : World) (hc : w.cell? c = some (.string x)) :
    Calls Tryz.prog 51 #[.agg #[.string n, .string d], .pointer (some c)] w fun e w' => e = .returned (.bool (decide (n = x))) ∧ Ext w w' := by
  have hc' : ∀ o, (w.alloc o).cell? c = some (.string x) := fun o => ((Ext.refl w).alloc o).cell hc
  go_enter Tryz.func51, Tryz.ntmps51
  go_wp2
  go_ret
  exact ⟨ret_bool (beqs n x), (Ext.refl _).alloc _⟩
set_option maxHeartbeats 4000000 in
theorem idxA_any (a : Option Addr) (L : List Atr) (cap : Nat) (x : ByteArray) (c : Addr) (w : World) (h : AtrIn w a L) (hc : w.cell? c = some (.string x)) (hL : L.length ≤ 9223372036854775807) :
    Calls Tryz.prog 68 #[.slice a L.length cap, .func (.func 51) #[] #[.pointer (some c)]] w fun e w' => (∃ r : Int, e = .returned (.int .i64 r) ∧ decide (0 ≤ r) = hasA L x) ∧ Ext w w' := by
  obtain ⟨N, hN⟩ : ∃ N, N = L.length := ⟨_, rfl⟩
  have HI := Lib.hid h
  rw [← hN] at hL ⊢
  have HN := Lib.hid hN
  have HC := Lib.hid hc
  clear h hN hc
  go_enter Tryz.func68, Tryz.ntmps68
  go_wp2_with fail
  go_loopw [8] (fun i' wr => ∃ k : Nat, k ≤ N ∧ i' = .int .i64 k ∧ Hid (∀ j (hj : j < L.length), j < k → L[j].1 ≠ x) ∧ Ext w wr) (fun i' _ => N - (RowKit.intOf i').toNat)
  case atStart => exact ⟨0, by omega, rfl, Lib.hid (fun j _ h => absurd h (by omega)), Ext.refl _⟩
  case round =>
    obtain ⟨k, hk, rfl, hall, hx⟩ := hrel
    by_cases hlt : k < N
    · have hkl : k < L.length := by rw [← HN.out]; exact hlt
      obtain ⟨g, o, rfl, c0, c1⟩ := (HI.out.ext hx) k hkl
      obtain ⟨n, hn⟩ : ∃ n, n = L[k].1 := ⟨_, rfl⟩
      obtain ⟨d, hd⟩ : ∃ d, d = L[k].2 := ⟨_, rfl⟩
      rw [← hn] at c0; rw [← hd] at c1
      have HNM := Lib.hid hn
      clear hn hd
      by_cases heq : n = x
      · have hf : Hid (hasA L x = true) := Lib.hid (by
          unfold hasA; rw [List.any_eq_true]; exact ⟨L[k], List.getElem_mem hkl, by rw [← HNM.out]; exact decide_eq_true heq⟩)
        have HCL := Lib.hid (closA_any n x d c wr (hx.cell HC.out))
        rw [decide_eq_true heq] at HCL
        clear heq hall HNM
        go_wp2_with (go_at_call 51; refine HCL.out.mono ?_; rintro e w1 ⟨rfl, x1⟩)
        go_returns
        exact ⟨⟨k, rfl, by rw [hf.out]; simp⟩, hx.trans x1⟩
      · have hf : Hid (∀ j (hj : j < L.length), j < k + 1 → L[j].1 ≠ x) := Lib.hid (fun j hj h => by
          by_cases e : j = k
          · subst e; rw [← HNM.out]; exact heq
          · exact hall.out j hj (by omega))
        have HCL := Lib.hid (closA_any n x d c wr (hx.cell HC.out))
        rw [decide_eq_false heq] at HCL
        clear heq hall HNM
        go_wp2_with (go_at_call 51; refine HCL.out.mono ?_; rintro e w1 ⟨rfl, x1⟩)
        go_roundw
        case rel => exact ⟨k + 1, by omega, by go_num, hf, hx.trans x1⟩
        case measure => simp [RowKit.intOf]; omega
    · have hf : Hid (hasA L x = false) := Lib.hid (by
        unfold hasA; rw [List.any_eq_false]; intro q hq
        obtain ⟨j, hj, rfl⟩ := List.getElem_of_mem hq
        simpa using hall.out j hj (by rw [← HN.out] at hj; omega))
      clear hall
      go_wp2
      go_returns
      exact ⟨⟨-1, rfl, by rw [hf.out]; decide⟩, hx⟩
set_option maxHeartbeats 4000000 in
theorem hasA_any (a : Option Addr) (L : List Atr) (cap : Nat) (x : ByteArray) (c : Addr) (w : World) (h : AtrIn w a L) (hc : w.cell? c = some (.string x)) (hL : L.length ≤ 9223372036854775807) :
    Calls Tryz.prog 50 #[.slice a L.length cap, .func (.func 51) #[] #[.pointer (some c)]] w fun e w' => e = .returned (.bool (hasA L x)) ∧ Ext w w' := by
  have H := Lib.hid (idxA_any a L cap x c w h hc hL)
  clear h hc hL
  go_enter Tryz.func50, Tryz.ntmps50
  go_wp2_with (go_at_call 68; refine H.out.mono ?_; rintro e w1 ⟨⟨r, rfl, hr⟩, x1⟩)
  go_ret
  exact ⟨rfl, x1⟩
end Go.Proofs.YtfhephcbjbdejaaGreatDoor.At
