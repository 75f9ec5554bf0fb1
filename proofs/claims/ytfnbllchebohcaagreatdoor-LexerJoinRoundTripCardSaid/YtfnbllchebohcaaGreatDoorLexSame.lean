/- What the document's Same returns of two lists of tokens. -/
import Derived.Test.YtfnbllchebohcaaGreatDoorLexTokW
namespace Go.Proofs.YtfnbllchebohcaaGreatDoor.Lx
open Go.RowKit Go.Sort Go.Lib Go.Shelf Fx

theorem toksC_length (L : List Tok) : (toksC L).length = 4 * L.length := by
  induction L with
  | nil => rfl
  | cons t r ih =>
    have e : toksC (t :: r) = tokC t ++ toksC r := rfl
    rw [e, List.length_append, ih, show (tokC t).length = 4 from rfl, List.length_cons]; omega
theorem toksC_at : ∀ (L : List Tok) (k : Nat) (h : k < L.length), (toksC L)[k * 4]? = some (.int .i64 L[k].kind) ∧ (toksC L)[k * 4 + 1]? = some (.string ⟨L[k].text.toArray⟩) ∧ (toksC L)[k * 4 + 2]? = some (.int .i64 L[k].n) ∧ (toksC L)[k * 4 + 3]? = some (.int .i64 L[k].line)
  | [], k, h => by simp at h
  | t :: r, 0, _ => ⟨rfl, rfl, rfl, rfl⟩
  | t :: r, k + 1, h => by
    have ih := toksC_at r k (by simpa using h)
    have e : toksC (t :: r) = tokC t ++ toksC r := rfl
    have hl : (tokC t).length = 4 := rfl
    rw [e, List.getElem?_append_right (by omega), List.getElem?_append_right (by omega), List.getElem?_append_right (by omega), List.getElem?_append_right (by omega), hl]
    rw [show (k + 1) * 4 - 4 = k * 4 by omega, show (k + 1) * 4 + 1 - 4 = k * 4 + 1 by omega, show (k + 1) * 4 + 2 - 4 = k * 4 + 2 by omega, show (k + 1) * 4 + 3 - 4 = k * 4 + 3 by omega]
    exact ih
/-- A list of tokens in a row at g. -/
def RowAt (g : Nat) (L : List Tok) (w : World) : Prop := ∀ j u, (toksC L)[j]? = some u → w.cell? ⟨g, j, none⟩ = some u
theorem own_row {w : World} {B : Nat} {v : Value} {L : List Tok} (h : w.ownsRow B 31 4 v L.length (toksC L)) :
    (L = [] ∧ ∃ a c, v = .slice a 0 c) ∨ (∃ g cap, v = .slice (some ⟨g, 0, none⟩) L.length cap ∧ g < w.heap.size ∧ RowAt g L w) := by
  rcases h.2 with ⟨h1, h2⟩ | ⟨g, cap, cur, hv, _, hg, _⟩
  · exact .inl ⟨List.eq_nil_of_length_eq_zero h2, _, _, h1⟩
  · refine .inr ⟨g, cap, hv, (Array.getElem?_eq_some_iff.1 hg).1, fun j u hu => ?_⟩
    have hc := h.cells (g := g) (by rw [hv]; rfl) j u hu
    have e : (⟨g, 0, none⟩ : Addr).add j = ⟨g, j, none⟩ := by simp [Addr.add]; exact fun h => h.symm
    rw [e] at hc; exact hc
theorem RowAt.ext {g : Nat} {L : List Tok} {w w' : World} (h : RowAt g L w) (x : Ext w w') : RowAt g L w' := fun j u hu => x.cell (h j u hu)

set_option maxHeartbeats 8000000 in
set_option maxRecDepth 1000000 in
theorem same_pos (La Lb : List Tok) (ga gb ca cb : Nat) (w : World) (ha : RowAt ga La w) (hb : RowAt gb Lb w) (hl : La.length = Lb.length) (hm : La.length ≤ 16384) :
    Calls Tryz.prog 10 #[.slice (some ⟨ga, 0, none⟩) La.length ca, .slice (some ⟨gb, 0, none⟩) Lb.length cb] w fun e w' => e = .returned (.bool (decide (La = Lb))) ∧ Ext w w' := by
  rw [← hl]
  obtain ⟨n, hn⟩ : ∃ n, n = La.length := ⟨_, rfl⟩
  rw [← hn]
  have HA := Lib.hid ha; have HB := Lib.hid hb; have HN := Lib.hid hn; have HL := Lib.hid hl
  have hm' : n ≤ 16384 := by omega
  clear ha hb hn hl hm
  go_enter Tryz.func10, Tryz.ntmps10
  go_wp2_with fail
  go_loopw [5] (fun i' wr => ∃ k : Nat, k ≤ n ∧ i' = .int .i64 k ∧ Hid (La.take k = Lb.take k) ∧ Ext w wr) (fun i' _ => n - (RowKit.intOf i').toNat)
  case atStart => exact ⟨0, by omega, rfl, Lib.hid rfl, Ext.refl _⟩
  case round =>
    obtain ⟨k, hk, rfl, ht, hx⟩ := hrel
    by_cases hlt : k < n
    · obtain ⟨a0, a1, a2, a3⟩ := toksC_at La k (by rw [← HN.out]; exact hlt)
      obtain ⟨b0, b1, b2, b3⟩ := toksC_at Lb k (by rw [← HL.out, ← HN.out]; exact hlt)
      have ra := HA.out.ext hx
      have rb := HB.out.ext hx
      have p0 := ra _ _ a0; have p1 := ra _ _ a1; have p2 := ra _ _ a2; have p3 := ra _ _ a3
      have q0 := rb _ _ b0; have q1 := rb _ _ b1; have q2 := rb _ _ b2; have q3 := rb _ _ b3
      have hlt' : (k : Int) < (n : Int) := by omega
      clear a0 a1 a2 a3 b0 b1 b2 b3 ra rb
      obtain ⟨tA, hA⟩ : ∃ t, La[k]'(by rw [← HN.out]; exact hlt) = t := ⟨_, rfl⟩
      obtain ⟨tB, hB⟩ : ∃ t, Lb[k]'(by rw [← HL.out, ← HN.out]; exact hlt) = t := ⟨_, rfl⟩
      rw [hA] at p0 p1 p2 p3
      rw [hB] at q0 q1 q2 q3
      obtain ⟨k1, t1, n1, l1⟩ := tA
      obtain ⟨k2, t2, n2, l2⟩ := tB
      have HTA := Lib.hid hA; have HTB := Lib.hid hB
      clear hA hB
      by_cases heq : (⟨k1, t1, n1, l1⟩ : Tok) = ⟨k2, t2, n2, l2⟩
      · injection heq with e1 e2 e3 e4
        subst e1; subst e2; subst e3; subst e4
        have ht' : Hid (La.take (k + 1) = Lb.take (k + 1)) := Lib.hid (by
          rw [List.take_succ_eq_append_getElem (by rw [← HN.out]; exact hlt), List.take_succ_eq_append_getElem (by rw [← HL.out, ← HN.out]; exact hlt), ht.out, HTA.out, HTB.out])
        clear ht HTA HTB
        go_wp2
        go_region
        all_goals
          go_wp2
          go_roundw
          case rel => exact ⟨k + 1, by omega, by go_num, ht', hx.drew⟩
          case measure => simp [RowKit.intOf]; omega
      · have hne : Hid (decide (La = Lb) = false) := Lib.hid (decide_eq_false (fun e => by
          have h1 := HTA.out; have h2 := HTB.out
          subst e
          exact heq (h1.symm.trans h2)))
        clear ht HTA HTB
        by_cases e1 : k1 = k2
        · subst e1
          by_cases e2 : t1 = t2
          · subst e2
            by_cases e3 : n1 = n2
            · subst e3
              have e4 : ¬ l1 = l2 := fun e => heq (by rw [e])
              clear heq
              go_wp2
              go_region
              all_goals
                go_wp2
                go_ret
                exact ⟨ret_bool hne.out.symm, hx.drew⟩
            · clear heq
              go_wp2
              go_region
              all_goals
                go_wp2
                go_ret
                exact ⟨ret_bool hne.out.symm, hx.drew⟩
          · clear heq
            go_wp2
            go_region
            all_goals
              go_wp2
              go_ret
              exact ⟨ret_bool hne.out.symm, hx.drew⟩
        · clear heq
          go_wp2
          go_region
          all_goals
            go_wp2
            go_ret
            exact ⟨ret_bool hne.out.symm, hx.drew⟩
    · have he : Hid (decide (La = Lb) = true) := Lib.hid (decide_eq_true (by
        have h1 := ht.out
        rw [List.take_of_length_le (by rw [← HN.out]; omega), List.take_of_length_le (by rw [← HL.out, ← HN.out]; omega)] at h1
        exact h1))
      clear ht
      go_wp2
      go_ret
      exact ⟨ret_bool he.out.symm, hx⟩

theorem len_ne {La Lb : List Tok} (h : La.length ≠ Lb.length) : decide (La = Lb) = false := decide_eq_false (fun e => h (by rw [e]))
theorem same_nil (a b : Option Addr) (c d : Nat) (w : World) :
    Calls Tryz.prog 10 #[.slice a 0 c, .slice b 0 d] w fun e w' => e = .returned (.bool true) ∧ Ext w w' := by
  go_enter Tryz.func10, Tryz.ntmps10
  go_wp2_with fail
  go_loopw [5] (fun i' wr => i' = .int .i64 0 ∧ Ext w wr) (fun _ _ => 0)
  case atStart => exact ⟨rfl, Ext.refl _⟩
  case round =>
    obtain ⟨rfl, hx⟩ := hrel
    go_wp2
    go_ret
    exact ⟨rfl, hx⟩
set_option maxHeartbeats 4000000 in
theorem same_any (La Lb : List Tok) (va vb : Value) (B B' : Nat) (w : World) (ha : w.ownsRow B 31 4 va La.length (toksC La)) (hb : w.ownsRow B' 31 4 vb Lb.length (toksC Lb)) (hma : La.length ≤ 16384) (hmb : Lb.length ≤ 16384) :
    Calls Tryz.prog 10 #[va, vb] w fun e w' => e = .returned (.bool (decide (La = Lb))) ∧ Ext w w' := by
  by_cases hl : La.length = Lb.length
  · rcases own_row ha with ⟨rfl, a, c, rfl⟩ | ⟨ga, ca, rfl, _, ra⟩
    · have hb0 : Lb = [] := List.eq_nil_of_length_eq_zero hl.symm
      subst hb0
      rcases own_row hb with ⟨_, b, d, rfl⟩ | ⟨gb, cb, rfl, _, rb⟩
      · exact same_nil a b c d w
      · exact same_nil a _ c cb w
    · rcases own_row hb with ⟨rfl, b, d, rfl⟩ | ⟨gb, cb, rfl, _, rb⟩
      · have ha0 : La = [] := List.eq_nil_of_length_eq_zero hl
        subst ha0
        exact same_nil _ b ca d w
      · exact same_pos La Lb ga gb ca cb w ra rb hl hma
  · have hne := Lib.hid (len_ne hl)
    obtain ⟨a, c, rfl⟩ : ∃ a c, va = .slice a La.length c := by
      rcases own_row ha with ⟨h1, a, c, h2⟩ | ⟨ga, ca, h2, _⟩
      · exact ⟨a, c, by rw [h2, h1]; rfl⟩
      · exact ⟨_, _, h2⟩
    obtain ⟨b, d, rfl⟩ : ∃ a c, vb = .slice a Lb.length c := by
      rcases own_row hb with ⟨h1, a, c, h2⟩ | ⟨ga, ca, h2, _⟩
      · exact ⟨a, c, by rw [h2, h1]; rfl⟩
      · exact ⟨_, _, h2⟩
    clear ha hb
    go_enter Tryz.func10, Tryz.ntmps10
    go_wp2
    go_ret
    exact ⟨ret_bool hne.out.symm, Ext.refl _⟩
end Go.Proofs.YtfnbllchebohcaaGreatDoor.Lx
