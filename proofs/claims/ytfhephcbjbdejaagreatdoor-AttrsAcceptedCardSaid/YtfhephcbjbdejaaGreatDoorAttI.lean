/- What put, the document's Merge and Concat return. -/
import Derived.Test.YtfhephcbjbdejaaGreatDoorAttH
import Derived.Test.YtfhephcbjbdejaaGreatDoorAttPortsR
import Derived.BigQuiet
import Derived.Lib.AppendZeros
import Derived.Laws.OwnMore
/- Rows of attributes that a call makes. -/
namespace Go.Proofs.YtfhephcbjbdejaaGreatDoor.At
open Go.RowKit Go.Sort Go.Lib Go.Shelf Fx Lx

def atrC (p : Atr) : List Value := [.string p.1, .string p.2]
def atrsC (L : List Atr) : List Value := L.flatMap atrC
theorem atrsC_snoc (L : List Atr) (t : Atr) : atrsC (L ++ [t]) = atrsC L ++ atrC t := by unfold atrsC; simp
theorem atrsC_append (L M : List Atr) : atrsC (L ++ M) = atrsC L ++ atrsC M := by unfold atrsC; simp
theorem atrsC_len (L : List Atr) : (atrsC L).length = L.length * 2 := by
  induction L with
  | nil => rfl
  | cons t r ih =>
    have e : atrsC (t :: r) = atrC t ++ atrsC r := rfl
    rw [e, List.length_append, ih, List.length_cons, show (atrC t).length = 2 from rfl]; omega
theorem atrsC_at : ∀ (L : List Atr) (k : Nat) (h : k < L.length), (atrsC L)[k * 2]? = some (.string L[k].1) ∧ (atrsC L)[k * 2 + 1]? = some (.string L[k].2)
  | [], k, h => by simp at h
  | t :: r, 0, _ => ⟨rfl, rfl⟩
  | t :: r, k + 1, h => by
    have ih := atrsC_at r k (by simpa using h)
    have e : atrsC (t :: r) = atrC t ++ atrsC r := rfl
    have hl : (atrC t).length = 2 := rfl
    rw [e, List.getElem?_append_right (by omega), List.getElem?_append_right (by omega), hl]
    rw [show (k + 1) * 2 - 2 = k * 2 by omega, show (k + 1) * 2 + 1 - 2 = k * 2 + 1 by omega]
    exact ih
theorem atrsC_one (L : List Atr) : ∀ u ∈ atrsC L, u.oneCell' = true := by
  intro u hu
  unfold atrsC at hu
  obtain ⟨p, _, hp⟩ := List.mem_flatMap.1 hu
  simp [atrC] at hp
  rcases hp with rfl | rfl <;> rfl
theorem own_atrs {w : World} {B : Nat} {v : Value} {L : List Atr} (h : w.ownsRow B 39 2 v L.length (atrsC L)) : ∃ a c, v = .slice a L.length c ∧ AtrIn w a L ∧ (a = none → c = 0) := by
  rcases h.2 with ⟨h1, h2⟩ | ⟨g, cap, cur, hv, _, hg, _⟩
  · have : L = [] := List.eq_nil_of_length_eq_zero h2
    subst this
    exact ⟨_, _, h1, (fun k hk => absurd hk (by simp)), fun _ => rfl⟩
  · refine ⟨_, cap, hv, (fun k hk => ⟨g, 0, rfl, ?_, ?_⟩), fun e => by cases e⟩
    all_goals
      have hc := fun j u hu => h.cells (g := g) (by rw [hv]; rfl) j u hu
      have hat := atrsC_at L k hk
    · have h0 := hc _ _ hat.1
      rw [add_at] at h0; exact h0
    · have h0 := hc _ _ hat.2
      rw [add_at] at h0; exact h0
/-- The cells of a list behind a slice, as the append asks them. -/
theorem AtrIn.news {w : World} {g o : Nat} {L : List Atr} (h : AtrIn w (some ⟨g, o, none⟩) L) : ∀ j u, (atrsC L)[j]? = some u → w.cell? ((⟨g, o, none⟩ : Addr).add j) = some u := fun j u hu => by
  have hadd : (⟨g, o, none⟩ : Addr).add j = ⟨g, o + j, none⟩ := by unfold Addr.add; split <;> simp_all
  rw [hadd]
  have hj : j < (atrsC L).length := by
    rcases Nat.lt_or_ge j (atrsC L).length with h1 | h1
    · exact h1
    · rw [List.getElem?_eq_none h1] at hu; cases hu
  rw [atrsC_len] at hj
  have hk : j / 2 < L.length := by omega
  obtain ⟨g', o', e, c0, c1⟩ := h (j / 2) hk
  injection e with e; injection e with e1 e2 _
  subst e1; subst e2
  have hat := atrsC_at L (j / 2) hk
  rcases Nat.mod_two_eq_zero_or_one j with hm | hm
  · have ej : j = j / 2 * 2 := by omega
    rw [← ej] at c0 hat
    rw [hat.1] at hu
    rw [c0]; exact hu
  · have ej : j = j / 2 * 2 + 1 := by omega
    have hat2 := hat.2
    rw [← ej] at hat2
    rw [hat2] at hu
    rw [show o + j = o + j / 2 * 2 + 1 by omega, c1]; exact hu
/-- What a call hands back that makes a list of attributes. -/
def AtrRes (L : List Atr) (e : Ending) (w : World) : Prop := ∃ a c, e = .returned (.slice a L.length c) ∧ AtrIn w a L ∧ (a = none → c = 0)
theorem info_atr : (Tryz.prog.info? 39).map (fun i => (i.zero, i.size, i.bytes)) = some (some (.agg #[.string ⟨#[]⟩, .string ⟨#[]⟩]), 2, 32) := by kernel_rfl
end Go.Proofs.YtfhephcbjbdejaaGreatDoor.At

/- What the document's put returns. -/
namespace Go.Proofs.YtfhephcbjbdejaaGreatDoor.At
open Go.RowKit Go.Sort Go.Lib Go.Shelf Fx Lx

theorem geq_str (t : TypeId) (a b : ByteArray) : binOp .geq t (.string a) (.string b) = pure (.bool !(Op.bytesLess a.toList b.toList)) := by simp [binOp, Op.stringOp]
theorem putS_ways (a q : Atr) (O : List Atr) (d : Bool) : 
    (d = true ∧ q.1 = a.1 ∧ putS a (O, d) q = (O, true)) ∨ (d = true ∧ q.1 ≠ a.1 ∧ putS a (O, d) q = (O ++ [q], true)) ∨
    (d = false ∧ ltK q.1 a.1 = true ∧ q.1 ≠ a.1 ∧ putS a (O, d) q = (O ++ [q], false)) ∨
    (d = false ∧ ltK q.1 a.1 = false ∧ q.1 = a.1 ∧ putS a (O, d) q = (O ++ [a], true)) ∨
    (d = false ∧ ltK q.1 a.1 = false ∧ q.1 ≠ a.1 ∧ putS a (O, d) q = (O ++ [a] ++ [q], true)) := by
  cases d
  · cases hl : ltK q.1 a.1
    · by_cases he : q.1 = a.1
      · exact .inr (.inr (.inr (.inl ⟨rfl, rfl, he, by simp [putS, he, ltK_irrefl]⟩)))
      · exact .inr (.inr (.inr (.inr ⟨rfl, rfl, he, by simp [putS, he, hl]⟩)))
    · have he := ltK_ne hl
      exact .inr (.inr (.inl ⟨rfl, rfl, he, by simp [putS, he, hl]⟩))
  · by_cases he : q.1 = a.1
    · exact .inl ⟨rfl, he, by simp [putS, he]⟩
    · exact .inr (.inl ⟨rfl, he, by simp [putS, he]⟩)
theorem box_atr (w : World) (k v : ByteArray) : ∀ w1, Ext (w.alloc (.cells #[.string k, .string v] 39)) w1 → w1.cell? ⟨w.heap.size, 0, none⟩ = some (.string k) ∧ w1.cell? ⟨w.heap.size, 1, none⟩ = some (.string v) := fun w1 x => by
  have hb := heap_alloc_new w (.cells #[.string k, .string v] 39)
  exact ⟨x.cell (by rw [Lib.cell_of_heap hb]; rfl), x.cell (by rw [Lib.cell_of_heap hb]; rfl)⟩
theorem own_grow {w0 w w' : World} {B : Nat} {v : Value} {n : Nat} {xs : List Value} {T : TypeId} {s : Nat} (x : Ext w0 w) (h : w.ownsRow B T s v n xs) (hB : w0.heap.size ≤ B) (hg : w.grownBy w' v.ownBlock) : Ext w0 w' :=
  Below.grown x hg x.size (fun k hk => Nat.le_trans hB (h.lt k hk).1)

set_option maxHeartbeats 4000000 in
set_option maxRecDepth 100000 in
theorem put_any (b : Option Addr) (L : List Atr) (cap : Nat) (k v : ByteArray) (w : World) (h : AtrIn w b L) (hL : L.length ≤ 1000000) :
    Calls Tryz.prog 32 #[.slice b L.length cap, .agg #[.string k, .string v]] w fun e w' => AtrRes (putT (k, v) L) e w' ∧ Ext w w' := by
  obtain ⟨w1, hw1⟩ : ∃ w1, w1 = w.alloc (.cells #[.string k, .string v] 39) := ⟨_, rfl⟩
  have hs1 : w1.heap.size = w.heap.size + 1 := by rw [hw1]; simp
  have ho0 : (w1.alloc (.cells #[] 39)).ownsRow w1.heap.size 39 2 (.slice (some ⟨w1.heap.size, 0, none⟩) 0 0) 0 [] := World.ownsRow_made w1 #[] 0 (Nat.le_refl _) (by unfold maxLen; omega) rfl
  have hx0 : Ext w1 (w1.alloc (.cells #[] 39)) := (Ext.refl _).alloc _
  have hxw : Ext w w1 := by rw [hw1]; exact (Ext.refl _).alloc _
  have hbx : ∀ w2, Ext w1 w2 → w2.cell? ⟨w.heap.size, 0, none⟩ = some (.string k) ∧ w2.cell? ⟨w.heap.size, 1, none⟩ = some (.string v) := by rw [hw1]; exact box_atr w k v
  obtain ⟨N, hN⟩ : ∃ N, N = L.length := ⟨_, rfl⟩
  rw [← hN] at hL ⊢
  have HN := Lib.hid hN
  have HI := Lib.hid (h.ext hxw)
  have HO := Lib.hid ho0
  have HBX := Lib.hid hbx
  have HXW := Lib.hid hxw
  have HX0 := Lib.hid hx0
  have HW1 := Lib.hid hw1
  have HS1 := Lib.hid hs1
  clear hN h ho0 hbx hxw hx0 hs1
  obtain ⟨i0, hi, hz0, hz1, hz2⟩ := info_parts info_atr
  obtain ⟨B, hB⟩ : ∃ B, B = w.heap.size := ⟨_, rfl⟩
  have HBB := Lib.hid hB
  rw [← hB] at HBX HS1
  clear hw1
  go_enter Tryz.func32, Tryz.ntmps32
  go_wp2_with fail
  rw [← hB, ← HW1.out, ← HS1.out]
  clear hB
  go_loopw [5, 6, 7] (fun out dn i' wr => ∃ (j : Nat) (O : List Atr) (d : Bool) (g oc : Nat), j ≤ N ∧ i' = .int .i64 j ∧ dn = .bool d ∧ out = .slice (some ⟨g, 0, none⟩) O.length oc ∧ wr.ownsRow w1.heap.size 39 2 (.slice (some ⟨g, 0, none⟩) O.length oc) O.length (atrsC O) ∧ Ext w1 wr ∧ Hid (putF (k, v) (L.take j) = (O, d)) ∧ O.length ≤ 2 * j)
    (fun _ _ i' _ => N - (RowKit.intOf i').toNat)
  case atStart => exact ⟨0, [], false, w1.heap.size, 0, by omega, rfl, rfl, rfl, HO.out, HX0.out, Lib.hid rfl, by simp⟩
  case round =>
    obtain ⟨j, O, d, g, oc, hj, rfl, rfl, rfl, hown, hx, ha, hol⟩ := hrel
    clear HO HX0
    by_cases hlt : j < N
    · have hjl : j < L.length := by rw [← HN.out]; exact hlt
      have hst : putF (k, v) (L.take (j + 1)) = putS (k, v) (O, d) L[j] := by
        rw [List.take_succ_eq_append_getElem hjl, putF_snoc, ha.out]
      obtain ⟨gl, ol, hbe, -, -⟩ := (HI.out.ext hx) j hjl
      subst hbe
      have HC : Hid (∀ w2, Ext w1 w2 → w2.cell? ⟨gl, ol + j * 2, none⟩ = some (.string L[j].1) ∧ w2.cell? ⟨gl, ol + j * 2 + 1, none⟩ = some (.string L[j].2)) := Lib.hid (fun w2 x => by
        obtain ⟨g', o', e, c0, c1⟩ := (HI.out.ext x) j hjl
        injection e with e; injection e with e1 e2 _; subst e1; subst e2
        exact ⟨c0, c1⟩)
      have hw := putS_ways (k, v) L[j] O d
      obtain ⟨n, hn⟩ : ∃ n, n = L[j].1 := ⟨_, rfl⟩
      obtain ⟨dv, hdv⟩ : ∃ dv, dv = L[j].2 := ⟨_, rfl⟩
      have hq : L[j] = (n, dv) := by rw [hn, hdv]
      rw [hq] at hst hw HC
      dsimp only at hw HC
      have HST := Lib.hid hst
      have HW := Lib.hid hw
      have HA := Lib.hid ha.out
      clear ha hst hw hn hdv hq
      have HX := Lib.hid hx
      have HOW := Lib.hid hown
      clear hx hown
      rcases HW.out with ⟨rfl, he, hr⟩ | ⟨rfl, he, hr⟩ | ⟨rfl, hl, he, hr⟩ | ⟨rfl, hl, he, hr⟩ | ⟨rfl, hl, he, hr⟩
      · have g1 : (n.toList == k.toList) = true := by rw [beqs]; exact decide_eq_true he
        have hf := Lib.hid (HST.out.trans hr)
        obtain ⟨c0, c1⟩ := HC.out _ HX.out
        obtain ⟨b0, b1⟩ := HBX.out _ HX.out
        clear he hr HW HST HA
        go_wp2
        go_quiet (fail)
        go_wp2
        go_quiet (fail)
        go_wp2
        go_roundw
        case rel => exact ⟨j + 1, O, true, g, oc, by omega, by go_num, rfl, rfl, (own_ext HOW.out ((Ext.refl _).drewN _)), HX.out.drewN _, hf, by omega⟩
        case measure => simp [RowKit.intOf]; omega
      · have g1 : (n.toList == k.toList) = false := by rw [beqs]; exact decide_eq_false he
        have hf := Lib.hid (HST.out.trans hr)
        obtain ⟨c0, c1⟩ := HC.out _ HX.out
        obtain ⟨b0, b1⟩ := HBX.out _ HX.out
        clear he hr HW HST HA
        go_wp2
        go_quiet (fail)
        go_wp2
        go_quiet (fail)
        go_wp2_with (at_builtin; refine wpList_append_lies _ rfl _ _ 22 rfl w1.heap.size 39 i0 _ 2 32 Tryz.underlying22 hi hz0 hz1 hz2 rfl (by decide) _ _ _ rfl ((own_ext HOW.out ((Ext.refl _).drewN _)).alloc _) _ 1 1 (atrC (n, dv)) rfl rfl ?c1 ?c2 (by decide) ?c3 ?c4 ?c5 _ rfl ?_)
        case c1 => exact fun j u hj => cell_new1 _ (atrC (n, dv)) 39 j u hj
        case c2 => intro u hu; simp [atrC] at hu; rcases hu with rfl | rfl <;> rfl
        case c3 => unfold maxLen; (try simp); omega
        case c4 => (try simp); omega
        case c5 => have h := HX.out.size; (try simp); omega
        intro g4 cap4 w4 hown' hgrow _ _
        have HX4 : Hid (Ext w1 w4) := Lib.hid (own_grow ((HX.out.drewN _).alloc _) ((own_ext HOW.out ((Ext.refl _).drewN _)).alloc _) (Nat.le_refl _) hgrow)
        have HO4 : Hid (w4.ownsRow w1.heap.size 39 2 (.slice (some ⟨g4, 0, none⟩) (O.length + 1) cap4) (O.length + 1) (atrsC (O ++ [(n, dv)]))) := Lib.hid (by rw [atrsC_snoc]; exact hown')
        clear hown' hgrow
        obtain ⟨c0, c1⟩ := HC.out _ HX4.out
        obtain ⟨b0, b1⟩ := HBX.out _ HX4.out
        go_wp2
        go_roundw
        case rel => exact ⟨j + 1, O ++ [(n, dv)], true, g4, cap4, by omega, by go_num, rfl, by rw [(show (O ++ [(n, dv)]).length = O.length + 1 by simp)], by rw [(show (O ++ [(n, dv)]).length = O.length + 1 by simp)]; exact HO4.out, HX4.out, hf, by simp; omega⟩
        case measure => simp [RowKit.intOf]; omega
      · have g1 : (n.toList == k.toList) = false := by rw [beqs]; exact decide_eq_false he
        have g2 : ∀ t, binOp .geq t (.string n) (.string k) = pure (.bool (!true)) := fun t => by rw [geq_str, ltK_less]; exact congrArg (fun z => (pure (Value.bool (!z)) : Sem Value)) hl
        have hf := Lib.hid (HST.out.trans hr)
        obtain ⟨c0, c1⟩ := HC.out _ HX.out
        obtain ⟨b0, b1⟩ := HBX.out _ HX.out
        clear he hr HW HST HA hl
        go_wp2
        go_quiet (fail)
        go_wp2
        go_quiet (fail)
        go_wp2_with (at_builtin; refine wpList_append_lies _ rfl _ _ 22 rfl w1.heap.size 39 i0 _ 2 32 Tryz.underlying22 hi hz0 hz1 hz2 rfl (by decide) _ _ _ rfl ((own_ext HOW.out ((Ext.refl _).drewN _)).alloc _) _ 1 1 (atrC (n, dv)) rfl rfl ?c1 ?c2 (by decide) ?c3 ?c4 ?c5 _ rfl ?_)
        case c1 => exact fun j u hj => cell_new1 _ (atrC (n, dv)) 39 j u hj
        case c2 => intro u hu; simp [atrC] at hu; rcases hu with rfl | rfl <;> rfl
        case c3 => unfold maxLen; (try simp); omega
        case c4 => (try simp); omega
        case c5 => have h := HX.out.size; (try simp); omega
        intro g4 cap4 w4 hown' hgrow _ _
        have HX4 : Hid (Ext w1 w4) := Lib.hid (own_grow ((HX.out.drewN _).alloc _) ((own_ext HOW.out ((Ext.refl _).drewN _)).alloc _) (Nat.le_refl _) hgrow)
        have HO4 : Hid (w4.ownsRow w1.heap.size 39 2 (.slice (some ⟨g4, 0, none⟩) (O.length + 1) cap4) (O.length + 1) (atrsC (O ++ [(n, dv)]))) := Lib.hid (by rw [atrsC_snoc]; exact hown')
        clear hown' hgrow
        obtain ⟨c0, c1⟩ := HC.out _ HX4.out
        obtain ⟨b0, b1⟩ := HBX.out _ HX4.out
        go_wp2
        go_roundw
        case rel => exact ⟨j + 1, O ++ [(n, dv)], false, g4, cap4, by omega, by go_num, rfl, by rw [(show (O ++ [(n, dv)]).length = O.length + 1 by simp)], by rw [(show (O ++ [(n, dv)]).length = O.length + 1 by simp)]; exact HO4.out, HX4.out, hf, by simp; omega⟩
        case measure => simp [RowKit.intOf]; omega
      · have g1 : (n.toList == k.toList) = true := by rw [beqs]; exact decide_eq_true he
        have g2 : ∀ t, binOp .geq t (.string n) (.string k) = pure (.bool (!false)) := fun t => by rw [geq_str, ltK_less]; exact congrArg (fun z => (pure (Value.bool (!z)) : Sem Value)) hl
        have hf := Lib.hid (HST.out.trans hr)
        obtain ⟨c0, c1⟩ := HC.out _ HX.out
        obtain ⟨b0, b1⟩ := HBX.out _ HX.out
        clear he hr HW HST HA hl
        go_wp2
        go_quiet (fail)
        go_wp2_with (at_builtin; refine wpList_append_lies _ rfl _ _ 22 rfl w1.heap.size 39 i0 _ 2 32 Tryz.underlying22 hi hz0 hz1 hz2 rfl (by decide) _ _ _ rfl ((own_ext HOW.out ((Ext.refl _).drewN _)).alloc _) _ 1 1 (atrC (k, v)) rfl rfl ?c1 ?c2 (by decide) ?c3 ?c4 ?c5 _ rfl ?_)
        case c1 => exact fun j u hj => cell_new1 _ (atrC (k, v)) 39 j u hj
        case c2 => intro u hu; simp [atrC] at hu; rcases hu with rfl | rfl <;> rfl
        case c3 => unfold maxLen; (try simp); omega
        case c4 => (try simp); omega
        case c5 => have h := HX.out.size; (try simp); omega
        intro g3 cap3 w3 hown' hgrow _ _
        have HX3 : Hid (Ext w1 w3) := Lib.hid (own_grow ((HX.out.drewN _).alloc _) ((own_ext HOW.out ((Ext.refl _).drewN _)).alloc _) (Nat.le_refl _) hgrow)
        have HO3 : Hid (w3.ownsRow w1.heap.size 39 2 (.slice (some ⟨g3, 0, none⟩) (O.length + 1) cap3) (O.length + 1) (atrsC (O ++ [(k, v)]))) := Lib.hid (by rw [atrsC_snoc]; exact hown')
        clear hown' hgrow
        obtain ⟨c0, c1⟩ := HC.out _ HX3.out
        obtain ⟨b0, b1⟩ := HBX.out _ HX3.out
        go_wp2
        go_quiet (fail)
        go_wp2
        go_roundw
        case rel => exact ⟨j + 1, O ++ [(k, v)], true, g3, cap3, by omega, by go_num, rfl, by rw [(show (O ++ [(k, v)]).length = O.length + 1 by simp)], by rw [(show (O ++ [(k, v)]).length = O.length + 1 by simp)]; exact (own_ext HO3.out ((Ext.refl _).drewN _)), HX3.out.drewN _, hf, by simp; omega⟩
        case measure => simp [RowKit.intOf]; omega
      · have g1 : (n.toList == k.toList) = false := by rw [beqs]; exact decide_eq_false he
        have g2 : ∀ t, binOp .geq t (.string n) (.string k) = pure (.bool (!false)) := fun t => by rw [geq_str, ltK_less]; exact congrArg (fun z => (pure (Value.bool (!z)) : Sem Value)) hl
        have hf := Lib.hid (HST.out.trans hr)
        obtain ⟨c0, c1⟩ := HC.out _ HX.out
        obtain ⟨b0, b1⟩ := HBX.out _ HX.out
        clear he hr HW HST HA hl
        go_wp2
        go_quiet (fail)
        go_wp2_with (at_builtin; refine wpList_append_lies _ rfl _ _ 22 rfl w1.heap.size 39 i0 _ 2 32 Tryz.underlying22 hi hz0 hz1 hz2 rfl (by decide) _ _ _ rfl ((own_ext HOW.out ((Ext.refl _).drewN _)).alloc _) _ 1 1 (atrC (k, v)) rfl rfl ?c1 ?c2 (by decide) ?c3 ?c4 ?c5 _ rfl ?_)
        case c1 => exact fun j u hj => cell_new1 _ (atrC (k, v)) 39 j u hj
        case c2 => intro u hu; simp [atrC] at hu; rcases hu with rfl | rfl <;> rfl
        case c3 => unfold maxLen; (try simp); omega
        case c4 => (try simp); omega
        case c5 => have h := HX.out.size; (try simp); omega
        intro g3 cap3 w3 hown' hgrow _ _
        have HX3 : Hid (Ext w1 w3) := Lib.hid (own_grow ((HX.out.drewN _).alloc _) ((own_ext HOW.out ((Ext.refl _).drewN _)).alloc _) (Nat.le_refl _) hgrow)
        have HO3 : Hid (w3.ownsRow w1.heap.size 39 2 (.slice (some ⟨g3, 0, none⟩) (O.length + 1) cap3) (O.length + 1) (atrsC (O ++ [(k, v)]))) := Lib.hid (by rw [atrsC_snoc]; exact hown')
        clear hown' hgrow
        obtain ⟨c0, c1⟩ := HC.out _ HX3.out
        obtain ⟨b0, b1⟩ := HBX.out _ HX3.out
        go_wp2
        go_quiet (fail)
        go_wp2_with (at_builtin; refine wpList_append_lies _ rfl _ _ 22 rfl w1.heap.size 39 i0 _ 2 32 Tryz.underlying22 hi hz0 hz1 hz2 rfl (by decide) _ _ _ rfl ((own_ext HO3.out ((Ext.refl _).drewN _)).alloc _) _ 1 1 (atrC (n, dv)) rfl rfl ?c1 ?c2 (by decide) ?c3 ?c4 ?c5 _ rfl ?_)
        case c1 => exact fun j u hj => cell_new1 _ (atrC (n, dv)) 39 j u hj
        case c2 => intro u hu; simp [atrC] at hu; rcases hu with rfl | rfl <;> rfl
        case c3 => unfold maxLen; (try simp); omega
        case c4 => (try simp); omega
        case c5 => have h := HX3.out.size; (try simp); omega
        intro g4 cap4 w4 hown' hgrow _ _
        have HX4 : Hid (Ext w1 w4) := Lib.hid (own_grow ((HX3.out.drewN _).alloc _) ((own_ext HO3.out ((Ext.refl _).drewN _)).alloc _) (Nat.le_refl _) hgrow)
        have HO4 : Hid (w4.ownsRow w1.heap.size 39 2 (.slice (some ⟨g4, 0, none⟩) (O.length + 1 + 1) cap4) (O.length + 1 + 1) (atrsC ((O ++ [(k, v)]) ++ [(n, dv)]))) := Lib.hid (by rw [atrsC_snoc]; exact hown')
        clear hown' hgrow
        obtain ⟨c0, c1⟩ := HC.out _ HX4.out
        obtain ⟨b0, b1⟩ := HBX.out _ HX4.out
        go_wp2
        go_roundw
        case rel => exact ⟨j + 1, O ++ [(k, v)] ++ [(n, dv)], true, g4, cap4, by omega, by go_num, rfl, by rw [(show (O ++ [(k, v)] ++ [(n, dv)]).length = O.length + 1 + 1 by simp)], by rw [(show (O ++ [(k, v)] ++ [(n, dv)]).length = O.length + 1 + 1 by simp)]; exact HO4.out, HX4.out, hf, by simp; omega⟩
        case measure => simp [RowKit.intOf]; omega
    · have hjn : j = N := by omega
      have hst : putF (k, v) L = (O, d) := by rw [← ha.out, List.take_of_length_le (by rw [← HN.out]; omega)]
      have HST := Lib.hid hst
      have HX := Lib.hid hx
      have HOW := Lib.hid hown
      clear ha hst hx hown
      cases d
      · have hp : putT (k, v) L = O ++ [(k, v)] := by unfold putT; rw [HST.out]; rfl
        have HP := Lib.hid hp
        obtain ⟨b0, b1⟩ := HBX.out _ HX.out
        clear hp HST
        go_wp2_with (at_builtin; refine wpList_append_lies _ rfl _ _ 22 rfl w1.heap.size 39 i0 _ 2 32 Tryz.underlying22 hi hz0 hz1 hz2 rfl (by decide) _ _ _ rfl (HOW.out.alloc _) _ 1 1 (atrC (k, v)) rfl rfl ?c1 ?c2 (by decide) ?c3 ?c4 ?c5 _ rfl ?_)
        case c1 => exact fun j u hj => cell_new1 _ (atrC (k, v)) 39 j u hj
        case c2 => intro u hu; simp [atrC] at hu; rcases hu with rfl | rfl <;> rfl
        case c3 => unfold maxLen; (try simp); omega
        case c4 => (try simp); omega
        case c5 => have h := HX.out.size; (try simp); omega
        intro g3 cap3 w3 hown' hgrow _ _
        have HX3 : Hid (Ext w1 w3) := Lib.hid (own_grow ((HX.out).alloc _) (HOW.out.alloc _) (Nat.le_refl _) hgrow)
        have HO3 : Hid (w3.ownsRow w1.heap.size 39 2 (.slice (some ⟨g3, 0, none⟩) (O.length + 1) cap3) (O.length + 1) (atrsC (O ++ [(k, v)]))) := Lib.hid (by rw [atrsC_snoc]; exact hown')
        clear hown' hgrow
        go_wp2
        go_returns
        obtain ⟨a5, c5, e5, i5, n5⟩ := own_atrs (L := O ++ [(k, v)]) (by rw [List.length_append]; exact HO3.out)
        rw [HP.out]
        exact ⟨⟨a5, c5, by rw [← e5]; simp, i5, n5⟩, HXW.out.trans HX3.out⟩
      · have hp : putT (k, v) L = O := by unfold putT; rw [HST.out]; rfl
        have HP := Lib.hid hp
        clear hp HST
        go_wp2
        go_returns
        obtain ⟨a5, c5, e5, i5, n5⟩ := own_atrs HOW.out
        rw [HP.out]
        exact ⟨⟨a5, c5, congrArg _ e5, i5, n5⟩, HXW.out.trans HX.out⟩
end Go.Proofs.YtfhephcbjbdejaaGreatDoor.At

/- What the document's Merge returns. -/
namespace Go.Proofs.YtfhephcbjbdejaaGreatDoor.At
open Go.RowKit Go.Sort Go.Lib Go.Shelf Fx Lx

theorem insT_len (a : Atr) : ∀ L : List Atr, (insT a L).length ≤ L.length + 1
  | [] => by simp [insT]
  | q :: r => by
    have ih := insT_len a r
    unfold insT
    by_cases h1 : ltK q.1 a.1 = true
    · rw [if_pos h1]; simp; omega
    · rw [if_neg h1]
      by_cases h2 : q.1 = a.1
      · rw [if_pos h2]; simp
      · rw [if_neg h2]; simp
theorem mrgT_len : ∀ L : List Atr, (mrgT L).length ≤ L.length :=
  list_snoc_ind (by simp [mrgT]) (fun L a h => by
    rw [mrgT_snoc, List.length_append]
    have := insT_len a (mrgT L)
    simp; omega)
theorem mrgT_put (L : List Atr) (k v : ByteArray) : putT (k, v) (mrgT L) = mrgT (L ++ [(k, v)]) := by rw [putT_ins _ _ (mrgT_asc L), mrgT_snoc]
set_option maxHeartbeats 2000000 in
set_option maxRecDepth 100000 in
theorem mrgR_any (a b : Option Addr) (La Lb : List Atr) (ca cb : Nat) (w : World) (ha : AtrIn w a La) (hb : AtrIn w b Lb) (hA : La.length ≤ 1000) (hB : Lb.length ≤ 1000) :
    Calls Tryz.prog 15 #[.slice a La.length ca, .slice b Lb.length cb] w fun e w' => AtrRes (mrgT (La ++ Lb)) e w' ∧ Ext w w' := by
  obtain ⟨N, hN⟩ : ∃ N, N = La.length := ⟨_, rfl⟩
  obtain ⟨M, hM⟩ : ∃ M, M = Lb.length := ⟨_, rfl⟩
  obtain ⟨R, hR⟩ : ∃ R, R = mrgT (La ++ Lb) := ⟨_, rfl⟩
  rw [← hR]
  rw [← hN] at hA ⊢
  rw [← hM] at hB ⊢
  have HN := Lib.hid hN; have HM := Lib.hid hM; have HR := Lib.hid hR
  have HA := Lib.hid ha; have HBB := Lib.hid hb
  have HPU := Lib.hid (fun b L cap k v w h hL => put_any b L cap k v w h hL)
  have hx0 : Ext w (w.alloc (.cells #[] 39)) := (Ext.refl _).alloc _
  have HX0 := Lib.hid hx0
  clear hN hM hR ha hb hx0
  go_enter Tryz.func15, Tryz.ntmps15
  go_wp2_with fail
  go_loopw [5, 6] (fun out i' wr => ∃ (k : Nat) (O : List Atr) (x : Option Addr) (c : Nat), k ≤ N ∧ i' = .int .i64 k ∧ out = .slice x O.length c ∧ Hid (AtrIn wr x O ∧ (x = none → c = 0) ∧ O = mrgT (La.take k)) ∧ Ext w wr)
    (fun _ i' _ => N - (RowKit.intOf i').toNat)
  case atStart => exact ⟨0, [], _, 0, by omega, rfl, rfl, Lib.hid ⟨fun k h => absurd h (by simp), fun _ => rfl, rfl⟩, HX0.out⟩
  case round =>
    obtain ⟨k, O, x, c, hk, rfl, rfl, ho, hx⟩ := hrel
    clear HX0
    by_cases hlt : k < N
    · have hkl : k < La.length := by rw [← HN.out]; exact hlt
      obtain ⟨g, o, rfl, c0, c1⟩ := (HA.out.ext hx) k hkl
      have hpu := HPU.out x O c La[k].1 La[k].2 wr ho.out.1 (by
        have := mrgT_len (La.take k); rw [ho.out.2.2]; simp at this; omega)
      have hst : putT (La[k].1, La[k].2) O = mrgT (La.take (k + 1)) := by
        rw [ho.out.2.2, mrgT_put, List.take_succ_eq_append_getElem hkl]
      obtain ⟨O2, hO2⟩ : ∃ O2, O2 = putT (La[k].1, La[k].2) O := ⟨_, rfl⟩
      rw [← hO2] at hpu hst
      generalize La[k].1 = n at c0 hpu
      generalize La[k].2 = d at c1 hpu
      have HP := Lib.hid hpu
      have HS := Lib.hid hst
      clear hpu hst hO2 ho
      go_wp2_with (go_at_call 32; refine HP.out.mono ?_; rintro e w2 ⟨⟨y, c2, rfl, hi2, hn2⟩, x2⟩; have HI2 := Lib.hid hi2; clear hi2)
      go_roundw
      case rel => exact ⟨k + 1, O2, y, c2, by omega, by go_num, rfl, Lib.hid ⟨HI2.out, hn2, HS.out⟩, hx.trans x2⟩
      case measure => simp [RowKit.intOf]; omega
    · have hkn : k = N := by omega
      have hs : O = mrgT (La ++ Lb.take 0) := by rw [ho.out.2.2, List.take_of_length_le (by rw [← HN.out]; omega)]; simp
      have HO := Lib.hid (And.intro ho.out.1 (And.intro ho.out.2.1 hs))
      have HX := Lib.hid hx
      have hOl : O.length ≤ N := by have := mrgT_len (La.take k); rw [← ho.out.2.2] at this; simp at this; omega
      clear ho hs hx hkn
      go_wp2_with fail
      go_loopw [5, 7] (fun out i' wr => ∃ (k : Nat) (O : List Atr) (x : Option Addr) (c : Nat), k ≤ M ∧ i' = .int .i64 k ∧ out = .slice x O.length c ∧ Hid (AtrIn wr x O ∧ (x = none → c = 0) ∧ O = mrgT (La ++ Lb.take k)) ∧ Ext w wr)
        (fun _ i' _ => M - (RowKit.intOf i').toNat)
      case atStart => exact ⟨0, O, x, c, by omega, rfl, rfl, HO, HX.out⟩
      case round =>
        clear HO HX
        obtain ⟨k, O, x, c, hk, rfl, rfl, ho, hx⟩ := hrel
        by_cases hlt : k < M
        · have hkl : k < Lb.length := by rw [← HM.out]; exact hlt
          obtain ⟨g, o, rfl, c0, c1⟩ := (HBB.out.ext hx) k hkl
          have hpu := HPU.out x O c Lb[k].1 Lb[k].2 _ ho.out.1 (by
            have := mrgT_len (La ++ Lb.take k); rw [ho.out.2.2]; simp at this; have := HN.out; omega)
          have hst : putT (Lb[k].1, Lb[k].2) O = mrgT (La ++ Lb.take (k + 1)) := by
            rw [ho.out.2.2, mrgT_put, List.take_succ_eq_append_getElem hkl, List.append_assoc]
          obtain ⟨O2, hO2⟩ : ∃ O2, O2 = putT (Lb[k].1, Lb[k].2) O := ⟨_, rfl⟩
          rw [← hO2] at hpu hst
          generalize Lb[k].1 = n at c0 hpu
          generalize Lb[k].2 = d at c1 hpu
          have HP := Lib.hid hpu
          have HS := Lib.hid hst
          clear hpu hst hO2 ho
          go_wp2_with (go_at_call 32; refine HP.out.mono ?_; rintro e w2 ⟨⟨y, c2, rfl, hi2, hn2⟩, x2⟩; have HI2 := Lib.hid hi2; clear hi2)
          go_roundw
          case rel => exact ⟨k + 1, O2, y, c2, by omega, by go_num, rfl, Lib.hid ⟨HI2.out, hn2, HS.out⟩, hx.trans x2⟩
          case measure => simp [RowKit.intOf]; omega
        · have hs : R = O := by rw [HR.out, ho.out.2.2, List.take_of_length_le (by rw [← HM.out]; omega)]
          have HS := Lib.hid hs
          have HO := Lib.hid (And.intro ho.out.1 ho.out.2.1)
          clear ho hs
          go_wp2
          go_returns
          rw [HS.out]
          exact ⟨⟨x, c, rfl, HO.out.1, HO.out.2⟩, hx⟩
end Go.Proofs.YtfhephcbjbdejaaGreatDoor.At

/- slices.Concat of two lists of attributes. -/
namespace Go.Proofs.YtfhephcbjbdejaaGreatDoor.At
open Go.RowKit Go.Sort Go.Lib Go.Shelf Fx Lx

theorem grow_nil (n : Nat) (hn : n ≤ 100000) (w : World) :
    Calls Tryz.prog 53 #[.slice none 0 0, .int .i64 n] w fun e w' => (∃ v, e = .returned v ∧ w'.ownsRow w.heap.size 39 2 v 0 []) ∧ Ext w w' := by
  rcases Nat.eq_zero_or_pos n with h0 | h0
  · subst h0
    have h := Any8.slices_Grow_room Tryz.growAtr none 0 0 0 w (by omega) (by omega) (by omega) (by omega)
    change Calls Tryz.prog 53 _ _ _ at h
    refine h.mono ?_
    rintro e w' ⟨rfl, rfl⟩
    exact ⟨⟨_, rfl, World.ownsRow_nil _ _ _ _⟩, Ext.refl _⟩
  · obtain ⟨i0, hi, hz0, hz1, hz2⟩ := info_parts info_atr
    have h := Any8.slices_Grow_grow Tryz.growAtr i0 _ hi hz0 (by omega) none 0 0 n [] w (by omega) (by omega) (by rw [hz2]; omega) (by omega) (by simp) (fun _ => rfl) (fun a e => by cases e)
    change Calls Tryz.prog 53 _ _ _ at h
    refine h.mono ?_
    rintro e w' ⟨rfl, rfl⟩
    have hge := grownCap_ge w (0 + n) 0 39
    have hle := grownCap_le_maxLen w (0 + n) 0 39 (by unfold maxLen; omega)
    refine ⟨⟨_, rfl, ?_⟩, ((Ext.refl _).drew).alloc _⟩
    refine World.ownsRow_made w.drew _ _ (Nat.le_refl _) hle ?_
    have hzs : (Value.agg #[.string ⟨#[]⟩, .string ⟨#[]⟩]).cells.size = 2 := rfl
    simp only [Array.size_append, size_zeroCells, hzs]
    show 0 + (0 + n - 0) * 2 + (grownCap w (0 + n) 0 39 - (0 + n)) * 2 = grownCap w (0 + n) 0 39 * 2
    omega
/-- A list is appended to a row of the call's own. -/
theorem app_all (w : World) (B : Nat) (v : Value) (n : Nat) (xs : List Value) (hown : w.ownsRow B 39 2 v n xs) (x : Option Addr) (L : List Atr) (c : Nat) (hx : AtrIn w x L) (hc : x = none → c = 0) (hn : n ≤ 100000) (hL : L.length ≤ 100000) (hB : B ≤ w.heap.size) :
    ∃ v' w', (Builtin.append_ #[22, 22] 22 #[v, .slice x L.length c]).run Tryz.prog w = .ok v' w' ∧ w'.ownsRow B 39 2 v' (n + L.length) (xs ++ atrsC L) ∧ w.grownBy w' v.ownBlock := by
  obtain ⟨i0, hi, hz0, hz1, hz2⟩ := info_parts info_atr
  cases x with
  | none =>
    have hl : L = [] := by
      cases L with
      | nil => rfl
      | cons p r => obtain ⟨g, o, e, _⟩ := hx 0 (by simp); cases e
    subst hl
    rw [hc rfl]
    refine ⟨v, w, run_append_owned_none (P := Tryz.prog) w B 22 22 39 i0 2 Tryz.underlying22 hi v n xs hown, ?_, ⟨rfl, rfl, rfl, Nat.le_refl _, fun _ _ _ => rfl⟩⟩
    simp only [List.length_nil, Nat.add_zero, atrsC, List.flatMap_nil, List.append_nil]
    exact hown
  | some a =>
    obtain ⟨g, o, sp⟩ := a
    rcases Nat.eq_zero_or_pos L.length with h0 | h0
    · have hl : L = [] := List.eq_nil_of_length_eq_zero h0
      subst hl
      obtain ⟨v', w', r1, r2, r3, _⟩ := run_append_own_at (P := Tryz.prog) w B 22 22 39 i0 _ 2 32 Tryz.underlying22 hi hz0 hz1 hz2 rfl (by decide) v n xs hown ⟨g, o, sp⟩ 0 c [] rfl (fun j u h => by simp at h) (fun u h => by cases h) (by unfold maxLen; omega) (by omega) hB
      exact ⟨v', w', r1, r2, r3⟩
    · obtain ⟨g', o', e, _, _⟩ := hx 0 h0
      injection e with e; injection e with e1 e2 e3
      subst e1; subst e2; subst e3
      obtain ⟨v', w', r1, r2, r3, _⟩ := run_append_own_at (P := Tryz.prog) w B 22 22 39 i0 _ 2 32 Tryz.underlying22 hi hz0 hz1 hz2 rfl (by decide) v n xs hown ⟨g, o, none⟩ L.length c (atrsC L) (atrsC_len L) hx.news (atrsC_one L) (by unfold maxLen; omega) (by omega) hB
      exact ⟨v', w', r1, r2, r3⟩
set_option maxHeartbeats 2000000 in
set_option maxRecDepth 100000 in
theorem concat_any (g : Nat) (a b : Option Addr) (La Lb : List Atr) (ca cb : Nat) (w : World) (hc0 : w.cell? ⟨g, 0, none⟩ = some (.slice a La.length ca)) (hc1 : w.cell? ⟨g, 1, none⟩ = some (.slice b Lb.length cb)) (ha : AtrIn w a La) (hb : AtrIn w b Lb)
    (na : a = none → ca = 0) (nb : b = none → cb = 0) (hA : La.length ≤ 1000) (hB : Lb.length ≤ 1000) :
    Calls Tryz.prog 28 #[.slice (some ⟨g, 0, none⟩) 2 2] w fun e w' => AtrRes (La ++ Lb) e w' ∧ Ext w w' := by
  have hap1 := fun w1 v (y : Ext w w1) (ho : w1.ownsRow w.heap.size 39 2 v 0 []) => app_all w1 w.heap.size v 0 [] ho a La ca (ha.ext y) na (by omega) (by omega) y.size
  have hap2 := fun w1 v (y : Ext w w1) (ho : w1.ownsRow w.heap.size 39 2 v (0 + La.length) ([] ++ atrsC La)) => app_all w1 w.heap.size v _ _ ho b Lb cb (hb.ext y) nb (by omega) (by omega) y.size
  obtain ⟨L, hL⟩ : ∃ L, L = La ++ Lb := ⟨_, rfl⟩
  have hLl : L.length = 0 + La.length + Lb.length := by rw [hL]; simp
  have hLc : atrsC L = [] ++ atrsC La ++ atrsC Lb := by rw [hL, atrsC_append]; rfl
  rw [← hL]
  have HLL := Lib.hid hLl
  have HLC := Lib.hid hLc
  generalize La.length = N at hc0 hA hap1 hap2 HLL
  generalize Lb.length = M at hc1 hB hap2 HLL
  have hgr : ∀ w, Calls Tryz.prog 53 #[.slice none 0 0, .int .i64 ((N : Int) + (M : Int))] w fun e w' => (∃ v, e = .returned v ∧ w'.ownsRow w.heap.size 39 2 v 0 []) ∧ Ext w w' := fun w => by
    have h := grow_nil (N + M) (by omega) w
    rwa [Int.natCast_add] at h
  have HG := Lib.hid hgr
  have HA1 := Lib.hid hap1
  have HA2 := Lib.hid hap2
  have hcl := fun w1 (y : Ext w w1) => And.intro (y.cell hc0) (y.cell hc1)
  have HCL := Lib.hid hcl
  clear hgr hap1 hap2 hL hLl hLc ha hb na nb hcl
  go_enter Tryz.func28, Tryz.ntmps28
  go_wp2_with fail
  refine wp_loop_rounds 3 ?_
  rw [rounds_succ]
  go_wp2_with fail
  rw [rounds_succ]
  go_wp2_with fail
  rw [rounds_succ]
  go_wp2_with fail
  refine (HG.out _).mono ?_
  rintro e w1 ⟨⟨v, rfl, ho⟩, x1⟩
  obtain ⟨d0, d1⟩ := HCL.out w1 x1
  obtain ⟨v1, w2, r1, ho1, hg1⟩ := HA1.out w1 v x1 ho
  have x2 : Ext w w2 := own_grow x1 ho (Nat.le_refl _) hg1
  obtain ⟨e0, e1⟩ := HCL.out w2 x2
  obtain ⟨v2, w3, r2, ho2, hg2⟩ := HA2.out w2 v1 x2 ho1
  have x3 : Ext w w3 := own_grow x2 ho1 (Nat.le_refl _) hg2
  have HO2 := Lib.hid ho2
  clear ho ho1 ho2 hg1 hg2
  go_wp2_with fail
  refine wp_loop_rounds 3 ?_
  rw [rounds_succ]
  go_wp2_with (at_builtin; refine Lib.wpList_append_run _ rfl _ _ _ _ rfl _ _ rfl rfl _ _ r1 ?_)
  rw [rounds_succ]
  go_wp2_with (at_builtin; refine Lib.wpList_append_run _ rfl _ _ _ _ rfl _ _ rfl rfl _ _ r2 ?_)
  rw [rounds_succ]
  go_wp2_with fail
  go_returns
  obtain ⟨p, q, rfl, hi, hn⟩ := own_atrs (L := L) (by rw [HLL.out, HLC.out]; exact HO2.out)
  exact ⟨⟨p, q, rfl, hi, hn⟩, x3⟩
end Go.Proofs.YtfhephcbjbdejaaGreatDoor.At
