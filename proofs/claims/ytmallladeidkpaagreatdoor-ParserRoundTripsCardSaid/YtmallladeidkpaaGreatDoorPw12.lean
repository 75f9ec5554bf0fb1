/- Packed texts: TreHas, TreBase, ParState -/
import Derived.Test.YtmallladeidkpaaGreatDoorPw02
import Derived.Test.YtmallladeidkpaaGreatDoorPw06
import Derived.OwnWalk
import Derived.Deep.RegionHeld3
import Derived.Deep.AppendLies
import Derived.Test.YtmallladeidkpaaGreatDoorPw03
import Derived.Test.YtmallladeidkpaaGreatDoorPw11
import Derived.WalkLawsBesides
set_option linter.unusedVariables false
set_option linter.unusedSimpArgs false
/- Lists of pairs of texts in memory; slices.ContainsFunc at attributes with the tree's closure. -/
namespace Go.Proofs.YtmallladeidkpaaGreatDoor.Tr
open Go.RowKit Go.Sort Go.Lib Go.Shelf Fx Lx

/-- A list of pairs of texts behind a slice, wherever it lies. -/
def TwoIn (w : World) (a : Option Addr) (L : List Two) : Prop :=
  ∀ k (h : k < L.length), ∃ g o, a = some ⟨g, o, none⟩ ∧ w.cell? ⟨g, o + k * 2, none⟩ = some (.string L[k].1) ∧ w.cell? ⟨g, o + k * 2 + 1, none⟩ = some (.string L[k].2)
theorem TwoIn.ext {w w' : World} {a : Option Addr} {L : List Two} (h : TwoIn w a L) (x : Ext w w') : TwoIn w' a L := fun k hk => by
  obtain ⟨g, o, ha, h0, h1⟩ := h k hk
  exact ⟨g, o, ha, x.cell h0, x.cell h1⟩
theorem TwoAt.in {n : Nat} {w : World} {a : Option Addr} {L : List Two} (h : TwoAt n w a L) : TwoIn w a L := fun k hk => by
  obtain ⟨g, o, ha, _, h0, h1⟩ := h k hk
  exact ⟨g, o, ha, h0, h1⟩
def hasA (l : List Two) (n : ByteArray) : Bool := l.any (fun q => decide (q.1 = n))
theorem beqs (n x : ByteArray) : (n.toList == x.toList) = decide (n = x) := by
  rw [ByteArray.toList_eq, ByteArray.toList_eq, Bool.eq_iff_iff, beq_iff_eq, decide_eq_true_eq]
  exact ⟨fun h => ByteArray.ext (Array.toList_inj.1 h), fun h => by rw [h]⟩
set_option maxHeartbeats 4000000 in
theorem closA_any (n x : ByteArray) (d : ByteArray) (c : Addr) (w : World) (hc : w.cell? c = some (.string x)) :
    Calls Tryz.prog 72 #[.agg #[.string n, .string d], .pointer (some c)] w fun e w' => e = .returned (.bool (decide (n = x))) ∧ Ext w w' := by
  have hc' : ∀ o, (w.alloc o).cell? c = some (.string x) := fun o => ((Ext.refl w).alloc o).cell hc
  go_enter Tryz.func72, Tryz.ntmps72
  go_wp2
  go_ret
  exact ⟨ret_bool (beqs n x), (Ext.refl _).alloc _⟩
set_option maxHeartbeats 4000000 in
theorem idxA_any (a : Option Addr) (L : List Two) (cap : Nat) (x : ByteArray) (c : Addr) (w : World) (h : TwoIn w a L) (hc : w.cell? c = some (.string x)) (hL : L.length ≤ 9223372036854775807) :
    Calls Tryz.prog 88 #[.slice a L.length cap, .func (.func 72) #[] #[.pointer (some c)]] w fun e w' => (∃ r : Int, e = .returned (.int .i64 r) ∧ decide (0 ≤ r) = hasA L x) ∧ Ext w w' := by
  obtain ⟨N, hN⟩ : ∃ N, N = L.length := ⟨_, rfl⟩
  have HI := Lib.hid h
  rw [← hN] at hL ⊢
  have HN := Lib.hid hN
  have HC := Lib.hid hc
  clear h hN hc
  go_enter Tryz.func88, Tryz.ntmps88
  go_wp2_with fail
  go_loopw [8] (fun i' wr => ∃ k : Nat, k ≤ N ∧ i' = .int .i64 k ∧ Hid (∀ j (hj : j < L.length), j < k → L[j].1 ≠ x) ∧ Ext w wr) (fun i' _ => N - (RowKit.intOf i').toNat)
  case atStart => exact ⟨0, by omega, rfl, Lib.hid (fun j _ h => absurd h (by omega)), Ext.refl _⟩
  case round =>
    obtain ⟨k, hk, rfl, hall, hx⟩ := hrel
    by_cases hlt : k < N
    · have hkl : k < L.length := by rw [← HN.out]; exact hlt
      obtain ⟨g, o, rfl, c0, c1⟩ := (HI.out.ext hx) k hkl
      obtain ⟨n, hn⟩ : ∃ n, n = L[k].1 := ⟨_, rfl⟩
      obtain ⟨d, hd⟩ : ∃ d, d = L[k].2 := ⟨_, rfl⟩
      rw [← hn] at c0; rw [← hd] at c1
      have HNM := Lib.hid hn
      clear hn hd
      by_cases heq : n = x
      · have hf : Hid (hasA L x = true) := Lib.hid (by
          unfold hasA; rw [List.any_eq_true]; exact ⟨L[k], List.getElem_mem hkl, by rw [← HNM.out]; exact decide_eq_true heq⟩)
        have HCL := Lib.hid (closA_any n x d c wr (hx.cell HC.out))
        rw [decide_eq_true heq] at HCL
        clear heq hall HNM
        go_wp2_with (go_at_call 72; refine HCL.out.mono ?_; rintro e w1 ⟨rfl, x1⟩)
        go_returns
        exact ⟨⟨k, rfl, by rw [hf.out]; simp⟩, hx.trans x1⟩
      · have hf : Hid (∀ j (hj : j < L.length), j < k + 1 → L[j].1 ≠ x) := Lib.hid (fun j hj h => by
          by_cases e : j = k
          · subst e; rw [← HNM.out]; exact heq
          · exact hall.out j hj (by omega))
        have HCL := Lib.hid (closA_any n x d c wr (hx.cell HC.out))
        rw [decide_eq_false heq] at HCL
        clear heq hall HNM
        go_wp2_with (go_at_call 72; refine HCL.out.mono ?_; rintro e w1 ⟨rfl, x1⟩)
        go_roundw
        case rel => exact ⟨k + 1, by omega, by go_num, hf, hx.trans x1⟩
        case measure => simp [RowKit.intOf]; omega
    · have hf : Hid (hasA L x = false) := Lib.hid (by
        unfold hasA; rw [List.any_eq_false]; intro q hq
        obtain ⟨j, hj, rfl⟩ := List.getElem_of_mem hq
        simpa using hall.out j hj (by rw [← HN.out] at hj; omega))
      clear hall
      go_wp2
      go_returns
      exact ⟨⟨-1, rfl, by rw [hf.out]; decide⟩, hx⟩
set_option maxHeartbeats 4000000 in
theorem hasA_any (a : Option Addr) (L : List Two) (cap : Nat) (x : ByteArray) (c : Addr) (w : World) (h : TwoIn w a L) (hc : w.cell? c = some (.string x)) (hL : L.length ≤ 9223372036854775807) :
    Calls Tryz.prog 71 #[.slice a L.length cap, .func (.func 72) #[] #[.pointer (some c)]] w fun e w' => e = .returned (.bool (hasA L x)) ∧ Ext w w' := by
  have H := Lib.hid (idxA_any a L cap x c w h hc hL)
  clear h hc hL
  go_enter Tryz.func71, Tryz.ntmps71
  go_wp2_with (go_at_call 88; refine H.out.mono ?_; rintro e w1 ⟨⟨r, rfl, hr⟩, x1⟩)
  go_ret
  exact ⟨rfl, x1⟩
end Go.Proofs.YtmallladeidkpaaGreatDoor.Tr

/- What the texts on trees share: rows that grow, trees in memory, forms. -/
namespace Go.Proofs.YtmallladeidkpaaGreatDoor.Tr
open Go.RowKit Go.Sort Go.Lib Go.Shelf Fx Lx
theorem info_str : (Tryz.prog.info? 9).map (fun i => (i.zero, i.size, i.bytes)) = some (some (.string ⟨#[]⟩), 1, 16) := by kernel_rfl
theorem atr2_cells (w : World) (k v : ByteArray) : ∀ w1, Ext (w.alloc (.cells #[.string k, .string v] 61)) w1 →
    w1.cell? ⟨w.heap.size, 0, none⟩ = some (.string k) ∧ w1.cell? ⟨w.heap.size, 1, none⟩ = some (.string v) := fun w1 x => by
  have hb := heap_alloc_new w (.cells #[.string k, .string v] 61)
  refine ⟨x.cell ?_, x.cell ?_⟩ <;> rw [Lib.cell_of_heap hb] <;> rfl
theorem own_ext' {w w' : World} {B : Nat} {e : TypeId} {sz : Nat} {v : Value} {n : Nat} {xs : List Value} (h : w.ownsRow B e sz v n xs) (x : Ext w w') : w'.ownsRow B e sz v n xs := by
  refine ⟨h.1, ?_⟩
  rcases h.2 with h1 | ⟨g, cap, cur, hv, hb, hg, r⟩
  · exact .inl h1
  · exact .inr ⟨g, cap, cur, hv, hb, (x.block g (Array.getElem?_eq_some_iff.1 hg).1).trans hg, r⟩
theorem flat_head (lev : Nat) (L : List Stm) (k : Nat) (h : k < L.length) : ∃ lv, (L[k], lv) ∈ flatL lev L := by
  induction L generalizing k with
  | nil => exact absurd h (by simp)
  | cons x r ih =>
    rw [flatL_cons]
    match k, h with
    | 0, _ => exact ⟨lev, List.mem_append_left _ (by rw [flatS_eq]; exact List.mem_cons_self)⟩
    | k + 1, h =>
      obtain ⟨lv, hm⟩ := ih k (by simpa using h)
      exact ⟨lv, List.mem_append_right _ hm⟩
/-- Every statement has the form of its kind. -/
def Formed : List Stm → Prop := fun L => ∀ lev, ∀ p ∈ flatL lev L, formB p.1 = true
theorem Formed.at {L : List Stm} (h : Formed L) (k : Nat) (hk : k < L.length) : formB L[k] = true := by
  obtain ⟨lv, hm⟩ := flat_head 0 L k hk
  exact h 0 _ hm
theorem flat_sub (lev : Nat) (L : List Stm) (k : Nat) (h : k < L.length) : ∀ p, p ∈ flatL (if L[k].kind = 5 then lev + 1 else lev) L[k].body → p ∈ flatL lev L := by
  induction L generalizing k with
  | nil => exact absurd h (by simp)
  | cons x r ih =>
    intro p hp
    rw [flatL_cons]
    match k, h with
    | 0, _ => exact List.mem_append_left _ (by rw [flatS_eq]; exact List.mem_cons_of_mem _ hp)
    | k + 1, h => exact List.mem_append_right _ (ih k (by simpa using h) p hp)
mutual
theorem flatS_fst (a b : Nat) : ∀ x : Stm, (flatS a x).map Prod.fst = (flatS b x).map Prod.fst
  | .mk k n r al bd => by rw [flatS, flatS, List.map_cons, List.map_cons, flatL_fst _ (if k = 5 then b + 1 else b) bd]
theorem flatL_fst (a b : Nat) : ∀ L : List Stm, (flatL a L).map Prod.fst = (flatL b L).map Prod.fst
  | [] => by rw [flatL, flatL]
  | x :: r => by rw [flatL, flatL, List.map_append, List.map_append, flatS_fst a b x, flatL_fst a b r]
end
theorem formed_of {L body : List Stm} {lv : Nat} (h : Formed L) (hs : ∀ p, p ∈ flatL (lv + 1) body → p ∈ flatL lv L) : Formed body := fun lev p hp => by
  have h1 : p.1 ∈ (flatL lev body).map Prod.fst := List.mem_map_of_mem hp
  rw [flatL_fst lev (lv + 1) body] at h1
  obtain ⟨p', hp', e⟩ := List.mem_map.1 h1
  rw [← e]; exact h lv p' (hs p' hp')
theorem first_zero : ∀ (l : List (Stm × Nat)), firstE l = 0 → ∀ p ∈ l, stmE p = 0
  | q :: r, h, p, hp => by
    rw [firstE] at h
    by_cases hq : stmE q = 0
    · rw [if_neg (fun h' => h' hq)] at h
      rcases List.mem_cons.1 hp with rfl | hp
      · exact hq
      · exact first_zero r h p hp
    · rw [if_pos hq] at h; exact absurd h hq
theorem formed_valid (nm : ByteArray) (L : List Stm) (h : validE nm L = 0) : Formed L := fun lev p hp => by
  unfold validE at h
  by_cases h1 : nameB nm.data.toList = false
  · rw [if_pos h1] at h; exact absurd h (by decide)
  rw [if_neg h1] at h
  by_cases h2 : 512 < (flatL 0 L).length
  · rw [if_pos h2] at h; exact absurd h (by decide)
  rw [if_neg h2] at h
  have h3 : p.1 ∈ (flatL lev L).map Prod.fst := List.mem_map_of_mem hp
  rw [flatL_fst lev 0 L] at h3
  obtain ⟨p', hp', e⟩ := List.mem_map.1 h3
  have h4 := first_zero _ h p' hp'
  unfold stmE at h4
  rw [← e]
  cases hf : formB p'.1
  · rw [if_pos hf] at h4; exact absurd h4 (by decide)
  · rfl
theorem tree_cells (w : World) (nm : ByteArray) (dir : Bool) (b : Option Addr) (N cap : Nat) : ∀ w1, Ext (w.alloc (.cells #[.string nm, .bool dir, .slice b N cap] 24)) w1 → w1.cell? ⟨w.heap.size, 0, none⟩ = some (.string nm) ∧ w1.cell? ⟨w.heap.size, 1, none⟩ = some (.bool dir) ∧ w1.cell? ⟨w.heap.size, 2, none⟩ = some (.slice b N cap) := fun w1 x => by
  have hb := heap_alloc_new w (.cells #[.string nm, .bool dir, .slice b N cap] 24)
  refine ⟨x.cell ?_, x.cell ?_, x.cell ?_⟩ <;> rw [Lib.cell_of_heap hb] <;> rfl
end Go.Proofs.YtmallladeidkpaaGreatDoor.Tr

/- The parser's state in memory; what peek, is, take return. -/
namespace Go.Proofs.YtmallladeidkpaaGreatDoor.Pa
open Go.RowKit Go.Sort Go.Lib Go.Shelf Fx Lx Tr

/-- The tokens behind a slice, off the block pb. -/
def TokIn (pb : Nat) (w : World) (a : Option Addr) (L : List Tok) : Prop :=
  ∀ k (h : k < L.length), ∃ g o, a = some ⟨g, o, none⟩ ∧ g < pb ∧ w.cell? ⟨g, o + k * 4, none⟩ = some (.int .i64 L[k].kind) ∧ w.cell? ⟨g, o + k * 4 + 1, none⟩ = some (.string ⟨L[k].text.toArray⟩) ∧
    w.cell? ⟨g, o + k * 4 + 2, none⟩ = some (.int .i64 L[k].n) ∧ w.cell? ⟨g, o + k * 4 + 3, none⟩ = some (.int .i64 L[k].line)
theorem TokIn.but {pb : Nat} {w w' : World} {a : Option Addr} {L : List Tok} (h : TokIn pb w a L) (x : But pb w w') : TokIn pb w' a L := fun k hk => by
  obtain ⟨g, o, ha, hg, h0, h1, h2, h3⟩ := h k hk
  have hn := Nat.ne_of_lt hg
  exact ⟨g, o, ha, hg, x.cell (p := ⟨g, _, none⟩) hn h0, x.cell (p := ⟨g, _, none⟩) hn h1, x.cell (p := ⟨g, _, none⟩) hn h2, x.cell (p := ⟨g, _, none⟩) hn h3⟩
theorem TokIn.below {pb n : Nat} {w w' : World} {a : Option Addr} {L : List Tok} (h : TokIn pb w a L) (x : Below n w w') (hn : pb ≤ n) : TokIn pb w' a L := fun k hk => by
  obtain ⟨g, o, ha, hg, h0, h1, h2, h3⟩ := h k hk
  have hn : g < n := by omega
  exact ⟨g, o, ha, hg, (x.cell (p := ⟨g, _, none⟩) hn).trans h0, (x.cell (p := ⟨g, _, none⟩) hn).trans h1, (x.cell (p := ⟨g, _, none⟩) hn).trans h2, (x.cell (p := ⟨g, _, none⟩) hn).trans h3⟩
/-- The parser's four cells. -/
def PCells (pb : Nat) (w : World) (a : Option Addr) (N cap k : Nat) (ar : ByteArray) (dep : Int) : Prop :=
  w.heap[pb]? = some (.cells #[.slice a N cap, .int .i64 k, .string ar, .int .i64 dep] 71 (0, 0))
theorem PCells.cells {pb : Nat} {w : World} {a : Option Addr} {N cap k : Nat} {ar : ByteArray} {dep : Int} (h : PCells pb w a N cap k ar dep) :
    w.cell? ⟨pb, 0, none⟩ = some (.slice a N cap) ∧ w.cell? ⟨pb, 1, none⟩ = some (.int .i64 k) ∧ w.cell? ⟨pb, 2, none⟩ = some (.string ar) ∧ w.cell? ⟨pb, 3, none⟩ = some (.int .i64 dep) ∧ ∀ i, w.frozen? ⟨pb, i, none⟩ = false := by
  refine ⟨?_, ?_, ?_, ?_, fun i => Lib.frozen_of_heap h i⟩ <;> rw [Lib.cell_of_heap h] <;> rfl
theorem PCells.lt {pb : Nat} {w : World} {a : Option Addr} {N cap k : Nat} {ar : ByteArray} {dep : Int} (h : PCells pb w a N cap k ar dep) : pb < w.heap.size := (Array.getElem?_eq_some_iff.1 h).1
theorem PCells.ext {pb : Nat} {w w' : World} {a : Option Addr} {N cap k : Nat} {ar : ByteArray} {dep : Int} (h : PCells pb w a N cap k ar dep) (x : Ext w w') : PCells pb w' a N cap k ar dep := (x.block pb h.lt).trans h
theorem PCells.at {pb : Nat} {w : World} {a : Option Addr} {N cap k : Nat} {ar : ByteArray} {dep : Int} (h : PCells pb w a N cap k ar dep) (k' : Nat) : PCells pb (w.setCell ⟨pb, 1, none⟩ (.int .i64 k')) a N cap k' ar dep := setOne h 1 _
theorem PCells.arrow {pb : Nat} {w : World} {a : Option Addr} {N cap k : Nat} {ar : ByteArray} {dep : Int} (h : PCells pb w a N cap k ar dep) (ar' : ByteArray) : PCells pb (w.setCell ⟨pb, 2, none⟩ (.string ar')) a N cap k ar' dep := setOne h 2 _
theorem PCells.depth {pb : Nat} {w : World} {a : Option Addr} {N cap k : Nat} {ar : ByteArray} {dep : Int} (h : PCells pb w a N cap k ar dep) (dep' : Int) : PCells pb (w.setCell ⟨pb, 3, none⟩ (.int .i64 dep')) a N cap k ar dep' := setOne h 3 _
/-- The zero token, or the next one. -/
def tok0 : Tok := ⟨0, [], 0, 0⟩
def peekT (r : List Tok) : Tok := r.headD tok0
def tokV (t : Tok) : Value := .agg #[.int .i64 t.kind, .string ⟨t.text.toArray⟩, .int .i64 t.n, .int .i64 t.line]
theorem tok_cells (w : World) (k : Int) (x : ByteArray) (n l : Int) : ∀ w1, Ext (w.alloc (.cells #[.int .i64 k, .string x, .int .i64 n, .int .i64 l] 86)) w1 →
    w1.cell? ⟨w.heap.size, 0, none⟩ = some (.int .i64 k) ∧ w1.cell? ⟨w.heap.size, 1, none⟩ = some (.string x) ∧ w1.cell? ⟨w.heap.size, 2, none⟩ = some (.int .i64 n) ∧ w1.cell? ⟨w.heap.size, 3, none⟩ = some (.int .i64 l) := fun w1 xx => by
  have hb := heap_alloc_new w (.cells #[.int .i64 k, .string x, .int .i64 n, .int .i64 l] 86)
  refine ⟨xx.cell ?_, xx.cell ?_, xx.cell ?_, xx.cell ?_⟩ <;> rw [Lib.cell_of_heap hb] <;> rfl
theorem peek_drop (T : List Tok) (k : Nat) (h : k < T.length) : peekT (T.drop k) = T[k] := by
  unfold peekT; rw [List.drop_eq_getElem_cons h]; rfl
theorem peek_end (T : List Tok) (k : Nat) (h : ¬ k < T.length) : peekT (T.drop k) = tok0 := by
  unfold peekT; rw [List.drop_eq_nil_of_le (by omega)]; rfl
set_option maxHeartbeats 4000000 in
theorem peek_any (pb : Nat) (a : Option Addr) (cap k : Nat) (T : List Tok) (ar : ByteArray) (dep : Int) (w : World) (h : PCells pb w a T.length cap k ar dep) (ht : TokIn pb w a T) (hn : T.length ≤ 16384) (hk : k ≤ T.length) :
    Calls Tryz.prog 50 #[.pointer (some ⟨pb, 0, none⟩)] w fun e w' => e = .returned (tokV (peekT (T.drop k))) ∧ Ext w w' := by
  obtain ⟨p0, p1, _, _, _⟩ := (h.ext ((Ext.refl w).alloc (.cells #[.int .i64 0, .string ⟨#[]⟩, .int .i64 0, .int .i64 0] 86))).cells
  obtain ⟨N, hN⟩ : ∃ N, N = T.length := ⟨_, rfl⟩
  by_cases hlt : k < T.length
  · obtain ⟨g, o, rfl, hg, c0, c1, c2, c3⟩ := ht k hlt
    rw [peek_drop T k hlt]
    have hx := (Ext.refl w).alloc (.cells #[.int .i64 0, .string ⟨#[]⟩, .int .i64 0, .int .i64 0] 86)
    have d0 := hx.cell c0; have d1 := hx.cell c1; have d2 := hx.cell c2; have d3 := hx.cell c3
    have hlt' : (k : Int) < (N : Int) := by omega
    generalize T[k] = t at *
    obtain ⟨tk, tx, tn, tl⟩ := t
    dsimp only at c0 c1 c2 c3 d0 d1 d2 d3
    rw [← hN] at p0 hlt hn
    clear ht h hN hk
    go_enter Tryz.func50, Tryz.ntmps50
    go_wp2
    go_region
    all_goals
      go_wp2
      go_region
      all_goals
        go_wp2
        go_returns
        exact ⟨rfl, ((Ext.refl w).alloc _).drew.drew⟩
  · rw [peek_end T k hlt]
    have hlt' : ¬ (k : Int) < (N : Int) := by omega
    rw [← hN] at p0 hn
    clear ht h hN hk hlt
    go_enter Tryz.func50, Tryz.ntmps50
    go_wp2
    go_region
    all_goals
      go_wp2
      go_returns
      exact ⟨rfl, ((Ext.refl w).alloc _).drew⟩

/-- The world began as one with the tables, and the parser's cells are newer. -/
def PEnv (pb : Nat) (w : World) : Prop := ∃ w0, Ext w0 w ∧ w0.heap.size ≤ pb ∧ Env w0
theorem PEnv.but {pb : Nat} {w w' : World} (h : PEnv pb w) (x : But pb w w') : PEnv pb w' := by
  obtain ⟨w0, h0, h1, h2⟩ := h
  exact ⟨w0, x.fresh h0 h1, h1, h2⟩
theorem PEnv.env {pb : Nat} {w : World} (h : PEnv pb w) : Env w := by
  obtain ⟨w0, h0, _, h2⟩ := h
  exact h2.ext h0
/-- The numbers are numbers of 64 bits. -/
def TokN (T : List Tok) : Prop := ∀ t ∈ T, -9223372036854775808 ≤ t.n ∧ t.n ≤ 9223372036854775807
/-- The parser at what is left, r, of the tokens T. -/
def PSt (pb : Nat) (a : Option Addr) (cap : Nat) (T : List Tok) (ar : ByteArray) (dep : Int) (r : List Tok) (w : World) : Prop :=
  ∃ k, k ≤ T.length ∧ T.length ≤ 16384 ∧ T.drop k = r ∧ PCells pb w a T.length cap k ar dep ∧ TokIn pb w a T ∧ PEnv pb w ∧ TokN T
theorem PSt.ext {pb : Nat} {a : Option Addr} {cap : Nat} {T : List Tok} {ar : ByteArray} {dep : Int} {r : List Tok} {w w' : World} (h : PSt pb a cap T ar dep r w) (x : Ext w w') : PSt pb a cap T ar dep r w' := by
  obtain ⟨k, hk, hn, hd, hc, ht, he, hm⟩ := h
  exact ⟨k, hk, hn, hd, hc.ext x, ht.but (But.of x), he.but (But.of x), hm⟩
theorem PSt.below {pb n : Nat} {a : Option Addr} {cap : Nat} {T : List Tok} {ar : ByteArray} {dep : Int} {r : List Tok} {w w' : World} (h : PSt pb a cap T ar dep r w) (x : Below n w w') (hn : pb < n) : PSt pb a cap T ar dep r w' := by
  obtain ⟨k, hk, hn', hd, hc, ht, ⟨w0, h0, h1, h2⟩, hm⟩ := h
  exact ⟨k, hk, hn', hd, (x.block pb hn).trans hc, ht.below x (by omega), ⟨w0, Below.trans h0 (x.mono (by omega)), h1, h2⟩, hm⟩
def lastL (T : List Tok) : Int := match T.getLast? with
  | some t => t.line
  | none => 1
def failE (ln e : Int) : Ending := .panicked [{ v := .iface 68 (.agg #[.int .i64 ln, .int .i64 e]), recovered := false }]
theorem peek_st (pb : Nat) (a : Option Addr) (cap : Nat) (T : List Tok) (ar : ByteArray) (dep : Int) (r : List Tok) (w : World) (h : PSt pb a cap T ar dep r w) :
    Calls Tryz.prog 50 #[.pointer (some ⟨pb, 0, none⟩)] w fun e w' => e = .returned (tokV (peekT r)) ∧ Ext w w' := by
  obtain ⟨k, hk, hn, hd, hc, ht, _, _⟩ := h
  rw [← hd]
  exact peek_any pb a cap k T ar dep w hc ht hn hk
theorem isT_peek (kd : Int) (x : List UInt8) (r : List Tok) (h : kd ≠ 0) : isT kd x r = (decide ((peekT r).kind = kd) && decide ((peekT r).text = x)) := by
  cases r with
  | nil =>
    show false = (decide ((0 : Int) = kd) && decide (([] : List UInt8) = x))
    rw [decide_eq_false (show ¬ (0 : Int) = kd by omega)]; rfl
  | cons t r => rfl
theorem beq_text (l : List UInt8) (x : ByteArray) : (l == x.toList) = decide (l = x.data.toList) := by
  rw [ByteArray.toList_eq, Bool.eq_iff_iff, beq_iff_eq, decide_eq_true_eq]
set_option maxHeartbeats 4000000 in
theorem is_any (pb : Nat) (a : Option Addr) (cap : Nat) (T : List Tok) (ar : ByteArray) (dep : Int) (r : List Tok) (kd : Int) (hkd : kd ≠ 0) (x : ByteArray) (w : World) (h : PSt pb a cap T ar dep r w) :
    Calls Tryz.prog 49 #[.pointer (some ⟨pb, 0, none⟩), .int .i64 kd, .string x] w fun e w' => e = .returned (.bool (isT kd x.data.toList r)) ∧ Ext w w' := by
  obtain ⟨k, hk, hn, hd, hc, ht, _, _⟩ := h
  have H := Lib.hid (peek_any pb a cap k T ar dep w hc ht hn hk)
  rw [hd] at H
  rw [isT_peek kd _ r hkd]
  clear hk hn hd hc ht
  generalize peekT r = t at *
  obtain ⟨tk, tx, tn, tl⟩ := t
  unfold tokV at H
  dsimp only at H ⊢
  by_cases e1 : tk = kd
  · subst e1
    rw [decide_eq_true rfl]
    go_enter Tryz.func49, Tryz.ntmps49
    go_wp2_with (go_at_call 50; refine H.out.mono ?_; rintro e w1 ⟨rfl, x1⟩; have hcl := tok_cells w1 tk ⟨tx.toArray⟩ tn tl)
    go_returns
    exact ⟨ret_bool (by rw [Bool.true_and]; exact beq_text _ _), x1.alloc _⟩
  · rw [decide_eq_false e1]
    go_enter Tryz.func49, Tryz.ntmps49
    go_wp2_with (go_at_call 50; refine H.out.mono ?_; rintro e w1 ⟨rfl, x1⟩; have hcl := tok_cells w1 tk ⟨tx.toArray⟩ tn tl)
    go_returns
    exact ⟨rfl, x1.alloc _⟩
set_option maxHeartbeats 4000000 in
theorem take_any (pb : Nat) (a : Option Addr) (cap : Nat) (T : List Tok) (ar : ByteArray) (dep : Int) (r : List Tok) (kd : Int) (hkd : kd ≠ 0) (x : ByteArray) (w : World) (h : PSt pb a cap T ar dep r w) :
    Calls Tryz.prog 34 #[.pointer (some ⟨pb, 0, none⟩), .int .i64 kd, .string x] w fun e w' =>
      e = .returned (.bool (isT kd x.data.toList r)) ∧ PSt pb a cap T ar dep (if isT kd x.data.toList r = true then r.tail else r) w' ∧ But pb w w' := by
  have H := Lib.hid (is_any pb a cap T ar dep r kd hkd x w h)
  have HS := Lib.hid h
  clear h
  cases hi : isT kd x.data.toList r
  · rw [hi] at H
    go_enter Tryz.func34, Tryz.ntmps34
    go_wp2_with (go_at_call 49; refine H.out.mono ?_; rintro e w1 ⟨rfl, x1⟩)
    go_returns
    exact ⟨rfl, HS.out.ext x1, But.of x1⟩
  · rw [hi] at H
    have hr : r ≠ [] := by rintro rfl; cases hi
    go_enter Tryz.func34, Tryz.ntmps34
    go_wp2_with (go_at_call 49; refine H.out.mono ?_; rintro e w1 ⟨rfl, x1⟩; obtain ⟨k, hk, hn, hd, hc, ht, he, hm⟩ := HS.out.ext x1; obtain ⟨p0, p1, p2, p3, p4⟩ := hc.cells; have HC := Lib.hid hc; have HT := Lib.hid ht; have HD := Lib.hid hd; clear hc ht hd)
    go_returns
    have hc' : PCells pb (w1.setCell ⟨pb, 1, none⟩ (.int .i64 ((k : Int) + 1))) a T.length cap (k + 1) ar dep := HC.out.at (k + 1)
    have hb : But pb w1 (w1.setCell ⟨pb, 1, none⟩ (.int .i64 ((k : Int) + 1))) := (But.refl pb w1).setCell ⟨pb, 1, none⟩ rfl _
    refine ⟨rfl, ⟨k + 1, ?_, hn, ?_, hc', HT.out.but hb, he.but hb, hm⟩, (But.of x1).trans hb⟩
    · have := HD.out
      have hne : T.drop k ≠ [] := by rw [this]; exact hr
      have : k < T.length := Nat.lt_of_not_le fun hle => hne (List.drop_eq_nil_of_le hle)
      omega
    · rw [← HD.out, List.tail_drop]
set_option maxHeartbeats 4000000 in
theorem fail_any (pb : Nat) (a : Option Addr) (cap : Nat) (T : List Tok) (ar : ByteArray) (dep : Int) (r : List Tok) (er : Int) (w : World) (h : PSt pb a cap T ar dep r w) :
    Calls Tryz.prog 33 #[.pointer (some ⟨pb, 0, none⟩), .int .i64 er] w fun e w' => e = failE (lineOf (lastL T) r) er ∧ Ext w w' := by
  obtain ⟨k, hk, hn, hd, hc, ht, _, _⟩ := h
  obtain ⟨p0, p1, _, _, _⟩ := hc.cells
  by_cases h0 : T.length = 0
  · have hT : T = [] := List.eq_nil_of_length_eq_zero h0
    subst hT
    have hr : r = [] := by rw [← hd]; simp
    subst hr
    clear hd hc ht hk
    go_enter Tryz.func33, Tryz.ntmps33
    go_wp2
    exact ⟨rfl, rfl, Ext.refl _⟩
  · by_cases hlt : k < T.length
    · obtain ⟨g, o, rfl, hg, c0, c1, c2, c3⟩ := ht k hlt
      have hl : lineOf (lastL T) r = T[k].line := by rw [← hd, List.drop_eq_getElem_cons hlt]; rfl
      rw [hl]
      generalize T[k] = t at *
      obtain ⟨tk, tx, tn, tl⟩ := t
      dsimp only at c3 ⊢
      obtain ⟨N, hN⟩ : ∃ N, N = T.length := ⟨_, rfl⟩
      rw [← hN] at p0 h0 hlt hn
      have hm : min (k : Int) ((N : Int) - 1) = (k : Int) := by omega
      clear hc ht hk hl hd hN c0 c1 c2
      go_enter Tryz.func33, Tryz.ntmps33
      go_wp2
      go_region
      all_goals
        go_wp2
        exact ⟨rfl, rfl, (Ext.refl w).drew⟩
    · have hlt2 : T.length - 1 < T.length := by omega
      obtain ⟨g, o, rfl, hg, c0, c1, c2, c3⟩ := ht (T.length - 1) hlt2
      have hl : lineOf (lastL T) r = T[T.length - 1].line := by
        rw [← hd, List.drop_eq_nil_of_le (by omega)]
        show lastL T = _
        unfold lastL
        rw [List.getLast?_eq_getElem?, List.getElem?_eq_getElem hlt2]
      rw [hl]
      generalize T[T.length - 1] = t at *
      obtain ⟨tk, tx, tn, tl⟩ := t
      dsimp only at c3 ⊢
      obtain ⟨N, hN⟩ : ∃ N, N = T.length := ⟨_, rfl⟩
      rw [← hN] at p0 h0 hlt hlt2 hn hk c3
      have hkN : k = N := by omega
      subst hkN
      obtain ⟨m, rfl⟩ : ∃ m, k = m + 1 := ⟨k - 1, by omega⟩
      rw [Nat.add_sub_cancel] at c3
      have hm : min ((m : Int) + 1) (m : Int) = (m : Int) := by omega
      clear hc ht hk hl hd hN c0 c1 c2
      go_enter Tryz.func33, Tryz.ntmps33
      go_wp2
      go_region
      all_goals
        go_wp2
        exact ⟨rfl, rfl, (Ext.refl w).drew⟩
end Go.Proofs.YtmallladeidkpaaGreatDoor.Pa
