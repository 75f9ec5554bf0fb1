/- Packed texts: TopHeap2, TopCnt, TopStr, TopWlk -/
import Derived.Test.YtjjcjoedgmfalaaPt04
import Derived.Test.YtjjcjoedgmfalaaPt01
set_option linter.unusedVariables false
set_option linter.unusedSimpArgs false
/- container/heap.Push and Pop: the queue stays a heap; Pop hands back the least. -/
namespace Go.Proofs.Ytjjcjoedgmfalaa.Tp
open Go.RowKit Go.Sort Go.Lib Fx

theorem Keep.uni {S T : Nat → Prop} {a b c : World} (h : Keep S a b) (k : Keep T b c) : Keep (fun x => S x ∨ T x) a c :=
  (h.mono (fun _ _ x => .inl x)).trans' k (fun _ _ x => .inr x)
theorem sl_form {w : World} {B n k : Nat} {e : TypeId} {sv : Value} {xs : List Value} (h : w.ownsRow B e 1 sv n xs) (hk : n = k + 1) : ∃ p c, sv = .slice p (k + 1) c := by
  subst hk
  rcases h.2 with ⟨e1, e2⟩ | ⟨g, cap, cur, e1, _⟩
  · omega
  · exact ⟨_, _, e1⟩
set_option maxHeartbeats 4000000 in
set_option maxRecDepth 100000 in
theorem hpush_any (bq B : Nat) (x : Int) (sv : Value) (L : List Int) (w : World) (h : QAt w bq B sv L) (hb : bq < B) (hB : B ≤ w.heap.size) (hL : L.length ≤ 900) (hh : HeapN L.length L) :
    Calls Try.prog 28 #[.iface 47 (.pointer (some ⟨bq, 0, none⟩)), .iface 3 (.int .i64 x)] w fun e w' => e = .returned (.tuple #[]) ∧ ∃ sv' M, QAt w' bq B sv' M ∧ M.Perm (x :: L) ∧ HeapN M.length M ∧ Keep (fun b => b = bq ∨ sv.ownBlock = some b) w w' ∧ (sv'.ownBlock = sv.ownBlock ∨ ∃ g, sv'.ownBlock = some g ∧ w.heap.size ≤ g) := by
  have hp := qpush_any bq B x sv L w h hb hB (by omega)
  have m1 := meth_push 213 bq w
  have HP := Lib.hid hp; have HH := Lib.hid (hh.push x)
  obtain ⟨n, hn⟩ : ∃ n, n = L.length := ⟨_, rfl⟩
  have HN := Lib.hid (hn)
  have hnb : n ≤ 900 := by omega
  clear h hp hh hn
  go_enter Try.func28, Try.ntmps28
  go_wp2_with (first
    | (go_at_call 87; refine HP.out.mono ?_; rintro e w1 ⟨rfl, sv1, q1, k1, o1⟩; have c1 := q1.cell; have m2 := meth_len 213 bq sv1 w1 c1; obtain ⟨p, c, rfl⟩ := sl_form q1.own (show (L ++ [x]).length = n + 1 by rw [HN.out]; simp); have Q1 := Lib.hid q1; have K1 := Lib.hid k1; have O1 := Lib.hid o1; clear q1 k1 o1)
    | (go_at_call 29; refine (len_own p (n + 1) c w1).mono ?_; rintro e w2 ⟨rfl, x2⟩)
    | (go_at_call 37; (refine (up_any bq B n _ (L ++ [x]) w2 (Q1.out.ext x2) hb (by rw [HN.out]; simp) (by rw [List.length_append, List.length_singleton, ← HN.out]; omega) (by rw [HN.out]; exact HH.out)).mono ?_; rintro e w3 ⟨rfl, ⟨M, q3, p3, h3⟩, k3⟩)))
  go_end0
  refine ⟨rfl, _, M, q3, p3.trans (List.perm_append_singleton x L), h3, ?_, O1.out⟩
  refine (K1.out.ext x2).trans' k3 (fun i hi he => ?_)
  rcases O1.out with e | ⟨g, e, hg⟩
  · right; rw [← e]; exact he
  · rw [e] at he; cases he; omega
set_option maxHeartbeats 4000000 in
set_option maxRecDepth 100000 in
theorem hpop_any (bq B : Nat) (sv : Value) (L : List Int) (w : World) (h : QAt w bq B sv L) (hb : bq < B) (h0 : 0 < L.length) (hL : L.length ≤ 900) (hh : HeapN L.length L) :
    Calls Try.prog 30 #[.iface 47 (.pointer (some ⟨bq, 0, none⟩))] w fun e w' => ∃ (x : Int) (sv' : Value) (M : List Int), e = .returned (.iface 3 (.int .i64 x)) ∧ QAt w' bq B sv' M ∧ (x :: M).Perm L ∧ (∀ y ∈ L, x ≤ y) ∧ HeapN M.length M ∧ Keep (fun b => b = bq ∨ sv.ownBlock = some b) w w' ∧ sv'.ownBlock = sv.ownBlock := by
  obtain ⟨n, hn⟩ : ∃ n, L.length = n + 1 := ⟨L.length - 1, by omega⟩
  have hc := h.cell
  have m1 := meth_len 213 bq sv w hc
  have f1 : ∃ p c, sv = .slice p (n + 1) c := by
    rcases h.own.2 with ⟨e1, e2⟩ | ⟨g, cap, cur, e1, _⟩
    · omega
    · exact ⟨_, _, by rw [e1, hn]⟩
  obtain ⟨p, c, rfl⟩ := f1
  have hnb : n ≤ 900 := by omega
  rw [hn] at hh
  have HDK := Lib.hid (hh.pop (by omega))
  have HRT := Lib.hid hh.root
  have HQ := Lib.hid h; have HN := Lib.hid hn
  clear h hh hn h0
  go_enter Try.func30, Try.ntmps30
  go_wp2_with (first
    | (go_at_call 29; refine (len_own p (n + 1) c w).mono ?_; rintro e w1 ⟨rfl, x1⟩; have m2 := meth_swap 213 bq _ w1 (x1.cell hc); clear m1)
    | (go_at_call 89; refine (swap_own (HQ.out.ext x1).own 0 n (by rw [HN.out]; omega) (by rw [HN.out]; omega) (by omega)).mono ?_; rintro e w2 ⟨rfl, o2, k2⟩; have Q2 := Lib.hid ((HQ.out.ext x1).keep hb k2 o2 (swp_len L 0 n)); have K2 := Lib.hid k2; clear o2 k2 m2)
    | (go_at_call 38; refine (down_any bq B n _ (swp L 0 n) w2 Q2.out hb (by rw [swp_len, HN.out]; omega) (by rw [swp_len]; omega) HDK.out).mono ?_; rintro e w3 ⟨⟨bb, rfl⟩, ⟨M, q3, p3, h3, l3⟩, k3⟩; have m3 := meth_pop 213 bq w3; have Q3 := Lib.hid q3; have P3 := Lib.hid p3; have H3 := Lib.hid h3; have L3 := Lib.hid l3; have K3 := Lib.hid k3; clear q3 p3 h3 l3 k3)
    | (go_at_call 86; have hml : M.length = n + 1 := (by rw [P3.out.length_eq, swp_len, HN.out]); refine (qpop_any bq B _ M w3 Q3.out hb (by omega) (by omega)).mono ?_; rintro e w4 ⟨rfl, sv4, q4, k4, o4⟩; have HML := Lib.hid hml; clear hml))
  go_ret
  have hml := HML.out
  have hn1 : M.length - 1 = n := by omega
  rw [hn1] at q4 ⊢
  have hx : M.getD n 0 = L.getD 0 0 := by rw [L3.out, swp_at (by rw [HN.out]; omega) (by rw [HN.out]; omega), if_pos rfl]
  have hpm : (M.getD n 0 :: M.take n).Perm M := by
    have e : M = M.take n ++ [M.getD n 0] := by
      conv => lhs; rw [← List.take_append_drop n M]
      congr 1
      rw [getDi (by omega), List.drop_eq_getElem_cons (by omega), List.drop_eq_nil_of_le (by omega)]
    have := (List.perm_append_singleton (M.getD n 0) (M.take n)).symm
    rw [← e] at this
    exact this
  refine ⟨M.getD n 0, sv4, M.take n, rfl, q4, (hpm.trans P3.out).trans (swp_perm (by rw [HN.out]; omega) (by rw [HN.out]; omega)), fun y hy => ?_, H3.out.take (by omega), ?_, o4⟩
  · rw [hx]
    obtain ⟨j, hj, rfl⟩ := List.getElem_of_mem hy
    have := HRT.out j (by rw [HN.out] at hj; omega)
    rw [getDi hj] at this; exact this
  · have a1 := (Keep.of x1 : Keep (fun b => (Value.slice p (n + 1) c).ownBlock = some b) w w1).trans' K2.out (fun _ _ e => e)
    have a2 := a1.trans' K3.out (fun _ _ e => e)
    exact (a2.mono (fun _ _ e => .inr e)).trans' k4 (fun _ _ e => .inl e)
end Go.Proofs.Ytjjcjoedgmfalaa.Tp

/- The numbers of open arcs as a list; a heap's content as vertices. -/
namespace Go.Proofs.Ytjjcjoedgmfalaa.Tp
open Go.RowKit Go.Sort Go.Lib Fx

def cnt (N : Nat) (f : Nat → Nat) : List Nat := (List.range N).map f
theorem cnt_len (N : Nat) (f : Nat → Nat) : (cnt N f).length = N := by simp [cnt]
theorem cnt_at (N : Nat) (f : Nat → Nat) (v : Nat) (h : v < N) : (cnt N f).getD v 0 = f v := by
  rw [List.getD_eq_getElem?_getD]; simp [cnt, h]
theorem cnt_ext {N : Nat} {l : List Nat} {f : Nat → Nat} (hl : l.length = N) (h : ∀ v, v < N → l.getD v 0 = f v) : l = cnt N f := by
  refine List.ext_getElem (by rw [hl, cnt_len]) fun i h1 h2 => ?_
  have := h i (by omega)
  rw [List.getD_eq_getElem?_getD, List.getElem?_eq_getElem h1] at this
  simp [cnt]; exact this
theorem cnt_step (N : Nat) (A : Arcs) (k : Nat) (h : k < A.length) (hy : A[k].2 < N) : (cnt N (inN (A.take k))).set A[k].2 ((cnt N (inN (A.take k))).getD A[k].2 0 + 1) = cnt N (inN (A.take (k + 1))) := by
  refine cnt_ext (by rw [List.length_set, cnt_len]) fun v hv => ?_
  rw [getD_set, cnt_len, List.take_succ_eq_append_getElem h, inN_snoc, cnt_at _ _ _ hy]
  by_cases e : A[k].2 = v
  · rw [if_pos ⟨e, hy⟩, if_pos e, e]
  · rw [if_neg (fun x => e x.1), if_neg e, cnt_at _ _ _ hv]; omega
theorem zl_set (l : List Nat) (i x : Nat) : (zl l).set i (x : Int) = zl (l.set i x) := by simp [zl, List.map_set]
theorem zl_getD (l : List Nat) (i : Nat) : (zl l).getD i 0 = ((l.getD i 0 : Nat) : Int) := by
  rw [List.getD_eq_getElem?_getD, List.getD_eq_getElem?_getD]
  unfold zl; rw [List.getElem?_map]
  cases l[i]? <;> rfl
theorem perm_zl {M : List Int} {R : List Nat} (h : M.Perm (zl R)) : ∃ q, M = zl q ∧ q.Perm R := by
  have hnn : ∀ x ∈ M, 0 ≤ x := fun x hx => by
    obtain ⟨y, _, rfl⟩ := List.mem_map.1 (h.mem_iff.1 hx); omega
  refine ⟨M.map Int.toNat, ?_, ?_⟩
  · unfold zl; rw [List.map_map]
    conv => lhs; rw [← List.map_id M]
    refine List.map_congr_left fun x hx => ?_
    have := hnn x hx
    simp only [Function.comp, id]; omega
  · have := h.map Int.toNat
    have e : (zl R).map Int.toNat = R := by
      unfold zl; rw [List.map_map]
      conv => rhs; rw [← List.map_id R]
      exact List.map_congr_left fun x _ => by simp
    rwa [e] at this
theorem zl_inj {a b : List Nat} (h : zl a = zl b) : a = b := by
  unfold zl at h
  exact (List.map_inj_right (fun x y e => by omega)).1 h
/-- What a pop hands back is the next vertex of the order. -/
theorem pop_least {N : Nat} {A : Arcs} {d : List Nat} {x : Int} {M L : List Int} (hp : (x :: M).Perm L) (hl : L.Perm (zl (ready N A d))) (hm : ∀ y ∈ L, x ≤ y) : ∃ (v : Nat) (q : List Nat), x = v ∧ M = zl q ∧ (v :: q).Perm (ready N A d) ∧ leastF N A d = some v := by
  obtain ⟨r, hr, hrp⟩ := perm_zl (hp.trans hl)
  cases r with
  | nil => cases hr
  | cons v q =>
    have e : x = v ∧ M = zl q := by
      unfold zl at hr ⊢
      rw [List.map_cons] at hr
      exact ⟨(List.cons.inj hr).1, (List.cons.inj hr).2⟩
    refine ⟨v, q, e.1, e.2, hrp, ready_least (hrp.mem_iff.1 (List.mem_cons_self ..)) fun u hu => ?_⟩
    have : (u : Int) ∈ L := hl.mem_iff.2 (List.mem_map.2 ⟨u, hu, rfl⟩)
    have := hm _ this
    rw [e.1] at this; omega
theorem own_keep {S : Nat → Prop} {w w' : World} {B : Nat} {e : TypeId} {sz : Nat} {v : Value} {n : Nat} {xs : List Value} (h : w.ownsRow B e sz v n xs) (k : Keep S w w') (hn : ∀ g, v.ownBlock = some g → ¬ S g) : w'.ownsRow B e sz v n xs := by
  refine ⟨h.1, ?_⟩
  rcases h.2 with h1 | ⟨g, cap, cur, hv, hb, hg, r⟩
  · exact .inl h1
  · exact .inr ⟨g, cap, cur, hv, hb, k.heap hg (hn g (by rw [hv]; rfl)), r⟩
theorem nextIn_keep {w w' : World} {bo N s : Nat} {A : Arcs} (h : NextIn w bo N A) (k : Keep (fun b => b < s) w w') (hs : s ≤ bo) : NextIn w' bo N A := fun v hv => by
  obtain ⟨a, c, h1, h2, h3⟩ := h v hv
  refine ⟨a, c, k.cell h1 (by show ¬ bo < s; omega), fun j hj => ?_, h3⟩
  obtain ⟨g, o, ha, hc⟩ := h2 j hj
  exact ⟨g, o, ha, k.cell hc (by have := h3 g o ha; show ¬ g < s; omega)⟩
theorem intIn_keep {w w' : World} {a : Option Addr} {L : List Int} {s : Nat} (h : IntIn w a L) (k : Keep (fun b => b < s) w w') (hs : ∀ g o, a = some ⟨g, o, none⟩ → s ≤ g) : IntIn w' a L := fun j hj => by
  obtain ⟨g, o, ha, hc⟩ := h j hj
  exact ⟨g, o, ha, k.cell hc (by have := hs g o ha; show ¬ g < s; omega)⟩
theorem stepO_eq {s : List Nat × List Nat} {y c : Nat} (hy : y < s.1.length) (hc : s.1.getD y 0 = c + 1) : stepO s y = if c = 0 then (s.1.set y c, s.2 ++ [y]) else (s.1.set y c, s.2) := by
  unfold stepO
  simp only
  have e := getD_set s.1 y y c 0
  rw [if_pos ⟨rfl, hy⟩] at e
  rw [hc, Nat.add_sub_cancel, e]
/-- A queue that holds nothing. -/
theorem QAt.empty (w : World) (B : Nat) : QAt (w.alloc (.cells #[.slice none 0 0] 50)) w.heap.size B (.slice none 0 0) [] :=
  ⟨heap_alloc_new w _, World.ownsRow_nil _ _ _ _⟩
/-- The queue's row lies apart: ahead of s, or behind t. -/
def Apart (sv : Value) (s t : Nat) : Prop := ∀ g, sv.ownBlock = some g → g < s ∨ t ≤ g
end Go.Proofs.Ytjjcjoedgmfalaa.Tp

/- Tarjan's algorithm as a relation between plain states, and that what it finds are the strong components; no program in sight. -/
namespace Go.Proofs.Ytjjcjoedgmfalaa.Tp

/-- A list's numbers below 64, ascending. -/
def ascN (l : List Nat) : List Nat := (List.range 64).filter (fun x => l.contains x)
theorem mem_ascN {l : List Nat} (h : ∀ x ∈ l, x < 64) {x : Nat} : x ∈ ascN l ↔ x ∈ l := by
  unfold ascN
  rw [List.mem_filter, List.mem_range]
  exact ⟨fun h => by simpa using h.2, fun hx => ⟨h x hx, by simpa using hx⟩⟩
theorem ascN_asc (l : List Nat) : (ascN l).Pairwise (· < ·) := List.Pairwise.filter _ List.pairwise_lt_range
/-- The walk's state. -/
structure St where
  idx : List Nat
  low : List Nat
  on : List Bool
  stk : List Nat
  found : List (List Nat)
  cnt : Nat
def ix (s : St) (u : Nat) : Nat := s.idx.getD u 0
def lo (s : St) (u : Nat) : Nat := s.low.getD u 0
def onS (s : St) (u : Nat) : Bool := s.on.getD u false
def push (v : Nat) (s : St) : St := { idx := s.idx.set v (s.cnt + 1), low := s.low.set v (s.cnt + 1), on := s.on.set v true, stk := s.stk ++ [v], found := s.found, cnt := s.cnt + 1 }
def lowTo (v n : Nat) (s : St) : St := { s with low := s.low.set v (min (lo s v) n) }
def seeOld (v u : Nat) (s : St) : St := if onS s u = true then lowTo v (ix s u) s else s
def off (l : List Nat) (o : List Bool) : List Bool := l.foldl (fun o u => o.set u false) o
def fin (v : Nat) (s : St) : St :=
  if lo s v = ix s v then
    { s with stk := s.stk.take (s.stk.idxOf v), on := off (s.stk.drop (s.stk.idxOf v)) s.on, found := s.found ++ [ascN (s.stk.drop (s.stk.idxOf v))] }
  else s
/-- From the state behind v's entry to the state where the heads us have been seen. -/
inductive Loop (A : Arcs) : Nat → List Nat → St → St → Prop
  | nil (v : Nat) (s : St) : Loop A v [] s s
  | old {v : Nat} {us : List Nat} {s s1 : St} {u : Nat} : Loop A v us s s1 → ix s1 u ≠ 0 → Loop A v (us ++ [u]) s (seeOld v u s1)
  | new {v : Nat} {us : List Nat} {s s1 s2 : St} {u : Nat} : Loop A v us s s1 → ix s1 u = 0 → Loop A u (outs A u) (push u s1) s2 → Loop A v (us ++ [u]) s (lowTo v (lo (fin u s2) u) (fin u s2))

/-- What holds of a state, g being the vertices that are under way. -/
structure Inv (N : Nat) (A : Arcs) (g : List Nat) (s : St) : Prop where
  li : s.idx.length = N
  ll : s.low.length = N
  lb : s.on.length = N
  num : s.cnt + s.idx.count 0 = N
  on_ : ∀ u, onS s u = true ↔ u ∈ s.stk
  lt : ∀ u ∈ s.stk, u < N
  asc : s.stk.Pairwise (fun a b => ix s a < ix s b)
  pos : ∀ u ∈ s.stk, ix s u ≠ 0
  le : ∀ u, ix s u ≤ s.cnt
  seen : ∀ u, ix s u ≠ 0 → u ∈ s.stk ∨ ∃ c ∈ s.found, u ∈ c
  fnd : ∀ c ∈ s.found, ∀ u ∈ c, u < N ∧ ix s u ≠ 0 ∧ u ∉ s.stk
  clo : ∀ c ∈ s.found, ∀ u ∈ c, ∀ w, (u, w) ∈ A → ∃ d ∈ s.found, w ∈ d
  scc : ∀ c ∈ s.found, c.Pairwise (· < ·) ∧ ∃ r, ∀ x, x ∈ c ↔ Path A r x ∧ Path A x r
  dis : s.found.Pairwise (fun a b => ∀ x ∈ a, x ∉ b)
  gr : ∀ u ∈ g, u ∈ s.stk
  blk : ∀ u ∈ s.stk, u ∉ g → ∀ w, (u, w) ∈ A → ix s w ≠ 0
  fwd : ∀ a ∈ s.stk, ∀ b ∈ s.stk, ix s a ≤ ix s b → Path A a b
  back : ∀ y ∈ s.stk, ∃ x ∈ g, ix s x ≤ ix s y ∧ Path A y x
theorem Inv.nodup {N : Nat} {A : Arcs} {g : List Nat} {s : St} (h : Inv N A g s) : s.stk.Nodup :=
  h.asc.imp fun hlt e => by subst e; omega
/-- A path from the found stays in the found. -/
theorem Inv.found_path {N : Nat} {A : Arcs} {g : List Nat} {s : St} (h : Inv N A g s) {u w : Nat} (hu : ∃ c ∈ s.found, u ∈ c) (hp : Path A u w) : ∃ c ∈ s.found, w ∈ c :=
  Path.closed (S := fun x => ∃ c ∈ s.found, x ∈ c) (fun p hp ⟨c, hc, hm⟩ => h.clo c hc p.1 hm p.2 hp) hp hu
theorem ix_push {N : Nat} {v : Nat} {s : St} (hl : s.idx.length = N) (hv : v < N) (u : Nat) : ix (push v s) u = if v = u then s.cnt + 1 else ix s u := by
  unfold ix push
  rw [getD_set]
  by_cases e : v = u
  · rw [if_pos ⟨e, by rw [hl]; exact hv⟩, if_pos e]
  · rw [if_neg (fun x => e x.1), if_neg e]
theorem count_set (l : List Nat) (v n : Nat) (hn : n ≠ 0) (hl : v < l.length) (hz : l.getD v 0 = 0) : (l.set v n).count 0 + 1 = l.count 0 := by
  induction l generalizing v with
  | nil => simp at hl
  | cons a l ih =>
    cases v with
    | zero =>
      have : a = 0 := by simpa using hz
      subst this
      simp [hn]
    | succ v =>
      have := ih v (by simpa using hl) (by simpa using hz)
      simp [List.count_cons]; omega
theorem Inv.push {N : Nat} {A : Arcs} {g : List Nat} {s : St} (h : Inv N A g s) {v : Nat} (hv : v < N) (hz : ix s v = 0) (hp : ∀ y ∈ s.stk, Path A y v) : Inv N A (v :: g) (push v s) := by
  have hix := ix_push (s := s) h.li hv
  have hns : v ∉ s.stk := fun hm => h.pos v hm hz
  have hne : ∀ u ∈ s.stk, v ≠ u := fun u hu e => hns (by rw [e]; exact hu)
  have hold : ∀ u ∈ s.stk, ix (Tp.push v s) u = ix s u := fun u hu => by rw [hix u, if_neg (hne u hu)]
  have hnew : ix (Tp.push v s) v = s.cnt + 1 := by rw [hix v, if_pos rfl]
  have hstk : (Tp.push v s).stk = s.stk ++ [v] := rfl
  have hmem : ∀ u, u ∈ (Tp.push v s).stk ↔ u ∈ s.stk ∨ u = v := fun u => by rw [hstk, List.mem_append, List.mem_singleton]
  refine ⟨by simp [Tp.push, h.li], by simp [Tp.push, h.ll], by simp [Tp.push, h.lb], ?_, fun u => ?_, fun u hu => ?_, ?_, fun u hu => ?_, fun u => ?_, fun u hu => ?_, fun c hc u hu => ?_, h.clo, h.scc, h.dis, fun u hu => ?_, fun u hu hg w hw => ?_, fun a ha b hb hle => ?_, fun y hy => ?_⟩
  · have := count_set s.idx v (s.cnt + 1) (by omega) (by rw [h.li]; exact hv) hz
    have := h.num
    show s.cnt + 1 + (s.idx.set v (s.cnt + 1)).count 0 = N
    omega
  · rw [hmem u]
    show (s.on.set v true).getD u false = true ↔ _
    rw [getD_set]
    by_cases e : v = u
    · subst e; rw [if_pos ⟨rfl, by rw [h.lb]; exact hv⟩]; simp
    · rw [if_neg (fun x => e x.1)]
      have := h.on_ u
      unfold onS at this
      rw [this]
      exact ⟨.inl, fun x => x.elim id (fun y => absurd y.symm e)⟩
  · rcases (hmem u).1 hu with h1 | rfl
    · exact h.lt u h1
    · exact hv
  · rw [hstk, List.pairwise_append]
    refine ⟨?_, List.pairwise_singleton _ _, fun a ha b hb => ?_⟩
    · refine List.Pairwise.imp_of_mem (fun {a b} ha hb hlt => ?_) h.asc
      rw [hold a ha, hold b hb]; exact hlt
    · rw [List.mem_singleton] at hb; subst hb
      rw [hold a ha, hnew]; have := h.le a; omega
  · rcases (hmem u).1 hu with h1 | rfl
    · rw [hold u h1]; exact h.pos u h1
    · rw [hnew]; omega
  · show ix (Tp.push v s) u ≤ s.cnt + 1
    rw [hix u]; have := h.le u; split <;> omega
  · rw [hix u] at hu
    rw [hmem u]
    by_cases e : v = u
    · exact .inl (.inr e.symm)
    · rw [if_neg e] at hu
      rcases h.seen u hu with h1 | h1
      · exact .inl (.inl h1)
      · exact .inr h1
  · have h1 := h.fnd c hc u hu
    have e : v ≠ u := fun e => by rw [← e] at h1; exact h1.2.1 hz
    refine ⟨h1.1, by rw [hix u, if_neg e]; exact h1.2.1, fun hm => ?_⟩
    rcases (hmem u).1 hm with h2 | h2
    · exact h1.2.2 h2
    · exact e h2.symm
  · rw [hmem u]
    rcases List.mem_cons.1 hu with rfl | hu
    · exact .inr rfl
    · exact .inl (h.gr u hu)
  · rw [List.mem_cons, not_or] at hg
    rcases (hmem u).1 hu with h1 | h1
    · have := h.blk u h1 hg.2 w hw
      rw [hix w]; split <;> omega
    · exact absurd h1 hg.1
  · rcases (hmem a).1 ha with ha1 | ha1
    · rcases (hmem b).1 hb with hb1 | hb1
      · rw [hold a ha1, hold b hb1] at hle; exact h.fwd a ha1 b hb1 hle
      · rw [hb1]; exact hp a ha1
    · rcases (hmem b).1 hb with hb1 | hb1
      · rw [ha1, hnew, hold b hb1] at hle; have := h.le b; omega
      · rw [ha1, hb1]; exact .refl _
  · rcases (hmem y).1 hy with hy | rfl
    · obtain ⟨x, hx, h1, h2⟩ := h.back y hy
      exact ⟨x, List.mem_cons_of_mem _ hx, by rw [hold x (h.gr x hx), hold y hy]; exact h1, h2⟩
    · exact ⟨y, List.mem_cons_self .., Nat.le_refl _, .refl _⟩
/-- The numbers of low do not matter. -/
theorem Inv.low {N : Nat} {A : Arcs} {g : List Nat} {s : St} (h : Inv N A g s) (v n : Nat) : Inv N A g (lowTo v n s) :=
  ⟨h.li, by show (s.low.set v _).length = N; rw [List.length_set]; exact h.ll, h.lb, h.num, h.on_, h.lt, h.asc, h.pos, h.le, h.seen, h.fnd, h.clo, h.scc, h.dis, h.gr, h.blk, h.fwd, h.back⟩
/-- Where the heads us of v have been seen; B is the stack below v. -/
structure LoopP (N : Nat) (A : Arcs) (g B : List Nat) (v : Nat) (us : List Nat) (s0 s : St) : Prop where
  inv : Inv N A (v :: g) s
  stk : ∃ P, s.stk = B ++ v :: P ∧ ∀ y ∈ P, ∀ x ∈ B, (y, x) ∈ A → lo s v ≤ ix s x
  keep : ∀ u, ix s0 u ≠ 0 → ix s u = ix s0 u
  keepL : ∀ u, ix s0 u ≠ 0 → u ≠ v → lo s u = lo s0 u
  lowle : lo s v ≤ ix s v
  lowat : ∃ x, (x ∈ B ∨ x = v) ∧ lo s v = ix s x ∧ Path A v x
  edge : ∀ u ∈ us, ix s u ≠ 0 ∧ (u ∈ B → lo s v ≤ ix s u)
/-- Behind a visit of v. -/
structure VisP (N : Nat) (A : Arcs) (g B : List Nat) (v : Nat) (s0 s : St) : Prop where
  inv : Inv N A g s
  vis : ix s v ≠ 0
  stk : ∃ P, s.stk = B ++ P ∧ (∀ y ∈ P, ∀ x ∈ B, (y, x) ∈ A → lo s v ≤ ix s x)
  keep : ∀ u, ix s0 u ≠ 0 → ix s u = ix s0 u
  keepL : ∀ u, ix s0 u ≠ 0 → u ≠ v → lo s u = lo s0 u
  low : (∃ x ∈ B, lo s v = ix s x ∧ Path A v x) ∨ lo s v = ix s v
theorem mem_off : ∀ (l : List Nat) (o : List Bool) (u : Nat), (off l o).getD u false = true ↔ o.getD u false = true ∧ u ∉ l
  | [], o, u => by simp [off]
  | x :: l, o, u => by
    show (off l (o.set x false)).getD u false = true ↔ _
    rw [mem_off l, getD_set, List.mem_cons, not_or]
    by_cases e : x = u
    · subst e
      by_cases hl : x < o.length
      · simp [hl]
      · have : o.getD x false = false := by rw [List.getD_eq_getElem?_getD, List.getElem?_eq_none (by omega)]; rfl
        rw [if_neg (fun e => hl e.2), this]; simp
    · have e' : u ≠ x := fun y => e y.symm
      simp [e, e']
theorem off_len : ∀ (l : List Nat) (o : List Bool), (off l o).length = o.length
  | [], _ => rfl
  | x :: l, o => by show (off l (o.set x false)).length = _; rw [off_len l, List.length_set]
theorem idxOf_app {B P : List Nat} {v : Nat} (h : v ∉ B) : (B ++ v :: P).idxOf v = B.length := by
  rw [List.idxOf_append, if_neg h]; simp
theorem LoopP.fin {N : Nat} {A : Arcs} (ok : Ok N A) (hN : N ≤ 64) {g B : List Nat} {v : Nat} {s0 s : St} (h : LoopP N A g B v (outs A v) s0 s) (hB : ∀ x ∈ B, x ∉ g → True) (hg : ∀ x ∈ g, x ∈ B) : VisP N A g B v s0 (fin v s) := by
  obtain ⟨P, hs, hP⟩ := h.stk
  have I := h.inv
  have hnd := I.nodup
  rw [hs] at hnd
  have hnd' := List.nodup_append.1 hnd
  have hvB : v ∉ B := fun hm => hnd'.2.2 v hm v (List.mem_cons_self ..) rfl
  have hvs : v ∈ s.stk := by rw [hs]; simp
  have hBs : ∀ x ∈ B, x ∈ s.stk := fun x hx => by rw [hs]; exact List.mem_append_left _ hx
  have hPs : ∀ x ∈ v :: P, x ∈ s.stk := fun x hx => by rw [hs]; exact List.mem_append_right _ hx
  have hasc := I.asc
  rw [hs] at hasc
  have hasc' := List.pairwise_append.1 hasc
  have hBlt : ∀ x ∈ B, ∀ y ∈ v :: P, ix s x < ix s y := hasc'.2.2
  have hvP : ∀ y ∈ v :: P, ix s v ≤ ix s y := fun y hy => by
    rcases List.mem_cons.1 hy with rfl | hy
    · exact Nat.le_refl _
    · exact Nat.le_of_lt ((List.pairwise_cons.1 hasc'.2.1).1 y hy)
  have hidx : s.stk.idxOf v = B.length := by rw [hs]; exact idxOf_app hvB
  by_cases hc : lo s v = ix s v
  · -- the part from v on is a component
    have htake : s.stk.take (s.stk.idxOf v) = B := by rw [hidx, hs]; exact List.take_left
    have hdrop : s.stk.drop (s.stk.idxOf v) = v :: P := by rw [hidx, hs]; exact List.drop_left
    have hfin : Tp.fin v s = { s with stk := B, on := off (v :: P) s.on, found := s.found ++ [ascN (v :: P)] } := by
      unfold Tp.fin; rw [if_pos hc, htake, hdrop]
    have h64 : ∀ x ∈ v :: P, x < 64 := fun x hx => Nat.lt_of_lt_of_le (I.lt x (hPs x hx)) hN
    have hmem : ∀ x, x ∈ ascN (v :: P) ↔ x ∈ v :: P := fun x => mem_ascN h64
    -- arcs from the part lead into the part or to the found
    have hout : ∀ y ∈ v :: P, ∀ w, (y, w) ∈ A → w ∈ v :: P ∨ ∃ c ∈ s.found, w ∈ c := by
      intro y hy w hw
      have hwv : ix s w ≠ 0 ∧ (w ∈ B → ix s v ≤ ix s w) := by
        rcases List.mem_cons.1 hy with rfl | hy'
        · have := h.edge w (mem_outs.2 hw)
          exact ⟨this.1, fun hb => by have := this.2 hb; omega⟩
        · refine ⟨I.blk y (hPs y hy) ?_ w hw, fun hb => ?_⟩
          · rw [List.mem_cons, not_or]
            have hnc := List.nodup_cons.1 hnd'.2.1
            refine ⟨fun e => hnc.1 (by rw [← e]; exact hy'), fun hm => hnd'.2.2 y (hg y hm) y hy rfl⟩
          · have := hP y hy' w hb hw; omega
      rcases I.seen w hwv.1 with h1 | h1
      · rw [hs, List.mem_append] at h1
        rcases h1 with h1 | h1
        · have h2 := hwv.2 h1
          have h3 := hBlt w h1 v (List.mem_cons_self ..)
          omega
        · exact .inl h1
      · exact .inr h1
    have hpath : ∀ y ∈ v :: P, ∀ w, Path A y w → w ∈ v :: P ∨ ∃ c ∈ s.found, w ∈ c := by
      intro y hy w hw
      refine Path.closed (S := fun x => x ∈ v :: P ∨ ∃ c ∈ s.found, x ∈ c) (fun p hp hS => ?_) hw (.inl hy)
      rcases hS with hS | ⟨c, hc1, hc2⟩
      · exact hout p.1 hS p.2 hp
      · exact .inr (I.clo c hc1 p.1 hc2 p.2 hp)
    have hback : ∀ y ∈ v :: P, Path A y v := by
      intro y hy
      obtain ⟨x, hx, h1, h2⟩ := I.back y (hPs y hy)
      rcases List.mem_cons.1 hx with rfl | hx
      · exact h2
      · exfalso
        have hxB := hg x hx
        rcases hpath y hy x h2 with h3 | ⟨c, h3, h4⟩
        · exact hnd'.2.2 x hxB x h3 rfl
        · exact (I.fnd c h3 x h4).2.2 (hBs x hxB)
    have hfwd : ∀ y ∈ v :: P, Path A v y := fun y hy => I.fwd v hvs y (hPs y hy) (hvP y hy)
    have hscc : ∀ x, x ∈ ascN (v :: P) ↔ Path A v x ∧ Path A x v := fun x => by
      rw [hmem]
      refine ⟨fun hx => ⟨hfwd x hx, hback x hx⟩, fun ⟨h1, h2⟩ => ?_⟩
      rcases hpath v (List.mem_cons_self ..) x h1 with h3 | h3
      · exact h3
      · obtain ⟨c, h4, h5⟩ := I.found_path h3 h2
        exact absurd hvs (I.fnd c h4 v h5).2.2
    have hfm : ∀ c, c ∈ s.found ++ [ascN (v :: P)] ↔ c ∈ s.found ∨ c = ascN (v :: P) := fun c => by rw [List.mem_append, List.mem_singleton]
    rw [hfin]
    refine ⟨⟨I.li, I.ll, by show (off _ _).length = N; rw [off_len]; exact I.lb, I.num, fun u => ?_, fun u hu => I.lt u (hBs u hu), hasc'.1, fun u hu => I.pos u (hBs u hu), I.le, fun u hu => ?_, fun c hcm u hu => ?_, fun c hcm u hu w hw => ?_, fun c hcm => ?_, ?_, hg, fun u hu hgu w hw => I.blk u (hBs u hu) ?_ w hw, fun a ha b hb => I.fwd a (hBs a ha) b (hBs b hb), fun y hy => ?_⟩, ?_, ⟨[], by simp, fun y hy => (by cases hy)⟩, h.keep, h.keepL, .inr hc⟩
    · show (off (v :: P) s.on).getD u false = true ↔ u ∈ B
      rw [mem_off]
      have := I.on_ u
      unfold onS at this
      rw [this, hs, List.mem_append]
      constructor
      · rintro ⟨h1 | h1, h2⟩
        · exact h1
        · exact absurd h1 h2
      · intro h1
        exact ⟨.inl h1, fun h2 => hnd'.2.2 u h1 u h2 rfl⟩
    · rcases I.seen u hu with h1 | ⟨c, h1, h2⟩
      · rw [hs, List.mem_append] at h1
        rcases h1 with h1 | h1
        · exact .inl h1
        · exact .inr ⟨_, (hfm _).2 (.inr rfl), (hmem u).2 h1⟩
      · exact .inr ⟨c, (hfm c).2 (.inl h1), h2⟩
    · rcases (hfm c).1 hcm with h1 | rfl
      · have := I.fnd c h1 u hu
        exact ⟨this.1, this.2.1, fun hb => this.2.2 (hBs u hb)⟩
      · have hu' := (hmem u).1 hu
        exact ⟨I.lt u (hPs u hu'), I.pos u (hPs u hu'), fun hb => hnd'.2.2 u hb u hu' rfl⟩
    · rcases (hfm c).1 hcm with h1 | rfl
      · obtain ⟨d, h2, h3⟩ := I.clo c h1 u hu w hw
        exact ⟨d, (hfm d).2 (.inl h2), h3⟩
      · rcases hout u ((hmem u).1 hu) w hw with h1 | ⟨d, h2, h3⟩
        · exact ⟨_, (hfm _).2 (.inr rfl), (hmem w).2 h1⟩
        · exact ⟨d, (hfm d).2 (.inl h2), h3⟩
    · rcases (hfm c).1 hcm with h1 | rfl
      · exact I.scc c h1
      · exact ⟨ascN_asc _, v, hscc⟩
    · show (s.found ++ [ascN (v :: P)]).Pairwise _
      rw [List.pairwise_append]
      refine ⟨I.dis, List.pairwise_singleton _ _, fun a ha b hb x hx hxb => ?_⟩
      rw [List.mem_singleton] at hb; subst hb
      exact (I.fnd a ha x hx).2.2 (hPs x ((hmem x).1 hxb))
    · rw [List.mem_cons, not_or]
      exact ⟨fun e => hvB (by rw [← e]; exact hu), hgu⟩
    · obtain ⟨x, hx, h1, h2⟩ := I.back y (hBs y hy)
      rcases List.mem_cons.1 hx with rfl | hx
      · have := hBlt y hy x (List.mem_cons_self ..); omega
      · exact ⟨x, hx, h1, h2⟩
    · exact I.pos v hvs
  · -- v stays on the stack
    have hfin : Tp.fin v s = s := by unfold Tp.fin; rw [if_neg hc]
    have hlt : lo s v < ix s v := by have := h.lowle; omega
    obtain ⟨x, hx, hx1, hx2⟩ := h.lowat
    have hxB : x ∈ B := by
      rcases hx with hx | rfl
      · exact hx
      · omega
    rw [hfin]
    refine ⟨⟨I.li, I.ll, I.lb, I.num, I.on_, I.lt, I.asc, I.pos, I.le, I.seen, I.fnd, I.clo, I.scc, I.dis, fun u hu => hBs u (hg u hu), fun u hu hgu w hw => ?_, I.fwd, fun y hy => ?_⟩, I.pos v hvs, ⟨v :: P, hs, fun y hy z hz hyz => ?_⟩, h.keep, h.keepL, .inl ⟨x, hxB, hx1, hx2⟩⟩
    · by_cases e : u = v
      · subst e; exact (h.edge w (mem_outs.2 hw)).1
      · exact I.blk u hu (by rw [List.mem_cons, not_or]; exact ⟨e, hgu⟩) w hw
    · obtain ⟨z, hz, h1, h2⟩ := I.back y hy
      rcases List.mem_cons.1 hz with rfl | hz
      · -- y reaches v, v reaches x below, x reaches one that is under way
        obtain ⟨z2, hz2, h3, h4⟩ := I.back x (hBs x hxB)
        rcases List.mem_cons.1 hz2 with rfl | hz2
        · have := hBlt x hxB z2 (List.mem_cons_self ..); omega
        · exact ⟨z2, hz2, by omega, (h2.trans hx2).trans h4⟩
      · exact ⟨z, hz, h1, h2⟩
    · rcases List.mem_cons.1 hy with rfl | hy
      · exact (h.edge z (mem_outs.2 hyz)).2 hz
      · exact hP y hy z hz hyz
theorem lo_lowTo {N : Nat} {s : St} (hl : s.low.length = N) {v : Nat} (hv : v < N) (n u : Nat) : lo (lowTo v n s) u = if v = u then min (lo s v) n else lo s u := by
  show (s.low.set v _).getD u 0 = _
  rw [getD_set]
  by_cases e : v = u
  · rw [if_pos ⟨e, by rw [hl]; exact hv⟩, if_pos e]
  · rw [if_neg (fun x => e x.1), if_neg e]; rfl
/-- The loop's law. -/
theorem Loop.law {N : Nat} {A : Arcs} (ok : Ok N A) (hN : N ≤ 64) {v : Nat} {us : List Nat} {s0 s : St} (h : Loop A v us s0 s) :
    ∀ (g B : List Nat), Inv N A (v :: g) s0 → s0.stk = B ++ [v] → lo s0 v = ix s0 v → (∀ u ∈ us, (v, u) ∈ A) → (∀ x ∈ g, x ∈ B) → LoopP N A g B v us s0 s := by
  induction h with
  | nil v s =>
    intro g B I hs hl _ _
    exact ⟨I, ⟨[], hs, fun y hy => (by cases hy)⟩, fun _ _ => rfl, fun _ _ _ => rfl, Nat.le_of_eq hl, ⟨v, .inr rfl, hl, .refl _⟩, fun u hu => (by cases hu)⟩
  | @old v us s s1 u _ hu ih =>
    intro g B I hs hl ha hg
    have L := ih g B I hs hl (fun x hx => ha x (List.mem_append_left _ hx)) hg
    have hvu := ha u (by simp)
    obtain ⟨P, hs1, hP⟩ := L.stk
    have hvs : v ∈ s1.stk := by rw [hs1]; simp
    have hvN := L.inv.lt v hvs
    unfold seeOld
    by_cases hon : onS s1 u = true
    · rw [if_pos hon]
      have hus := (L.inv.on_ u).1 hon
      have hlow := fun x => lo_lowTo L.inv.ll hvN (ix s1 u) x
      have hlv : lo (lowTo v (ix s1 u) s1) v = min (lo s1 v) (ix s1 u) := by rw [hlow v, if_pos rfl]
      refine ⟨L.inv.low _ _, ⟨P, hs1, fun y hy x hx hyx => ?_⟩, L.keep, fun x hx hxv => ?_, ?_, ?_, fun x hx => ?_⟩
      · rw [hlv]; have := hP y hy x hx hyx; show _ ≤ ix s1 x; omega
      · rw [hlow x, if_neg (fun e => hxv e.symm)]; exact L.keepL x hx hxv
      · rw [hlv]; have := L.lowle; show _ ≤ ix s1 v; omega
      · rw [hlv]
        by_cases hc : lo s1 v ≤ ix s1 u
        · obtain ⟨x, h1, h2, h3⟩ := L.lowat
          exact ⟨x, h1, by show _ = ix s1 x; omega, h3⟩
        · refine ⟨u, ?_, by show _ = ix s1 u; omega, Path.arc hvu⟩
          have hasc := L.inv.asc
          rw [hs1] at hasc hus
          have hasc' := List.pairwise_append.1 hasc
          rcases List.mem_append.1 hus with h1 | h1
          · exact .inl h1
          · rcases List.mem_cons.1 h1 with h1 | h1
            · exact .inr h1
            · have := (List.pairwise_cons.1 hasc'.2.1).1 u h1
              have := L.lowle; omega
      · rw [hlv]
        rcases List.mem_append.1 hx with hx | hx
        · have := L.edge x hx
          exact ⟨this.1, fun hb => by have := this.2 hb; show _ ≤ ix s1 x; omega⟩
        · rw [List.mem_singleton] at hx; subst hx
          exact ⟨hu, fun _ => by show _ ≤ ix s1 x; omega⟩
    · rw [if_neg hon]
      refine ⟨L.inv, L.stk, L.keep, L.keepL, L.lowle, L.lowat, fun x hx => ?_⟩
      rcases List.mem_append.1 hx with hx | hx
      · exact L.edge x hx
      · rw [List.mem_singleton] at hx; subst hx
        refine ⟨hu, fun hb => absurd ((L.inv.on_ x).2 (by rw [hs1]; exact List.mem_append_left _ hb)) hon⟩
  | @new v us s s1 s2 u _ hu _ ih ih2 =>
    intro g B I hs hl ha hg
    have L := ih g B I hs hl (fun x hx => ha x (List.mem_append_left _ hx)) hg
    have hvu := ha u (by simp)
    obtain ⟨P, hs1, hP⟩ := L.stk
    have hvs : v ∈ s1.stk := by rw [hs1]; simp
    have hvN := L.inv.lt v hvs
    have huN := (ok _ hvu).2
    have hBs : ∀ x ∈ B, x ∈ s1.stk := fun x hx => by rw [hs1]; exact List.mem_append_left _ hx
    have hasc := L.inv.asc
    rw [hs1] at hasc
    have hasc' := List.pairwise_append.1 hasc
    have hgv : ∀ x ∈ v :: g, ix s1 x ≤ ix s1 v := fun x hx => by
      rcases List.mem_cons.1 hx with rfl | hx
      · exact Nat.le_refl _
      · exact Nat.le_of_lt (hasc'.2.2 x (hg x hx) v (List.mem_cons_self ..))
    have hpre : ∀ y ∈ s1.stk, Path A y u := fun y hy => by
      obtain ⟨x, hx, h1, h2⟩ := L.inv.back y hy
      exact .step (h2.trans (L.inv.fwd x (L.inv.gr x hx) v hvs (hgv x hx))) hvu
    have hixu := ix_push (s := s1) L.inv.li huN
    have I2 := L.inv.push huN hu hpre
    have hpl : lo (push u s1) u = ix (push u s1) u := by
      rw [hixu u, if_pos rfl]
      show (s1.low.set u _).getD u 0 = _
      rw [getD_set, if_pos ⟨rfl, by rw [L.inv.ll]; exact huN⟩]
    have L2 := ih2 (v :: g) s1.stk I2 rfl hpl (fun x hx => mem_outs.1 hx) (fun x hx => L.inv.gr x hx)
    have V := L2.fin ok hN (fun _ _ _ => trivial) (fun x hx => L.inv.gr x hx)
    obtain ⟨P', hs2, hP'⟩ := V.stk
    have hne : ∀ x, ix s1 x ≠ 0 → u ≠ x := fun x hx e => hx (by rw [← e]; exact hu)
    have hkeep : ∀ x, ix s1 x ≠ 0 → ix (fin u s2) x = ix s1 x := fun x hx => by
      have := V.keep x (by rw [hixu x, if_neg (hne x hx)]; exact hx)
      rw [this, hixu x, if_neg (hne x hx)]
    have hkeepL : ∀ x, ix s1 x ≠ 0 → lo (fin u s2) x = lo s1 x := fun x hx => by
      have h1 := V.keepL x (by rw [hixu x, if_neg (hne x hx)]; exact hx) (fun e => hne x hx e.symm)
      rw [h1]
      show (s1.low.set u _).getD x 0 = _
      rw [getD_set, if_neg (fun e => hne x hx e.1)]; rfl
    have hvz := L.inv.pos v hvs
    have hlow := fun x => lo_lowTo V.inv.ll hvN (lo (fin u s2) u) x
    have hlv : lo (lowTo v (lo (fin u s2) u) (fin u s2)) v = min (lo s1 v) (lo (fin u s2) u) := by rw [hlow v, if_pos rfl, hkeepL v hvz]
    have hstk : (lowTo v (lo (fin u s2) u) (fin u s2)).stk = B ++ v :: (P ++ P') := by
      show (fin u s2).stk = _
      rw [hs2, hs1]; simp
    have hixB : ∀ x ∈ B, ix (fin u s2) x = ix s1 x := fun x hx => hkeep x (L.inv.pos x (hBs x hx))
    have hunew : s1.cnt + 1 ≤ ix (fin u s2) u := by
      have := V.keep u (by rw [hixu u, if_pos rfl]; omega)
      rw [this, hixu u, if_pos rfl]; exact Nat.le_refl _
    refine ⟨V.inv.low _ _, ⟨P ++ P', hstk, fun y hy x hx hyx => ?_⟩, fun x hx => ?_, fun x hx hxv => ?_, ?_, ?_, fun x hx => ?_⟩
    · rw [hlv]
      show _ ≤ ix (fin u s2) x
      rcases List.mem_append.1 hy with hy | hy
      · have := hP y hy x hx hyx; rw [hixB x hx]; omega
      · have := hP' y hy x (hBs x hx) hyx; omega
    · have h1 := L.keep x hx
      show ix (fin u s2) x = _
      rw [hkeep x (by rw [h1]; exact hx), h1]
    · have h1 := L.keep x hx
      rw [hlow x, if_neg (fun e => hxv e.symm), hkeepL x (by rw [h1]; exact hx)]
      exact L.keepL x hx hxv
    · rw [hlv]
      show _ ≤ ix (fin u s2) v
      rw [hkeep v hvz]; have := L.lowle; omega
    · rw [hlv]
      by_cases hc : lo s1 v ≤ lo (fin u s2) u
      · obtain ⟨x, h1, h2, h3⟩ := L.lowat
        refine ⟨x, h1, ?_, h3⟩
        show _ = ix (fin u s2) x
        have : ix (fin u s2) x = ix s1 x := by
          rcases h1 with h1 | rfl
          · exact hixB x h1
          · exact hkeep x hvz
        rw [this]; omega
      · rcases V.low with ⟨x, h1, h2, h3⟩ | h1
        · have hxz := L.inv.pos x h1
          have hx1 := hkeep x hxz
          refine ⟨x, .inl ?_, by show _ = ix (fin u s2) x; omega, (Path.arc hvu).trans h3⟩
          have hlt : ix s1 x < ix s1 v := by have := L.lowle; omega
          rw [hs1] at h1
          rcases List.mem_append.1 h1 with h4 | h4
          · exact h4
          · rcases List.mem_cons.1 h4 with h4 | h4
            · subst h4; omega
            · have := (List.pairwise_cons.1 hasc'.2.1).1 x h4; omega
        · have := L.inv.le v
          have := L.lowle
          omega
    · rw [hlv]
      show ix (fin u s2) x ≠ 0 ∧ (x ∈ B → _ ≤ ix (fin u s2) x)
      rcases List.mem_append.1 hx with hx | hx
      · have h1 := L.edge x hx
        rw [hkeep x h1.1]
        exact ⟨h1.1, fun hb => by have := h1.2 hb; omega⟩
      · rw [List.mem_singleton] at hx; subst hx
        refine ⟨V.vis, fun hb => absurd hu (L.inv.pos x (hBs x hb))⟩
/-- A visit's law. -/
theorem visit_law {N : Nat} {A : Arcs} (ok : Ok N A) (hN : N ≤ 64) {v : Nat} {s0 s : St} {g : List Nat} (I : Inv N A g s0) (hv : v < N) (hz : ix s0 v = 0) (hp : ∀ y ∈ s0.stk, Path A y v) (h : Loop A v (outs A v) (push v s0) s) : VisP N A g s0.stk v (push v s0) (fin v s) := by
  have hpl : lo (push v s0) v = ix (push v s0) v := by
    rw [ix_push I.li hv, if_pos rfl]
    show (s0.low.set v _).getD v 0 = _
    rw [getD_set, if_pos ⟨rfl, by rw [I.ll]; exact hv⟩]
  have L := h.law ok hN g s0.stk (I.push hv hz hp) rfl hpl (fun x hx => mem_outs.1 hx) (fun x hx => I.gr x hx)
  exact L.fin ok hN (fun _ _ _ => trivial) (fun x hx => I.gr x hx)
theorem Loop.snd {A : Arcs} {v : Nat} {us : List Nat} {s0 s : St} (h : Loop A v us s0 s) : s.idx.count 0 ≤ s0.idx.count 0 := by
  induction h with
  | nil => exact Nat.le_refl _
  | @old v us s s1 u _ _ ih => unfold seeOld; split <;> exact ih
  | @new v us s s1 s2 u _ hu _ ih ih2 =>
    have e : (fin u s2).idx = s2.idx := by unfold fin; split <;> rfl
    show (fin u s2).idx.count 0 ≤ _
    rw [e]
    refine Nat.le_trans ih2 (Nat.le_trans ?_ ih)
    show (s1.idx.set u _).count 0 ≤ _
    by_cases hl : u < s1.idx.length
    · have := count_set s1.idx u (s1.cnt + 1) (by omega) hl hu; omega
    · rw [List.set_eq_of_length_le (by omega)]; exact Nat.le_refl _
theorem push_count {N : Nat} {A : Arcs} {g : List Nat} {s : St} (I : Inv N A g s) {v : Nat} (hv : v < N) (hz : ix s v = 0) : (push v s).idx.count 0 + 1 = s.idx.count 0 :=
  count_set s.idx v (s.cnt + 1) (by omega) (by rw [I.li]; exact hv) hz

/-! ### the document's components -/
def mutu (N : Nat) (A : Arcs) (v u : Nat) : Bool := (reachT N A v).contains u && (reachT N A u).contains v
def compT (N : Nat) (A : Arcs) (v : Nat) : List Nat := (List.range N).filter (mutu N A v)
def strongT (N : Nat) (A : Arcs) : List (List Nat) := (List.range N).filterMap (fun v => if (compT N A v).getD 0 0 = v then some (compT N A v) else none)
theorem mem_compT {N : Nat} {A : Arcs} (ok : Ok N A) {v u : Nat} (hv : v < N) : u ∈ compT N A v ↔ u < N ∧ Path A v u ∧ Path A u v := by
  unfold compT mutu
  rw [List.mem_filter, List.mem_range, Bool.and_eq_true]
  constructor
  · rintro ⟨h1, h2, h3⟩
    exact ⟨h1, (mem_reachT ok hv).1 (by simpa using h2), (mem_reachT ok h1).1 (by simpa using h3)⟩
  · rintro ⟨h1, h2, h3⟩
    exact ⟨h1, by simpa using (mem_reachT ok hv).2 h2, by simpa using (mem_reachT ok h1).2 h3⟩
theorem compT_asc (N : Nat) (A : Arcs) (v : Nat) : (compT N A v).Pairwise (· < ·) := List.Pairwise.filter _ List.pairwise_lt_range
/-- Lists whose keys ascend are one if they have the same members. -/
theorem asc_key {α : Type} {f : α → Nat} : ∀ {l m : List α}, l.Pairwise (fun a b => f a < f b) → m.Pairwise (fun a b => f a < f b) → (∀ x, x ∈ l ↔ x ∈ m) → l = m
  | [], [], _, _, _ => rfl
  | [], b :: m, _, _, h => by have := (h b).2 (List.mem_cons_self ..); cases this
  | a :: l, [], _, _, h => by have := (h a).1 (List.mem_cons_self ..); cases this
  | a :: l, b :: m, hl, hm, h => by
    have hl' := List.pairwise_cons.1 hl
    have hm' := List.pairwise_cons.1 hm
    have e : a = b := by
      rcases List.mem_cons.1 ((h a).1 (List.mem_cons_self ..)) with h1 | h1
      · exact h1
      · rcases List.mem_cons.1 ((h b).2 (List.mem_cons_self ..)) with h2 | h2
        · exact h2.symm
        · have := hl'.1 b h2; have := hm'.1 a h1; omega
    subst e
    refine congrArg _ (asc_key hl'.2 hm'.2 fun x => ?_)
    have hx := h x
    simp only [List.mem_cons] at hx
    constructor
    · intro h1
      rcases hx.1 (.inr h1) with h2 | h2
      · subst h2; have := hl'.1 x h1; omega
      · exact h2
    · intro h1
      rcases hx.2 (.inr h1) with h2 | h2
      · subst h2; have := hm'.1 x h1; omega
      · exact h2
theorem head_mem {l : List Nat} (h : l ≠ []) : l.getD 0 0 ∈ l := by
  cases l with
  | nil => exact absurd rfl h
  | cons a l => simp
theorem head_least {l : List Nat} (h : l.Pairwise (· < ·)) {x : Nat} (hx : x ∈ l) : l.getD 0 0 ≤ x := by
  cases l with
  | nil => cases hx
  | cons a l =>
    rcases List.mem_cons.1 hx with rfl | hx
    · exact Nat.le_refl _
    · exact Nat.le_of_lt ((List.pairwise_cons.1 h).1 x hx)
theorem strongT_keys (N : Nat) (A : Arcs) : (strongT N A).Pairwise (fun a b => a.getD 0 0 < b.getD 0 0) := by
  unfold strongT
  rw [List.pairwise_filterMap]
  refine List.Pairwise.imp (fun {a b} hab => ?_) (List.pairwise_lt_range (n := N))
  intro x hx y hy
  by_cases h1 : (compT N A a).getD 0 0 = a
  · rw [if_pos h1] at hx
    by_cases h2 : (compT N A b).getD 0 0 = b
    · rw [if_pos h2] at hy
      cases hx; cases hy
      omega
    · rw [if_neg h2] at hy; cases hy
  · rw [if_neg h1] at hx; cases hx
/-- All found: the components, sorted by their heads, are the document's. -/
theorem found_strong {N : Nat} {A : Arcs} (ok : Ok N A) {s : St} (I : Inv N A [] s) (hall : ∀ u, u < N → ix s u ≠ 0) {l : List (List Nat)} (hp : l.Perm s.found) (hs : l.Pairwise (fun a b => ¬ b.getD 0 0 < a.getD 0 0)) : l = strongT N A := by
  have hstk : ∀ y, y ∉ s.stk := fun y hy => by
    obtain ⟨x, hx, _⟩ := I.back y hy; cases hx
  have hin : ∀ u, u < N → ∃ c ∈ s.found, u ∈ c := fun u hu => (I.seen u (hall u hu)).elim (fun h => absurd h (hstk u)) id
  have hscc : ∀ c ∈ s.found, c ≠ [] ∧ (∀ x ∈ c, x < N) ∧ ∀ x ∈ c, ∀ y, y ∈ c ↔ Path A x y ∧ Path A y x := fun c hc => by
    obtain ⟨h1, r, h2⟩ := I.scc c hc
    refine ⟨fun e => ?_, fun x hx => (I.fnd c hc x hx).1, fun x hx y => ?_⟩
    · have := (h2 r).2 ⟨.refl _, .refl _⟩; rw [e] at this; cases this
    · have hx' := (h2 x).1 hx
      rw [h2 y]
      exact ⟨fun ⟨a, b⟩ => ⟨hx'.2.trans a, b.trans hx'.1⟩, fun ⟨a, b⟩ => ⟨hx'.1.trans a, b.trans hx'.2⟩⟩
  have hcomp : ∀ c ∈ s.found, ∀ x ∈ c, c = compT N A x := fun c hc x hx => by
    obtain ⟨h1, h2, h3⟩ := hscc c hc
    refine asc_ext (I.scc c hc).1 (compT_asc N A x) fun y => ?_
    rw [mem_compT ok (h2 x hx), h3 x hx y]
    exact ⟨fun h => ⟨h.1.lt ok (h2 x hx), h⟩, fun h => h.2⟩
  have hmem : ∀ c, c ∈ s.found ↔ c ∈ strongT N A := fun c => by
    unfold strongT
    rw [List.mem_filterMap]
    constructor
    · intro hc
      obtain ⟨h1, h2, h3⟩ := hscc c hc
      have hh := head_mem h1
      refine ⟨c.getD 0 0, List.mem_range.2 (h2 _ hh), ?_⟩
      rw [← hcomp c hc _ hh, if_pos rfl]
    · rintro ⟨v, hv, h⟩
      by_cases h1 : (compT N A v).getD 0 0 = v
      case neg => rw [if_neg h1] at h; cases h
      rw [if_pos h1] at h
      cases h
      have hv := List.mem_range.1 hv
      obtain ⟨c, hc, hvc⟩ := hin v hv
      rw [← hcomp c hc v hvc]; exact hc
  refine asc_key (f := fun c => c.getD 0 0) ?_ (strongT_keys N A) (fun x => by rw [hp.mem_iff, hmem])
  have hdis : l.Pairwise (fun a b => ∀ x ∈ a, x ∉ b) := hp.symm.pairwise I.dis (fun {a b} h x hx hy => h x hy hx)
  refine List.Pairwise.imp_of_mem (fun {a b} ha hb h => ?_) (hs.and hdis)
  have h1 := hscc a (hp.mem_iff.1 ha)
  have h2 := hscc b (hp.mem_iff.1 hb)
  have h3 := head_mem h1.1
  rcases Nat.lt_or_ge (a.getD 0 0) (b.getD 0 0) with h4 | h4
  · exact h4
  · exfalso
    have : a.getD 0 0 = b.getD 0 0 := by have := h.1; omega
    exact h.2 _ h3 (by rw [this]; exact head_mem h2.1)
end Go.Proofs.Ytjjcjoedgmfalaa.Tp

/- The state of Tarjan's walk in memory, and what each step does to it. -/
namespace Go.Proofs.Ytjjcjoedgmfalaa.Tp
open Go.RowKit Go.Sort Go.Lib Fx

/-- Where the parts lie. -/
structure WLie (w0 w4 : World) (N : Nat) (A : Arcs) (bw nb bi bl bo B : Nat) : Prop where
  wi : bw ≠ bi
  wl : bw ≠ bl
  wo : bw ≠ bo
  il : bi ≠ bl
  io : bi ≠ bo
  lo : bl ≠ bo
  gw : w0.heap.size ≤ bw
  gi : w0.heap.size ≤ bi
  gl : w0.heap.size ≤ bl
  go : w0.heap.size ≤ bo
  aw : bw < nb ∨ w4.heap.size ≤ bw
  ai : bi < nb ∨ w4.heap.size ≤ bi
  al : bl < nb ∨ w4.heap.size ≤ bl
  ao : bo < nb ∨ w4.heap.size ≤ bo
  lw : bw < B
  li : bi < B
  ll : bl < B
  lo' : bo < B
  l4 : w4.heap.size ≤ B
  l0 : w0.heap.size ≤ B
  nx : NextIn w4 nb N A
/-- The components that were found, behind a slice of slices. -/
def FoundAt (w : World) (B : Nat) (sv fv : Value) (F : List (List Nat)) : Prop :=
  ∃ fs : List Value, w.ownsRow B 26 1 fv F.length fs ∧ ∀ j (h : j < F.length), ∃ a c, fs[j]? = some (.slice a F[j].length c) ∧ IntIn w a (zl F[j]) ∧ ∀ g o, a = some ⟨g, o, none⟩ → B ≤ g ∧ g < w.heap.size ∧ sv.ownBlock ≠ some g ∧ fv.ownBlock ≠ some g
structure Wlk (w0 w4 : World) (N bw nb bi bl bo B : Nat) (w : World) (sv fv : Value) (s : St) : Prop where
  W : w.heap[bw]? = some (.cells #[.slice (some ⟨nb, 0, none⟩) N N, .slice (some ⟨bi, 0, none⟩) N N, .slice (some ⟨bl, 0, none⟩) N N, .slice (some ⟨bo, 0, none⟩) N N, sv, fv] 43 (0, 0))
  I : BlkI w bi (zl s.idx)
  L : BlkI w bl (zl s.low)
  O : BlkB w bo s.on
  S : w.ownsRow B 3 1 sv s.stk.length (iv (zl s.stk))
  F : FoundAt w B sv fv s.found
  ne : sv.ownBlock = none ∨ sv.ownBlock ≠ fv.ownBlock
  K : Keep (fun b => b < nb ∨ w4.heap.size ≤ b) w4 w
  X : Ext w0 w
  Z : B ≤ w.heap.size
theorem size_set (w : World) (p : Addr) (u : Value) : (w.setCell p u).heap.size = w.heap.size := by simp [World.setCell]
variable {w0 w4 w w2 : World} {N bw nb bi bl bo B : Nat} {A : Arcs} {sv fv : Value} {s : St}
theorem Wlk.next (h : Wlk w0 w4 N bw nb bi bl bo B w sv fv s) (lie : WLie w0 w4 N A bw nb bi bl bo B) {v : Nat} (hv : v < N) : ∃ a c, w.cell? ⟨nb, v, none⟩ = some (.slice a (outs A v).length c) ∧ IntIn w a (zl (outs A v)) := by
  obtain ⟨a, c, h1, h2, h3⟩ := lie.nx v hv
  refine ⟨a, c, h.K.cell h1 (fun e => ?_), fun j hj => ?_⟩
  · have := World.block_lt_of_cell? _ _ h1
    rcases e with e | e
    · exact absurd e (by show ¬ nb < nb; omega)
    · have h4 : nb < w4.heap.size := this
      have h5 : w4.heap.size ≤ nb := e
      omega
  · obtain ⟨g, o, ha, hc⟩ := h2 j hj
    refine ⟨g, o, ha, h.K.cell hc (fun e => ?_)⟩
    have h4 : g < w4.heap.size := World.block_lt_of_cell? _ _ hc
    have h5 := h3 g o ha
    rcases e with e | e
    · have e : g < nb := e
      omega
    · have e : w4.heap.size ≤ g := e
      omega
theorem Wlk.cells (h : Wlk w0 w4 N bw nb bi bl bo B w sv fv s) : w.cell? ⟨bw, 0, none⟩ = some (.slice (some ⟨nb, 0, none⟩) N N) ∧ w.cell? ⟨bw, 1, none⟩ = some (.slice (some ⟨bi, 0, none⟩) N N) ∧ w.cell? ⟨bw, 2, none⟩ = some (.slice (some ⟨bl, 0, none⟩) N N) ∧ w.cell? ⟨bw, 3, none⟩ = some (.slice (some ⟨bo, 0, none⟩) N N) ∧ w.cell? ⟨bw, 4, none⟩ = some sv ∧ w.cell? ⟨bw, 5, none⟩ = some fv := by
  refine ⟨?_, ?_, ?_, ?_, ?_, ?_⟩ <;> (rw [Lib.cell_of_heap h.W]; rfl)
theorem Wlk.fz (h : Wlk w0 w4 N bw nb bi bl bo B w sv fv s) (j : Nat) : w.frozen? ⟨bw, j, none⟩ = false := Lib.frozen_of_heap h.W j
theorem FoundAt.ext {F : List (List Nat)} (h : FoundAt w B sv fv F) (x : Ext w w2) : FoundAt w2 B sv fv F := by
  obtain ⟨fs, h1, h2⟩ := h
  refine ⟨fs, own_ext' h1 x, fun j hj => ?_⟩
  obtain ⟨a, c, h3, h4, h5⟩ := h2 j hj
  exact ⟨a, c, h3, h4.ext x, fun g o e => by obtain ⟨h6, h7, h8⟩ := h5 g o e; exact ⟨h6, Nat.lt_of_lt_of_le h7 x.size, h8⟩⟩
/-- Nothing of it lies in the blocks that have turned. -/
theorem FoundAt.keep {F : List (List Nat)} {S : Nat → Prop} (h : FoundAt w B sv fv F) (k : Keep S w w2) (hs : ∀ b, S b → b < B ∨ sv.ownBlock = some b) (hne : sv.ownBlock = none ∨ sv.ownBlock ≠ fv.ownBlock) : FoundAt w2 B sv fv F := by
  obtain ⟨fs, h1, h2⟩ := h
  refine ⟨fs, own_keep h1 k (fun g hg e => ?_), fun j hj => ?_⟩
  · have := (h1.lt g hg).1
    rcases hs g e with e | e
    · omega
    · rcases hne with e2 | e2
      · rw [e2] at e; cases e
      · exact e2 (by rw [e, hg])
  · obtain ⟨a, c, h3, h4, h5⟩ := h2 j hj
    refine ⟨a, c, h3, fun i hi => ?_, fun g o e => by obtain ⟨h6, h7, h8⟩ := h5 g o e; exact ⟨h6, Nat.lt_of_lt_of_le h7 k.size, h8⟩⟩
    obtain ⟨g, o, ha, hc⟩ := h4 i hi
    obtain ⟨h6, -, h7, h8⟩ := h5 g o ha
    refine ⟨g, o, ha, k.cell hc (fun e => ?_)⟩
    rcases hs g e with e | e
    · omega
    · exact h7 e
/-- .. and rows that were laid later have. -/
theorem FoundAt.keep2 {F : List (List Nat)} {S : Nat → Prop} (h : FoundAt w B sv fv F) (k : Keep S w w2) (hs : ∀ b, S b → b < B ∨ w.heap.size ≤ b) : FoundAt w2 B sv fv F := by
  obtain ⟨fs, h1, h2⟩ := h
  refine ⟨fs, own_keep h1 k (fun g hg e => ?_), fun j hj => ?_⟩
  · have := h1.lt g hg
    rcases hs g e with e | e <;> omega
  · obtain ⟨a, c, h3, h4, h5⟩ := h2 j hj
    refine ⟨a, c, h3, fun i hi => ?_, fun g o e => by obtain ⟨h6, h7, h8⟩ := h5 g o e; exact ⟨h6, Nat.lt_of_lt_of_le h7 k.size, h8⟩⟩
    obtain ⟨g, o, ha, hc⟩ := h4 i hi
    obtain ⟨h6, h7, -, -⟩ := h5 g o ha
    refine ⟨g, o, ha, k.cell hc (fun e => ?_)⟩
    have e : S g := e
    rcases hs g e with e | e <;> omega
/-- The slice that holds the stack counts by its block alone. -/
theorem FoundAt.resv {F : List (List Nat)} {sv' : Value} (h : FoundAt w B sv fv F) (e : sv'.ownBlock = sv.ownBlock) : FoundAt w B sv' fv F := by
  obtain ⟨fs, h1, h2⟩ := h
  exact ⟨fs, h1, fun j hj => by obtain ⟨a, c, h3, h4, h5⟩ := h2 j hj; exact ⟨a, c, h3, h4, by rw [e]; exact h5⟩⟩
theorem Wlk.keepP {pg : Nat} (h : Wlk w0 w4 N bw nb bi bl bo B w sv fv s) (lie : WLie w0 w4 N A bw nb bi bl bo B) (k : Keep (· = pg) w w2) (hb : B ≤ pg) (hs : sv.ownBlock ≠ some pg) (hF : FoundAt w2 B sv fv s.found) : Wlk w0 w4 N bw nb bi bl bo B w2 sv fv s := by
  have l1 := lie.lw; have l2 := lie.li; have l3 := lie.ll; have l4 := lie.lo'; have l5 := lie.l4; have l6 := lie.l0
  refine ⟨k.heap h.W (by omega), k.heap h.I (by omega), k.heap h.L (by omega), k.heap h.O (by omega), own_keep h.S k (fun g hg e => hs (by rw [hg, e])), hF, h.ne, h.K.trans' k (fun i _ e => by right; omega), ?_, Nat.le_trans h.Z k.size⟩
  exact Below.trans h.X (k.below h.X.size (fun i hi e => by omega))
theorem Wlk.ext (h : Wlk w0 w4 N bw nb bi bl bo B w sv fv s) (x : Ext w w2) : Wlk w0 w4 N bw nb bi bl bo B w2 sv fv s :=
  ⟨heap_ext h.W x, h.I.ext x, h.L.ext x, h.O.ext x, own_ext' h.S x, h.F.ext x, h.ne, h.K.ext x, h.X.trans x, Nat.le_trans h.Z x.size⟩
theorem keep_set (w : World) (b j : Nat) (u : Value) : Keep (· = b) w (w.setCell ⟨b, j, none⟩ u) := (Keep.refl _ w).setCell _ _ (.inl rfl)
theorem Wlk.setI (h : Wlk w0 w4 N bw nb bi bl bo B w sv fv s) (lie : WLie w0 w4 N A bw nb bi bl bo B) (v x : Nat) : Wlk w0 w4 N bw nb bi bl bo B (w.setCell ⟨bi, v, none⟩ (.int .i64 x)) sv fv { s with idx := s.idx.set v x } := by
  refine ⟨heap_other h.W _ _ lie.wi, ?_, heap_other h.L _ _ (fun e => lie.il e.symm), heap_other h.O _ _ (fun e => lie.io e.symm), own_set h.S _ _ lie.li, h.F.keep (keep_set w bi v _) (fun b e => by left; rw [e]; exact lie.li) h.ne, h.ne, h.K.setCell _ _ (.inl lie.ai), h.X.setCell lie.gi _, by rw [size_set]; exact h.Z⟩
  show BlkI _ bi (zl (s.idx.set v x))
  rw [← zl_set]; exact h.I.set v x
theorem Wlk.setL (h : Wlk w0 w4 N bw nb bi bl bo B w sv fv s) (lie : WLie w0 w4 N A bw nb bi bl bo B) (v x : Nat) : Wlk w0 w4 N bw nb bi bl bo B (w.setCell ⟨bl, v, none⟩ (.int .i64 x)) sv fv { s with low := s.low.set v x } := by
  refine ⟨heap_other h.W _ _ lie.wl, heap_other h.I _ _ lie.il, ?_, heap_other h.O _ _ (fun e => lie.lo e.symm), own_set h.S _ _ lie.ll, h.F.keep (keep_set w bl v _) (fun b e => by left; rw [e]; exact lie.ll) h.ne, h.ne, h.K.setCell _ _ (.inl lie.al), h.X.setCell lie.gl _, by rw [size_set]; exact h.Z⟩
  show BlkI _ bl (zl (s.low.set v x))
  rw [← zl_set]; exact h.L.set v x
theorem Wlk.setO (h : Wlk w0 w4 N bw nb bi bl bo B w sv fv s) (lie : WLie w0 w4 N A bw nb bi bl bo B) (v : Nat) (x : Bool) : Wlk w0 w4 N bw nb bi bl bo B (w.setCell ⟨bo, v, none⟩ (.bool x)) sv fv { s with on := s.on.set v x } :=
  ⟨heap_other h.W _ _ lie.wo, heap_other h.I _ _ lie.io, heap_other h.L _ _ lie.lo, h.O.set v x, own_set h.S _ _ lie.lo', h.F.keep (keep_set w bo v _) (fun b e => by left; rw [e]; exact lie.lo') h.ne, h.ne, h.K.setCell _ _ (.inl lie.ao), h.X.setCell lie.go _, by rw [size_set]; exact h.Z⟩
/-- A world in which the stack's row alone has turned, and a store of the new stack. -/
theorem Wlk.stk {g n c : Nat} {k : List Nat} (h : Wlk w0 w4 N bw nb bi bl bo B w sv fv s) (lie : WLie w0 w4 N A bw nb bi bl bo B) (hn : n = k.length)
    (ho : w2.ownsRow B 3 1 (.slice (some ⟨g, 0, none⟩) n c) n (iv (zl k))) (hg : w.grownBy w2 sv.ownBlock) (hat : sv.ownBlock = some g ∨ w.heap.size ≤ g) :
    Wlk w0 w4 N bw nb bi bl bo B (w2.setCell ⟨bw, 4, none⟩ (.slice (some ⟨g, 0, none⟩) n c)) (.slice (some ⟨g, 0, none⟩) n c) fv { s with stk := k } := by
  have hlo : ∀ b, sv.ownBlock = some b → B ≤ b := fun b hb => (h.S.lt b hb).1
  have hk : Keep (fun b => sv.ownBlock = some b) w w2 := (Keep.refl _ w).grown hg (fun k hk _ => hk)
  have far : ∀ {b : Nat} {o : Obj}, w.heap[b]? = some o → b < B → w2.heap[b]? = some o := fun {b o} hb hlt => heap_grown hb hg (fun e => by have := hlo b e.symm; omega)
  have k2 : Keep (fun b => b < nb ∨ w4.heap.size ≤ b) w4 w2 := h.K.grown hg (fun b hb _ => by right; have := hlo b hb; have := lie.l4; omega)
  have x2 : Ext w0 w2 := Below.grown h.X hg h.X.size (fun b hb => by have := hlo b hb; have := lie.l0; omega)
  have hW := heap_set (far h.W lie.lw) 4 (.slice (some ⟨g, 0, none⟩) n c)
  obtain ⟨fs, f1, f2⟩ := h.F
  have f1' : w2.ownsRow B 26 1 fv s.found.length fs := own_keep f1 hk (fun q hq e => h.ne.elim (fun e2 => by rw [e2] at e; cases e) (fun e2 => e2 (by rw [e, hq])))
  have hgF : fv.ownBlock ≠ some g := fun e => by
    rcases hat with h1 | h1
    · rcases h.ne with h2 | h2
      · rw [h2] at h1; cases h1
      · exact h2 (by rw [h1, e])
    · have := (f1.lt g e).2; omega
  refine ⟨?_, heap_other (far h.I lie.li) _ _ (fun e => lie.wi e.symm), heap_other (far h.L lie.ll) _ _ (fun e => lie.wl e.symm), heap_other (far h.O lie.lo') _ _ (fun e => lie.wo e.symm), ?_, ?_, .inr (fun e => hgF e.symm), k2.setCell _ _ (.inl lie.aw), x2.setCell lie.gw _, by rw [size_set]; exact Nat.le_trans h.Z hg.size⟩
  · rw [hW]; rfl
  · rw [← hn]; exact own_set ho _ _ lie.lw
  · refine ⟨fs, own_set f1' _ _ lie.lw, fun j hj => ?_⟩
    obtain ⟨a, d, h3, h4, h5⟩ := f2 j hj
    refine ⟨a, d, h3, fun i hi => ?_, fun q o ha => ?_⟩
    · obtain ⟨q, o, ha, hc⟩ := h4 i hi
      obtain ⟨h6, h9, h7, h8⟩ := h5 q o ha
      have hc2 := hk.cell hc h7
      exact ⟨q, o, ha, (keep_set w2 bw 4 _).cell hc2 (by have := lie.lw; show ¬ q = bw; omega)⟩
    · obtain ⟨h6, h9, h7, h8⟩ := h5 q o ha
      refine ⟨h6, by have := hg.size; simp [World.setCell]; omega, fun e => ?_, h8⟩
      have e : g = q := by simpa [Value.ownBlock] using e
      subst e
      rcases hat with h1 | h1
      · exact h7 h1
      · omega
/-- A component is appended: its numbers lie in a block of their own. -/
theorem Wlk.fnd {g n c : Nat} {k : List Nat} {pa : Option Addr} {pc : Nat} {fs : List Value} (h : Wlk w0 w4 N bw nb bi bl bo B w sv fv s) (lie : WLie w0 w4 N A bw nb bi bl bo B)
    (hp : IntIn w pa (zl k)) (hpa : ∀ g o, pa = some ⟨g, o, none⟩ → B ≤ g ∧ g < w.heap.size ∧ sv.ownBlock ≠ some g ∧ fv.ownBlock ≠ some g)
    (f1 : w.ownsRow B 26 1 fv s.found.length fs) (f2 : ∀ j (h : j < s.found.length), ∃ a c, fs[j]? = some (.slice a s.found[j].length c) ∧ IntIn w a (zl s.found[j]) ∧ ∀ g o, a = some ⟨g, o, none⟩ → B ≤ g ∧ g < w.heap.size ∧ sv.ownBlock ≠ some g ∧ fv.ownBlock ≠ some g)
    (f1' : w2.ownsRow B 26 1 (.slice (some ⟨g, 0, none⟩) n c) n (fs ++ [.slice pa k.length pc])) (hn : n = s.found.length + 1) (hg : w.grownBy w2 fv.ownBlock) (hat : fv.ownBlock = some g ∨ w.heap.size ≤ g) :
    Wlk w0 w4 N bw nb bi bl bo B (w2.setCell ⟨bw, 5, none⟩ (.slice (some ⟨g, 0, none⟩) n c)) sv (.slice (some ⟨g, 0, none⟩) n c) { s with found := s.found ++ [k] } := by
  have hlo : ∀ b, fv.ownBlock = some b → B ≤ b := fun b hb => (f1.lt b hb).1
  have hk : Keep (fun b => fv.ownBlock = some b) w w2 := (Keep.refl _ w).grown hg (fun k hk _ => hk)
  have far : ∀ {b : Nat} {o : Obj}, w.heap[b]? = some o → b < B → w2.heap[b]? = some o := fun {b o} hb hlt => heap_grown hb hg (fun e => by have := hlo b e.symm; omega)
  have k2 : Keep (fun b => b < nb ∨ w4.heap.size ≤ b) w4 w2 := h.K.grown hg (fun b hb _ => by right; have := hlo b hb; have := lie.l4; omega)
  have x2 : Ext w0 w2 := Below.grown h.X hg h.X.size (fun b hb => by have := hlo b hb; have := lie.l0; omega)
  have hW := heap_set (far h.W lie.lw) 5 (.slice (some ⟨g, 0, none⟩) n c)
  have hS : w2.ownsRow B 3 1 sv s.stk.length (iv (zl s.stk)) := own_keep h.S hk (fun q hq e => h.ne.elim (fun e2 => by rw [e2] at hq; cases hq) (fun e2 => e2 (by rw [e, hq])))
  have hgS : sv.ownBlock ≠ some g := fun e => by
    rcases hat with h1 | h1
    · rcases h.ne with h2 | h2
      · rw [h2] at e; cases e
      · exact h2 (by rw [h1, e])
    · have := (h.S.lt g e).2; omega
  have hlen : fs.length = s.found.length := by have := f1.1; omega
  have old : ∀ (a : Option Addr) (l : List Nat), IntIn w a (zl l) → (∀ g o, a = some ⟨g, o, none⟩ → B ≤ g ∧ g < w.heap.size ∧ sv.ownBlock ≠ some g ∧ fv.ownBlock ≠ some g) →
      IntIn (w2.setCell ⟨bw, 5, none⟩ (.slice (some ⟨g, 0, none⟩) n c)) a (zl l) ∧ ∀ q o, a = some ⟨q, o, none⟩ → B ≤ q ∧ q < (w2.setCell ⟨bw, 5, none⟩ (.slice (some ⟨g, 0, none⟩) n c)).heap.size ∧ sv.ownBlock ≠ some q ∧ (Value.slice (some ⟨g, 0, none⟩) n c).ownBlock ≠ some q := by
    intro a l h4 h5
    refine ⟨fun i hi => ?_, fun q o ha => ?_⟩
    · obtain ⟨q, o, ha, hc⟩ := h4 i hi
      obtain ⟨h6, h9, h7, h8⟩ := h5 q o ha
      have hc2 := hk.cell hc h8
      exact ⟨q, o, ha, (keep_set w2 bw 5 _).cell hc2 (by have := lie.lw; show ¬ q = bw; omega)⟩
    · obtain ⟨h6, h9, h7, h8⟩ := h5 q o ha
      refine ⟨h6, by have := hg.size; simp [World.setCell]; omega, h7, fun e => ?_⟩
      have e : g = q := by simpa [Value.ownBlock] using e
      subst e
      rcases hat with h1 | h1
      · exact h8 h1
      · omega
  refine ⟨?_, heap_other (far h.I lie.li) _ _ (fun e => lie.wi e.symm), heap_other (far h.L lie.ll) _ _ (fun e => lie.wl e.symm), heap_other (far h.O lie.lo') _ _ (fun e => lie.wo e.symm), own_set hS _ _ lie.lw, ?_, ?_, k2.setCell _ _ (.inl lie.aw), x2.setCell lie.gw _, by rw [size_set]; exact Nat.le_trans h.Z hg.size⟩
  · rw [hW]; rfl
  · refine ⟨fs ++ [.slice pa k.length pc], ?_, fun j hj => ?_⟩
    · have : (s.found ++ [k]).length = n := by rw [List.length_append, hn]; rfl
      show World.ownsRow _ _ _ _ _ (s.found ++ [k]).length _
      rw [this]; exact own_set f1' _ _ lie.lw
    · by_cases hlt : j < s.found.length
      · obtain ⟨a, d, h3, h4, h5⟩ := f2 j hlt
        have e : (s.found ++ [k])[j] = s.found[j] := List.getElem_append_left hlt
        refine ⟨a, d, ?_, ?_⟩
        · show (fs ++ [_])[j]? = some (.slice a (s.found ++ [k])[j].length d)
          rw [e, List.getElem?_append_left (by omega)]; exact h3
        · show IntIn _ a (zl (s.found ++ [k])[j]) ∧ _
          rw [e]; exact old a _ h4 h5
      · have hj2 : j < (s.found ++ [k]).length := hj
        rw [List.length_append, List.length_singleton] at hj2
        have hjn : j = s.found.length := by omega
        subst hjn
        have e : (s.found ++ [k])[s.found.length] = k := by rw [List.getElem_append_right (Nat.le_refl _)]; simp
        refine ⟨pa, pc, ?_, ?_⟩
        · show (fs ++ [_])[s.found.length]? = some (.slice pa (s.found ++ [k])[s.found.length].length pc)
          rw [e, ← hlen]; simp
        · show IntIn _ pa (zl (s.found ++ [k])[s.found.length]) ∧ _
          rw [e]; exact old pa _ hp hpa
  · exact .inr (fun e => hgS (by rw [e]; rfl))
end Go.Proofs.Ytjjcjoedgmfalaa.Tp
