/- Packed texts: NorPtL, NorFind, NorPorts, NorLabel -/
import Derived.Test.YtnancphlkbfglaaGreatDoorPn15
import Derived.Test.YtnancphlkbfglaaGreatDoorPn16
import Derived.Test.YtnancphlkbfglaaGreatDoorPn18
import Derived.Laws.IdiomStrings
set_option linter.unusedVariables false
set_option linter.unusedSimpArgs false
/- The attributes of nodes and edges: the program's label, the document's port and finished. -/
namespace Go.Proofs.YtnancphlkbfglaaGreatDoor.Nm
open Go.RowKit Go.Sort Go.Lib Go.Shelf Fx Lx Tr At

/-- A slice's value with its ports. -/
def PtL (w : World) (v : Value) (L : List Prt) : Prop := ∃ p c, v = .slice p L.length c ∧ PrtIn w p L ∧ L.length ≤ c ∧ c ≤ maxLen ∧ ∀ q, p = some q → ∃ cs, w.heap[q.block]? = some (.cells cs 132 (0, 0))
theorem PtL.ext {w w' : World} {v : Value} {L : List Prt} (h : PtL w v L) (x : Ext w w') : PtL w' v L := by
  obtain ⟨p, c, h1, h2, h3, h4, h5⟩ := h
  exact ⟨p, c, h1, h2.ext x, h3, h4, fun q e => by obtain ⟨cs, hc⟩ := h5 q e; exact ⟨cs, At.heap_ext hc x⟩⟩
theorem PtL.nil (w : World) : PtL w (.slice none 0 0) [] := ⟨none, 0, rfl, fun k hk => absurd hk (by simp), by simp, by unfold maxLen; omega, fun q e => by cases e⟩
theorem PtL.keep {w w' : World} {row : Option Nat} {t : Option TypeId} {v : Value} {L : List Prt} (h : PtL w v L) (hg : w.grownBy w' row) (ht : TyOf w row t) (hne : some 132 ≠ t) : PtL w' v L := by
  obtain ⟨p, c, h1, h2, h3, h4, h5⟩ := h
  refine ⟨p, c, h1, fun k hk => ?_, h3, h4, fun q e => ?_⟩
  · obtain ⟨g, o, ha, c0, c1⟩ := h2 k hk
    obtain ⟨cs, hb⟩ := h5 _ ha
    have hb' := blk_keep hb hg ht hne
    refine ⟨g, o, ha, ?_, ?_⟩
    · rw [Lib.cell_of_heap hb']; rw [Lib.cell_of_heap hb] at c0; exact c0
    · rw [Lib.cell_of_heap hb']; rw [Lib.cell_of_heap hb] at c1; exact c1
  · obtain ⟨cs, hb⟩ := h5 q e
    exact ⟨cs, blk_keep hb hg ht hne⟩
theorem own_ptL {w : World} {B : Nat} {v : Value} {L : List Prt} (h : w.ownsRow B 132 2 v L.length (prtsC L)) : PtL w v L := by
  obtain ⟨a, c, hv, hi⟩ := own_prts h
  rcases h.2 with ⟨h1, h2⟩ | ⟨g, cap, cur, h1, _, hg, h3, h4, _⟩
  · rw [hv] at h1
    injection h1 with e1 e2 e3
    subst e1; subst e3
    exact ⟨none, 0, hv, hi, by omega, by unfold maxLen; omega, fun q e => by cases e⟩
  · rw [hv] at h1
    injection h1 with e1 e2 e3
    subst e1; subst e3
    exact ⟨_, c, hv, hi, h3, h4, fun q e => by cases e; exact ⟨cur, hg⟩⟩
set_option maxHeartbeats 2000000 in
theorem lab_any (a : Option Addr) (L : List Atr) (cap : Nat) (o : ByteArray) (w : World) (h : AtrIn w a L) (hL : L.length ≤ 9223372036854775807) :
    Calls Tryz.prog 25 #[.slice a L.length cap, .string o] w fun e w' => e = .returned (.string (labelT L o)) ∧ Ext w w' := by
  have hg := get_any a L cap kLabel w h hL
  obtain ⟨V, hV⟩ : ∃ V, V = labelT L o := ⟨_, rfl⟩
  rw [← hV]
  unfold labelT at hV
  obtain ⟨⟨s, b⟩, hG⟩ : ∃ G, G = getT L kLabel := ⟨_, rfl⟩
  rw [← hG] at hg hV
  dsimp only at hg hV
  unfold kLabel at hg
  generalize L.length = N at hg ⊢
  have HG := Lib.hid hg; have HV := Lib.hid hV
  clear hg hV hG h
  cases b with
  | true =>
    have hr : Hid (V = s) := Lib.hid (by rw [HV.out, if_pos rfl])
    go_enter Tryz.func25, Tryz.ntmps25
    go_wp2_with (go_at_call 27; refine HG.out.mono ?_; rintro e w2 ⟨rfl, x2⟩)
    go_ret
    rw [hr.out]
    exact ⟨rfl, x2⟩
  | false =>
    have hr : Hid (V = o) := Lib.hid (by rw [HV.out, if_neg (by decide)])
    go_enter Tryz.func25, Tryz.ntmps25
    go_wp2_with (go_at_call 27; refine HG.out.mono ?_; rintro e w2 ⟨rfl, x2⟩)
    go_ret
    rw [hr.out]
    exact ⟨rfl, x2⟩
set_option maxHeartbeats 2000000 in
theorem portR_any (a : Option Addr) (L : List Prt) (cap : Nat) (n : ByteArray) (w : World) (h : PrtIn w a L) (hL : L.length ≤ 1000000) :
    Calls Tryz.prog 82 #[.slice a L.length cap, .string n] w fun e w' => e = .returned (.int .i64 (portT L n)) ∧ Ext w w' := by
  obtain ⟨N, hN⟩ : ∃ N, N = L.length := ⟨_, rfl⟩
  obtain ⟨V, hV⟩ : ∃ V, V = portT L n := ⟨_, rfl⟩
  rw [← hV]
  rw [← hN] at hL ⊢
  unfold portT at hV
  have hz := @size0 n
  have HN := Lib.hid hN; have HI := Lib.hid h; have HV := Lib.hid hV
  clear hN h hV
  by_cases h0 : n.size = 0
  · rw [decide_eq_true h0] at hz
    have hr : Hid (V = -1) := Lib.hid (by rw [HV.out, if_pos h0])
    clear h0
    go_enter Tryz.func82, Tryz.ntmps82
    go_wp2
    go_ret
    exact ⟨ret_i hr.out.symm, Ext.refl _⟩
  rw [decide_eq_false h0] at hz
  have H0 : Hid (V = portGo n ((0 : Nat) : Int) (L.drop 0)) := Lib.hid (by rw [HV.out, if_neg h0, List.drop_zero]; rfl)
  clear HV h0
  go_enter Tryz.func82, Tryz.ntmps82
  go_wp2_with fail
  go_loopw [5] (fun i' wr => ∃ k : Nat, k ≤ N ∧ i' = .int .i64 k ∧ Hid (V = portGo n (k : Int) (L.drop k)) ∧ Ext w wr) (fun i' _ => N - (RowKit.intOf i').toNat)
  case atStart => exact ⟨0, Nat.zero_le _, rfl, H0, Ext.refl _⟩
  case round =>
    clear H0
    obtain ⟨k, hk, rfl, hv, hx⟩ := hrel
    by_cases hlt : k < N
    · have hkl : k < L.length := by rw [← HN.out]; exact hlt
      obtain ⟨g, o, rfl, c0, -⟩ := (HI.out.ext hx) k hkl
      have hv1 := hv.out
      rw [List.drop_eq_getElem_cons hkl] at hv1
      unfold portGo at hv1
      obtain ⟨s, hs⟩ : ∃ s, s = L[k].1 := ⟨_, rfl⟩
      rw [← hs] at c0 hv1
      have HV := Lib.hid hv1
      have b0 : (0 : Int) ≤ (k : Int) := by omega
      have b1 : (k : Int) < (N : Int) := by omega
      clear hv hv1 hs
      by_cases he : s = n
      · have f1 : (s.toList == n.toList) = true := by rw [At.beqs]; exact decide_eq_true he
        have hr : Hid (V = (k : Int)) := Lib.hid (by rw [HV.out, if_pos he])
        clear he
        go_wp2
        go_ret
        exact ⟨ret_i hr.out.symm, hx⟩
      · have f1 : (s.toList == n.toList) = false := by rw [At.beqs]; exact decide_eq_false he
        have hr : Hid (V = portGo n ((k + 1 : Nat) : Int) (L.drop (k + 1))) := Lib.hid (by rw [HV.out, if_neg he]; rfl)
        clear he
        go_wp2
        go_roundw
        case rel => exact ⟨k + 1, by omega, by go_num, hr, hx⟩
        case measure => simp [RowKit.intOf]; omega
    · have hr : Hid (V = -2) := Lib.hid (by rw [hv.out, List.drop_eq_nil_of_le (by rw [← HN.out]; omega)]; rfl)
      clear hv
      go_wp2
      go_ret
      exact ⟨ret_i hr.out.symm, hx⟩
theorem node_cells (w : World) (T : TypeId) (c0 c1 c2 c3 c4 c5 : Value) : ∀ w1, Ext (w.alloc (.cells #[c0, c1, c2, c3, c4, c5] T)) w1 →
    w1.cell? ⟨w.heap.size, 0, none⟩ = some c0 ∧ w1.cell? ⟨w.heap.size, 1, none⟩ = some c1 ∧ w1.cell? ⟨w.heap.size, 2, none⟩ = some c2 ∧ w1.cell? ⟨w.heap.size, 3, none⟩ = some c3 ∧ w1.cell? ⟨w.heap.size, 4, none⟩ = some c4 ∧ w1.cell? ⟨w.heap.size, 5, none⟩ = some c5 := fun w1 x => by
  have hb := heap_alloc_new w (.cells #[c0, c1, c2, c3, c4, c5] T)
  refine ⟨x.cell ?_, x.cell ?_, x.cell ?_, x.cell ?_, x.cell ?_, x.cell ?_⟩ <;> rw [Lib.cell_of_heap hb] <;> rfl
theorem portsV_len (s : ByteArray) : (portsV s).1.length ≤ 8 := by
  unfold portsV
  split
  · simp
  · exact portsGo_len _ _ (by simp)
end Go.Proofs.YtnancphlkbfglaaGreatDoor.Nm

/- The program's Find of a graph: slices.IndexFunc at nodes with its closure. -/
namespace Go.Proofs.YtnancphlkbfglaaGreatDoor.Nm
open Go.RowKit Go.Sort Go.Lib Go.Shelf Fx Lx Tr At

theorem ret_bb {a b : Bool} (h : a = b) : Ending.returned (.bool a) = .returned (.bool b) := by rw [h]
set_option maxHeartbeats 4000000 in
theorem closF_any (n l x : ByteArray) (a b d : Int) (p : Value) (c : Addr) (w : World) (hc : w.cell? c = some (.string x)) :
    Calls Tryz.prog 146 #[.agg #[.string n, .string l, .int .i64 a, .int .i64 b, .int .i64 d, p], .pointer (some c)] w fun e w' => e = .returned (.bool (decide (n = x))) ∧ Ext w w' := by
  have hc' : ∀ o, (w.alloc o).cell? c = some (.string x) := fun o => ((Ext.refl w).alloc o).cell hc
  go_enter Tryz.func146, Tryz.ntmps146
  go_wp2
  go_ret
  exact ⟨ret_bb (At.beqs n x), (Ext.refl _).alloc _⟩
set_option maxHeartbeats 4000000 in
theorem idxF_any (a : Option Addr) (L : List Nd) (cap : Nat) (x : ByteArray) (c : Addr) (w : World) (h : NdIn w a L) (hc : w.cell? c = some (.string x)) (hL : L.length ≤ 4611686018427387904) :
    Calls Tryz.prog 145 #[.slice a L.length cap, .func (.func 146) #[] #[.pointer (some c)]] w fun e w' => e = .returned (.int .i64 (findT L x)) ∧ Ext w w' := by
  obtain ⟨N, hN⟩ : ∃ N, N = L.length := ⟨_, rfl⟩
  obtain ⟨V, hV⟩ : ∃ V, V = findT L x := ⟨_, rfl⟩
  rw [← hV]
  have HI := Lib.hid h
  rw [← hN] at hL ⊢
  have HN := Lib.hid hN
  have HC := Lib.hid hc
  have HV := Lib.hid hV
  clear h hN hc hV
  go_enter Tryz.func145, Tryz.ntmps145
  go_wp2_with fail
  go_loopw [8] (fun i' wr => ∃ k : Nat, k ≤ N ∧ i' = .int .i64 k ∧ Hid (∀ j (hj : j < L.length), j < k → L[j].name ≠ x) ∧ Ext w wr) (fun i' _ => N - (RowKit.intOf i').toNat)
  case atStart => exact ⟨0, by omega, rfl, Lib.hid (fun j _ h => absurd h (by omega)), Ext.refl _⟩
  case round =>
    obtain ⟨k, hk, rfl, hall, hx⟩ := hrel
    by_cases hlt : k < N
    · have hkl : k < L.length := by rw [← HN.out]; exact hlt
      obtain ⟨g, o, p, pc, rfl, c0, c1, c2, c3, c4, c5, -⟩ := (HI.out.ext hx) k hkl
      obtain ⟨n, hn⟩ : ∃ n, n = L[k].name := ⟨_, rfl⟩
      obtain ⟨n1, hn1⟩ : ∃ n, n = L[k].label := ⟨_, rfl⟩
      obtain ⟨n2, hn2⟩ : ∃ n, n = L[k].w := ⟨_, rfl⟩
      obtain ⟨n3, hn3⟩ : ∃ n, n = L[k].h := ⟨_, rfl⟩
      obtain ⟨n4, hn4⟩ : ∃ n, n = L[k].c := ⟨_, rfl⟩
      obtain ⟨n5, hn5⟩ : ∃ n, n = L[k].ports.length := ⟨_, rfl⟩
      rw [← hn] at c0; rw [← hn1] at c1; rw [← hn2] at c2; rw [← hn3] at c3; rw [← hn4] at c4; rw [← hn5] at c5
      have HNM := Lib.hid hn
      have b0 : (0 : Int) ≤ (k : Int) := by omega
      have b1 : (k : Int) < (N : Int) := by omega
      clear hn hn1 hn2 hn3 hn4 hn5
      by_cases heq : n = x
      · have hf : Hid (V = (k : Int)) := Lib.hid (by
          rw [HV.out]; unfold findT; rw [findGo_hit x L 0 k hkl hall.out (by rw [← HNM.out]; exact heq)]; omega)
        have HCL := Lib.hid (closF_any n n1 x n2 n3 n4 (.slice p n5 pc) c wr (hx.cell HC.out))
        rw [decide_eq_true heq] at HCL
        clear heq hall HNM
        go_wp2_with (go_at_call 146; refine HCL.out.mono ?_; rintro e w1 ⟨rfl, x1⟩)
        go_returns
        exact ⟨congrArg (fun z => Ending.returned (Value.int .i64 z)) hf.out.symm, hx.trans x1⟩
      · have hf : Hid (∀ j (hj : j < L.length), j < k + 1 → L[j].name ≠ x) := Lib.hid (fun j hj h => by
          by_cases e : j = k
          · subst e; rw [← HNM.out]; exact heq
          · exact hall.out j hj (by omega))
        have HCL := Lib.hid (closF_any n n1 x n2 n3 n4 (.slice p n5 pc) c wr (hx.cell HC.out))
        rw [decide_eq_false heq] at HCL
        clear heq hall HNM
        go_wp2_with (go_at_call 146; refine HCL.out.mono ?_; rintro e w1 ⟨rfl, x1⟩)
        go_roundw
        case rel => exact ⟨k + 1, by omega, by go_num, hf, hx.trans x1⟩
        case measure => simp [RowKit.intOf]; omega
    · have hf : Hid (V = -1) := Lib.hid (by
        rw [HV.out]; exact findGo_miss x L 0 (fun j hj => hall.out j hj (by rw [← HN.out] at hj; omega)))
      clear hall
      go_wp2
      go_returns
      exact ⟨congrArg (fun z => Ending.returned (Value.int .i64 z)) hf.out.symm, hx⟩
set_option maxHeartbeats 4000000 in
set_option maxRecDepth 100000 in
theorem find_any (g : Gr) (va : Value) (n : ByteArray) (w : World) (ha : GrIn w va g) (hN : g.N.length ≤ 4611686018427387904) :
    Calls Tryz.prog 113 #[va, .string n] w fun e w' => e = .returned (.int .i64 (findT g.N n)) ∧ Ext w w' := by
  obtain ⟨na, nac, ea, eac, ca, cac, rfl, a1, -, -⟩ := ha
  have H := fun (w1 : World) (c : Addr) (x : Ext w w1) (hc : w1.cell? c = some (.string n)) => idxF_any na g.N nac n c w1 (a1.ext x) hc hN
  obtain ⟨V, hV⟩ : ∃ V, V = findT g.N n := ⟨_, rfl⟩
  rw [← hV] at H ⊢
  obtain ⟨q, hq⟩ : ∃ n, n = g.N.length := ⟨_, rfl⟩
  obtain ⟨el, hel⟩ : ∃ n, n = g.E.length := ⟨_, rfl⟩
  obtain ⟨cl, hcl⟩ : ∃ n, n = g.C.length := ⟨_, rfl⟩
  rw [← hq] at H ⊢; rw [← hel, ← hcl]
  have H := Lib.hid H
  clear a1 hV hq hel hcl hN
  go_enter Tryz.func113, Tryz.ntmps113
  go_wp2_with (go_at_call 145; refine (H.out _ _ (((Ext.refl _).alloc _).alloc _) ?cc).mono ?_; rotate_left; rintro e w1 ⟨rfl, x1⟩)
  go_ret
  exact ⟨rfl, (((Ext.refl _).alloc _).alloc _).trans x1⟩
  all_goals
    have hb := heap_alloc_new (w.alloc (.cells #[.string g.name, .bool g.dir, .slice na q nac, .slice ea el eac, .slice ca cl cac] 31)) (.cells #[.string n] 9)
    rw [World.size_alloc] at hb
    rw [Lib.cell_of_heap hb]
    rfl
end Go.Proofs.YtnancphlkbfglaaGreatDoor.Nm

/- The program's ports of a graph. -/
namespace Go.Proofs.YtnancphlkbfglaaGreatDoor.Nm
open Go.RowKit Go.Sort Go.Lib Go.Shelf Fx Lx Tr At

set_option maxHeartbeats 4000000 in
theorem closG_any (n x : ByteArray) (d : Int) (c : Addr) (w : World) (hc : w.cell? c = some (.string x)) :
    Calls Tryz.prog 147 #[.agg #[.string n, .int .i64 d], .pointer (some c)] w fun e w' => e = .returned (.bool (decide (n = x))) ∧ Ext w w' := by
  have hc' : ∀ o, (w.alloc o).cell? c = some (.string x) := fun o => ((Ext.refl w).alloc o).cell hc
  go_enter Tryz.func147, Tryz.ntmps147
  go_wp2
  go_ret
  exact ⟨ret_bb (At.beqs n x), (Ext.refl _).alloc _⟩
set_option maxHeartbeats 4000000 in
theorem idxG_any (a : Option Addr) (L : List Prt) (cap : Nat) (x : ByteArray) (c : Addr) (w : World) (h : PrtIn w a L) (hc : w.cell? c = some (.string x)) (hL : L.length ≤ 9223372036854775807) :
    Calls Tryz.prog 68 #[.slice a L.length cap, .func (.func 147) #[] #[.pointer (some c)]] w fun e w' => (∃ r : Int, e = .returned (.int .i64 r) ∧ decide (0 ≤ r) = hasN L x) ∧ Ext w w' := by
  obtain ⟨N, hN⟩ : ∃ N, N = L.length := ⟨_, rfl⟩
  have HI := Lib.hid h
  rw [← hN] at hL ⊢
  have HN := Lib.hid hN
  have HC := Lib.hid hc
  clear h hN hc
  go_enter Tryz.func68, Tryz.ntmps68
  go_wp2_with fail
  go_loopw [8] (fun i' wr => ∃ k : Nat, k ≤ N ∧ i' = .int .i64 k ∧ Hid (∀ j (hj : j < L.length), j < k → L[j].1 ≠ x) ∧ Ext w wr) (fun i' _ => N - (RowKit.intOf i').toNat)
  case atStart => exact ⟨0, by omega, rfl, Lib.hid (fun j _ h => absurd h (by omega)), Ext.refl _⟩
  case round =>
    obtain ⟨k, hk, rfl, hall, hx⟩ := hrel
    by_cases hlt : k < N
    · have hkl : k < L.length := by rw [← HN.out]; exact hlt
      obtain ⟨g, o, rfl, c0, c1⟩ := (HI.out.ext hx) k hkl
      obtain ⟨n, hn⟩ : ∃ n, n = L[k].1 := ⟨_, rfl⟩
      obtain ⟨d, hd⟩ : ∃ d, d = L[k].2 := ⟨_, rfl⟩
      rw [← hn] at c0; rw [← hd] at c1
      have HNM := Lib.hid hn
      clear hn hd
      by_cases heq : n = x
      · have hf : Hid (hasN L x = true) := Lib.hid (by
          unfold hasN; rw [List.any_eq_true]; exact ⟨L[k], List.getElem_mem hkl, by rw [← HNM.out]; exact decide_eq_true heq⟩)
        have HCL := Lib.hid (closG_any n x d c wr (hx.cell HC.out))
        rw [decide_eq_true heq] at HCL
        clear heq hall HNM
        go_wp2_with (go_at_call 147; refine HCL.out.mono ?_; rintro e w1 ⟨rfl, x1⟩)
        go_returns
        exact ⟨⟨k, rfl, by rw [hf.out]; simp⟩, hx.trans x1⟩
      · have hf : Hid (∀ j (hj : j < L.length), j < k + 1 → L[j].1 ≠ x) := Lib.hid (fun j hj h => by
          by_cases e : j = k
          · subst e; rw [← HNM.out]; exact heq
          · exact hall.out j hj (by omega))
        have HCL := Lib.hid (closG_any n x d c wr (hx.cell HC.out))
        rw [decide_eq_false heq] at HCL
        clear heq hall HNM
        go_wp2_with (go_at_call 147; refine HCL.out.mono ?_; rintro e w1 ⟨rfl, x1⟩)
        go_roundw
        case rel => exact ⟨k + 1, by omega, by go_num, hf, hx.trans x1⟩
        case measure => simp [RowKit.intOf]; omega
    · have hf : Hid (hasN L x = false) := Lib.hid (by
        unfold hasN; rw [List.any_eq_false]; intro q hq
        obtain ⟨j, hj, rfl⟩ := List.getElem_of_mem hq
        simpa using hall.out j hj (by rw [← HN.out] at hj; omega))
      clear hall
      go_wp2
      go_returns
      exact ⟨⟨-1, rfl, by rw [hf.out]; decide⟩, hx⟩
set_option maxHeartbeats 4000000 in
theorem hasG_any (a : Option Addr) (L : List Prt) (cap : Nat) (x : ByteArray) (c : Addr) (w : World) (h : PrtIn w a L) (hc : w.cell? c = some (.string x)) (hL : L.length ≤ 9223372036854775807) :
    Calls Tryz.prog 66 #[.slice a L.length cap, .func (.func 147) #[] #[.pointer (some c)]] w fun e w' => e = .returned (.bool (hasN L x)) ∧ Ext w w' := by
  have H := Lib.hid (idxG_any a L cap x c w h hc hL)
  clear h hc hL
  go_enter Tryz.func66, Tryz.ntmps66
  go_wp2_with (go_at_call 68; refine H.out.mono ?_; rintro e w1 ⟨⟨r, rfl, hr⟩, x1⟩)
  go_ret
  exact ⟨rfl, x1⟩
theorem PrtIn.take {w : World} {a : Option Addr} {L : List Prt} (h : PrtIn w a L) (i : Nat) : PrtIn w a (L.take i) := fun k hk => by
  have hk' : k < L.length := by rw [List.length_take] at hk; omega
  obtain ⟨g, o, ha, c0, c1⟩ := h k hk'
  refine ⟨g, o, ha, ?_, ?_⟩
  · rw [List.getElem_take]; exact c0
  · rw [List.getElem_take]; exact c1
set_option maxHeartbeats 8000000 in
set_option maxRecDepth 100000 in
theorem portsE_any (a : Option Addr) (L : List Prt) (cap : Nat) (w : World) (h : PrtIn w a L) (hL : L.length ≤ 1000000) (hLc : L.length ≤ cap) (hcap : cap ≤ 9223372036854775807) (hs : ∀ q ∈ L, q.1.size ≤ 9223372036854775807) :
    Calls Tryz.prog 116 #[.slice a L.length cap] w fun e w' => e = .returned (.int .i64 (prtE L)) ∧ Ext w w' := by
  obtain ⟨n, hn⟩ : ∃ n, n = L.length := ⟨_, rfl⟩
  obtain ⟨V, hV⟩ : ∃ V, V = prtE L := ⟨_, rfl⟩
  rw [← hn] at hL hLc ⊢
  rw [← hV]
  unfold prtE at hV
  rw [← hn] at hV
  have HV := Lib.hid hV
  have HI := Lib.hid h; have HN := Lib.hid hn; have HS := Lib.hid hs
  clear h hn hV hs
  by_cases h8 : 8 < n
  · have g1 : decide ((8 : Int) < n) = true := decide_eq_true (by omega)
    have hr : Hid (V = 2) := Lib.hid (by rw [HV.out, if_pos h8])
    clear HV
    go_enter Tryz.func116, Tryz.ntmps116
    go_wp2
    go_ret
    exact ⟨ret_i hr.out.symm, Ext.refl _⟩
  have g1 : decide ((8 : Int) < n) = false := decide_eq_false (by omega)
  have H0 : Hid (V = prtGo (L.drop 0) (L.take 0)) := Lib.hid (by rw [List.drop_zero, List.take_zero, HV.out, if_neg h8])
  clear HV
  go_enter Tryz.func116, Tryz.ntmps116
  go_wp2
  generalize decide ((8 : Int) < (n : Int)) = dk
  go_loopw [10] (fun i' wr => ∃ i : Nat, i ≤ n ∧ i' = .int .i64 i ∧ Hid (V = prtGo (L.drop i) (L.take i)) ∧ Ext w wr) (fun i' _ => n - (RowKit.intOf i').toNat)
  case atStart => exact ⟨0, Nat.zero_le _, rfl, H0, Ext.refl _⟩
  case round =>
    clear H0
    obtain ⟨i, hi, rfl, hv, hx⟩ := hrel
    by_cases hlt : i < n
    · have hiL : i < L.length := by rw [← HN.out]; exact hlt
      have HHAS := fun (x : ByteArray) (c : Addr) (w5 : World) (y : Ext wr w5) (hc : w5.cell? c = some (.string x)) => hasG_any a (L.take i) cap x c w5 (PrtIn.take (HI.out.ext (hx.trans y)) i) hc (by rw [List.length_take]; omega)
      obtain ⟨g, o, rfl, c0, c1⟩ := (HI.out.ext hx) i hiL
      have hsz := HS.out _ (List.getElem_mem hiL)
      have hv1 := hv.out
      have htk : L.take (i + 1) = L.take i ++ [L[i]] := List.take_succ_eq_append_getElem hiL
      rw [List.drop_eq_getElem_cons hiL] at hv1
      unfold prtGo at hv1
      rw [← htk] at hv1
      obtain ⟨s, hse⟩ : ∃ s, s = L[i].1 := ⟨_, rfl⟩
      obtain ⟨z, hze⟩ : ∃ z, z = L[i].2 := ⟨_, rfl⟩
      rw [← hse] at c0 hsz hv1; rw [← hze] at c1 hv1
      have hnm := isName_any s hsz
      obtain ⟨nb, hnb⟩ : ∃ b, b = nameB s.data.toList := ⟨_, rfl⟩
      rw [← hnb] at hv1 hnm
      have hlt' : (L.take i).length = i := by rw [List.length_take]; omega
      rw [hlt'] at HHAS
      have HH1 := HHAS s
      obtain ⟨hb, hhb⟩ : ∃ b, b = hasN (L.take i) s := ⟨_, rfl⟩
      rw [← hhb] at HH1
      rw [show ((L.take i).any fun p => decide (p.1 = s)) = hb from hhb.symm] at hv1
      have HV1 := Lib.hid hv1; have HNM := Lib.hid hnm; have HH := Lib.hid HH1
      have b0 : (0 : Int) ≤ (i : Int) := by omega
      have b1 : (i : Int) < (n : Int) := by omega
      have b2 : (i : Int) ≤ (n : Int) := by omega
      have b3 : (i : Int) ≤ (cap : Int) := by omega
      clear hv hv1 htk hse hze hnm hnb HHAS HH1 hhb hlt'
      have y0 := fun ob => ((Ext.refl wr).alloc ob).cell c0
      have kc : ∀ (p q : Value), (wr.alloc (.cells #[.string s, q] 132)).cell? ⟨wr.heap.size, 0, none⟩ = some (.string s) := fun p q => by
        rw [Lib.cell_of_heap (heap_alloc_new wr _)]; rfl
      cases nb with
      | false =>
        have hr : Hid (V = 5) := Lib.hid (by rw [HV1.out]; rfl)
        clear HV1
        go_wp2_with (go_at_call 50; refine (HNM.out _).mono ?_; rintro e w2 ⟨rfl, rfl⟩)
        go_ret
        exact ⟨ret_i hr.out.symm, hx.alloc _⟩
      | true =>
        cases hb with
        | true =>
          have hr : Hid (V = 6) := Lib.hid (by rw [HV1.out]; rfl)
          clear HV1
          go_wp2_with (first
            | (go_at_call 50; refine (HNM.out _).mono ?_; rintro e w2 ⟨rfl, rfl⟩)
            | (go_at_call 66; refine (HH.out _ _ ((Ext.refl _).alloc _) (kc (.bool true) _)).mono ?_; rintro e w3 ⟨rfl, x3⟩; have d1 := (x3.cell (p := ⟨wr.heap.size, 1, none⟩) (v := .int .i64 z) (by rw [Lib.cell_of_heap (heap_alloc_new wr _)]; rfl))))
          go_ret
          exact ⟨ret_i hr.out.symm, (hx.alloc _).trans x3⟩
        | false =>
          have HV2 : Hid (V = if z < 0 ∨ 3 < z then 7 else prtGo (L.drop (i + 1)) (L.take (i + 1))) := Lib.hid (by
            have := HV1.out
            rw [if_neg (by decide), if_neg (by decide)] at this
            exact this)
          clear HV1
          by_cases hlo : z < 0
          · have d4 : decide (z < 0) = true := decide_eq_true hlo
            have hr : Hid (V = 7) := Lib.hid (by rw [HV2.out, if_pos (.inl hlo)])
            clear hlo
            go_wp2_with (first
              | (go_at_call 50; refine (HNM.out _).mono ?_; rintro e w2 ⟨rfl, rfl⟩)
              | (go_at_call 66; refine (HH.out _ _ ((Ext.refl _).alloc _) (kc (.bool true) _)).mono ?_; rintro e w3 ⟨rfl, x3⟩; have d1 := (x3.cell (p := ⟨wr.heap.size, 1, none⟩) (v := .int .i64 z) (by rw [Lib.cell_of_heap (heap_alloc_new wr _)]; rfl))))
            go_ret
            exact ⟨ret_i hr.out.symm, (hx.alloc _).trans x3⟩
          · have d4 : decide (z < 0) = false := decide_eq_false hlo
            by_cases hhi : 3 < z
            · have d5 : decide (3 < z) = true := decide_eq_true hhi
              have hr : Hid (V = 7) := Lib.hid (by rw [HV2.out, if_pos (.inr hhi)])
              clear hlo hhi
              go_wp2_with (first
                | (go_at_call 50; refine (HNM.out _).mono ?_; rintro e w2 ⟨rfl, rfl⟩)
                | (go_at_call 66; refine (HH.out _ _ ((Ext.refl _).alloc _) (kc (.bool true) _)).mono ?_; rintro e w3 ⟨rfl, x3⟩; have d1 := (x3.cell (p := ⟨wr.heap.size, 1, none⟩) (v := .int .i64 z) (by rw [Lib.cell_of_heap (heap_alloc_new wr _)]; rfl))))
              go_ret
              exact ⟨ret_i hr.out.symm, (hx.alloc _).trans x3⟩
            · have d5 : decide (3 < z) = false := decide_eq_false hhi
              have hr : Hid (V = prtGo (L.drop (i + 1)) (L.take (i + 1))) := Lib.hid (by rw [HV2.out, if_neg (fun h => h.elim hlo hhi)])
              clear hlo hhi
              go_wp2_with (first
                | (go_at_call 50; refine (HNM.out _).mono ?_; rintro e w2 ⟨rfl, rfl⟩)
                | (go_at_call 66; refine (HH.out _ _ ((Ext.refl _).alloc _) (kc (.bool true) _)).mono ?_; rintro e w3 ⟨rfl, x3⟩; have d1 := (x3.cell (p := ⟨wr.heap.size, 1, none⟩) (v := .int .i64 z) (by rw [Lib.cell_of_heap (heap_alloc_new wr _)]; rfl))))
              go_roundw
              case rel => exact ⟨i + 1, by omega, by go_num, hr, (hx.alloc _).trans x3⟩
              case measure => simp [RowKit.intOf]; omega
    · have hr : Hid (V = 0) := Lib.hid (by rw [hv.out, List.drop_eq_nil_of_le (by rw [← HN.out]; omega)]; rfl)
      clear hv
      go_wp2
      go_ret
      exact ⟨ret_i hr.out.symm, hx⟩
end Go.Proofs.YtnancphlkbfglaaGreatDoor.Nm

/- The program's label of a graph: the error of a label. -/
namespace Go.Proofs.YtnancphlkbfglaaGreatDoor.Nm
open Go.RowKit Go.Sort Go.Lib Go.Shelf Fx Lx Tr At

theorem bytesRow_at (s : ByteArray) (cap j : Nat) (h : j < s.size) : (bytesRow s cap)[j]? = some (Value.int .u8 s[j].toNat) := by
  unfold bytesRow
  have hj : j < s.data.size := h
  rw [Array.getElem?_append_left (by simpa using hj), Array.getElem?_map, Array.getElem?_eq_getElem hj]
  rfl
set_option maxHeartbeats 4000000 in
set_option maxRecDepth 100000 in
theorem label_any (d : ByteArray) (hd0 : d.size ≤ 4611686018427387904) (w : World) :
    Calls Tryz.prog 114 #[.string d] w fun e w' => e = .returned (.int .i64 (labE d)) ∧ Ext w w' := by
  obtain ⟨V, hV⟩ : ∃ V, V = labE d := ⟨_, rfl⟩
  rw [← hV]
  unfold labE at hV
  have HV := Lib.hid hV
  clear hV
  by_cases h32 : 32 < d.size
  · have g1 : decide ((32 : Int) < d.size) = true := decide_eq_true (by omega)
    have hr : Hid (V = 2) := Lib.hid (by rw [HV.out, if_pos h32])
    clear HV
    go_enter Tryz.func114, Tryz.ntmps114
    go_wp2
    go_ret
    exact ⟨ret_i hr.out.symm, Ext.refl _⟩
  have g1 : decide ((32 : Int) < d.size) = false := decide_eq_false (by omega)
  have HV1 : Hid (V = if (d.data.toList.drop 0).all Tr.okT = false then 7 else 0) := Lib.hid (by rw [HV.out, if_neg h32, List.drop_zero])
  clear HV
  have hsb := fun w s => run_bytes_of_string (P := Tryz.prog) w 9 182 5 s Tryz.underlying9 Tryz.underlying182 Tryz.underlying5
  go_enter Tryz.func114, Tryz.ntmps114
  go_wp2_with fail
  obtain ⟨w1, hw1⟩ : ∃ w1, w1 = (w.alloc (.cells (bytesRow d (grownCap w d.size 0 5)) 5 ((bytesRow d (grownCap w d.size 0 5)).size, (bytesRow d (grownCap w d.size 0 5)).size + 1))).drew := ⟨_, rfl⟩
  have hcell : Hid (∀ j (h : j < d.size), w1.cell? ⟨w.heap.size, j, none⟩ = some (.int .u8 d[j].toNat)) := Lib.hid (fun j h => by
    rw [hw1]
    refine ((Ext.refl _).drew).cell ?_
    rw [World.cell?_alloc_mark, bytesRow_at d _ j h])
  have XW : Hid (Ext w w1) := Lib.hid (by rw [hw1]; exact ((Ext.refl _).alloc _).drew)
  rw [← hw1]
  clear hw1 hsb
  go_loop [11] (fun m' => ∃ m : Nat, m ≤ d.size ∧ m' = .int .i64 m ∧ Hid (V = if (d.data.toList.drop m).all Tr.okT = false then 7 else 0)) (fun m' => d.size - (RowKit.intOf m').toNat)
  case atStart => exact ⟨0, by omega, rfl, HV1⟩
  case round =>
    obtain ⟨m, hm, rfl, hb⟩ := hrel
    clear HV1
    by_cases hjd : m < d.size
    · have hb' := hb.out
      have c0 := hcell.out m hjd
      have hd : d.data.toList.drop m = d[m] :: d.data.toList.drop (m + 1) := by
        rw [List.drop_eq_getElem_cons (by rw [← size_len]; exact hjd)]; rfl
      rw [hd, List.all_cons] at hb'
      have b0 : (0 : Int) ≤ (m : Int) := by omega
      have b1 : (m : Int) < (d.size : Int) := by omega
      clear hb hd
      by_cases k1 : 32 ≤ d[m].toNat
      · by_cases k2 : d[m].toNat ≤ 126
        · have hf : Hid (V = if (d.data.toList.drop (m + 1)).all Tr.okT = false then 7 else 0) := Lib.hid (by
            rw [hb']; unfold Tr.okT; rw [decide_eq_true k1, decide_eq_true k2]; rfl)
          have g2 : decide ((126 : Int) < d[m].toNat) = false := decide_eq_false (by omega)
          have g3 : decide ((d[m].toNat : Int) < 32) = false := decide_eq_false (by omega)
          clear hb'
          go_wp2
          go_round
          case rel => exact ⟨m + 1, by omega, by go_num, hf⟩
          case measure => simp [RowKit.intOf]; omega
        · have hf : Hid (V = 7) := Lib.hid (by
            rw [hb']; unfold Tr.okT; rw [decide_eq_false k2]; simp)
          have g2 : decide ((126 : Int) < d[m].toNat) = true := decide_eq_true (by omega)
          have g3 : decide ((d[m].toNat : Int) < 32) = false := decide_eq_false (by omega)
          clear hb'
          go_wp2
          go_ret
          exact ⟨ret_i hf.out.symm, XW.out⟩
      · have hf : Hid (V = 7) := Lib.hid (by
          rw [hb']; unfold Tr.okT; rw [decide_eq_false k1]; simp)
        have g3 : decide ((d[m].toNat : Int) < 32) = true := decide_eq_true (by omega)
        clear hb'
        go_wp2
        go_ret
        exact ⟨ret_i hf.out.symm, XW.out⟩
    · have hr : Hid (V = 0) := Lib.hid (by rw [hb.out, List.drop_eq_nil_of_le (by rw [← size_len]; omega)]; rfl)
      clear hb
      go_wp2
      go_ret
      exact ⟨ret_i hr.out.symm, XW.out⟩
end Go.Proofs.YtnancphlkbfglaaGreatDoor.Nm
