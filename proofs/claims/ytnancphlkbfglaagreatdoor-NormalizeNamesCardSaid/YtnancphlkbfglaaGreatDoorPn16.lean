/- Packed texts: NorSame, NorFindR, NorPlainR, NorPortsR -/
import Derived.Test.YtnancphlkbfglaaGreatDoorPn14
import Derived.BigQuiet
import Derived.Lib.Builder
import Derived.StillTailTactics
import Derived.Test.YtnancphlkbfglaaGreatDoorPn01
set_option linter.unusedVariables false
set_option linter.unusedSimpArgs false
/- The document's Same: true of equal graphs. -/
namespace Go.Proofs.YtnancphlkbfglaaGreatDoor.Nm
open Go.RowKit Go.Lib Fx Lx At

/-- Two boxes, read later. -/
theorem boxes {w w1 : World} {c d : Array Value} {T U : TypeId} (h : Ext ((w.alloc (.cells c T)).alloc (.cells d U)) w1) : (∀ j v, c[j]? = some v → w1.cell? ⟨w.heap.size, j, none⟩ = some v) ∧ (∀ j v, d[j]? = some v → w1.cell? ⟨w.heap.size + 1, j, none⟩ = some v) := by
  refine ⟨fun j v hv => h.cell (((Ext.refl _).alloc _).cell ?_), fun j v hv => h.cell ?_⟩
  · rw [Lib.cell_of_heap (heap_alloc_new w _)]; exact hv
  · have := heap_alloc_new (w.alloc (.cells c T)) (.cells d U)
    rw [World.size_alloc] at this
    rw [Lib.cell_of_heap this]; exact hv
set_option maxHeartbeats 4000000 in
set_option maxRecDepth 100000 in
theorem sameNode_true (nm lb : ByteArray) (x y c : Int) (P : List Prt) (pa pb : Option Addr) (ca cb : Nat) (w : World) (ha : PrtIn w pa P) (hb : PrtIn w pb P) (hl : P.length ≤ 4611686018427387904) :
    Calls Tryz.prog 34 #[.agg #[.string nm, .string lb, .int .i64 x, .int .i64 y, .int .i64 c, .slice pa P.length ca], .agg #[.string nm, .string lb, .int .i64 x, .int .i64 y, .int .i64 c, .slice pb P.length cb]] w fun e w' => e = .returned (.bool true) ∧ Ext w w' := by
  obtain ⟨n, hn⟩ : ∃ n, n = P.length := ⟨_, rfl⟩
  rw [← hn] at hl ⊢
  have HA := Lib.hid ha; have HB := Lib.hid hb; have HN := Lib.hid hn
  clear ha hb hn
  go_enter Tryz.func34, Tryz.ntmps34
  go_wp2
  obtain ⟨w1, hw1⟩ : ∃ w1, w1 = (w.alloc (.cells #[.string nm, .string lb, .int .i64 x, .int .i64 y, .int .i64 c, .slice pa n ca] 40)).alloc (.cells #[.string nm, .string lb, .int .i64 x, .int .i64 y, .int .i64 c, .slice pb n cb] 40) := ⟨_, rfl⟩
  have X1 : Hid (Ext ((w.alloc (.cells #[.string nm, .string lb, .int .i64 x, .int .i64 y, .int .i64 c, .slice pa n ca] 40)).alloc (.cells #[.string nm, .string lb, .int .i64 x, .int .i64 y, .int .i64 c, .slice pb n cb] 40)) w1) := Lib.hid (by rw [hw1]; exact Ext.refl _)
  have XW : Hid (Ext w w1) := Lib.hid ((((Ext.refl _).alloc _).alloc _).trans X1.out)
  rw [← hw1]
  clear hw1
  go_loopw [5] (fun i' wr => ∃ k : Nat, k ≤ n ∧ i' = .int .i64 k ∧ Ext w1 wr) (fun i' _ => n - (RowKit.intOf i').toNat)
  case atStart => exact ⟨0, Nat.zero_le _, rfl, Ext.refl _⟩
  case round =>
    obtain ⟨k, hk, rfl, hx⟩ := hrel
    obtain ⟨bA, bB⟩ := boxes (X1.out.trans hx)
    have e0 := bA 5 _ rfl
    have e1 := bB 5 _ rfl
    clear bA bB
    by_cases hlt : k < n
    · have hkP : k < P.length := by rw [← HN.out]; exact hlt
      obtain ⟨g, o, rfl, c0, c1⟩ := (HA.out.ext (XW.out.trans hx)) k hkP
      obtain ⟨g2, o2, rfl, d0, d1⟩ := (HB.out.ext (XW.out.trans hx)) k hkP
      obtain ⟨s, hs⟩ : ∃ s, s = P[k].1 := ⟨_, rfl⟩
      obtain ⟨z, hz⟩ : ∃ z, z = P[k].2 := ⟨_, rfl⟩
      rw [← hs] at c0 d0; rw [← hz] at c1 d1
      have b0 : (0 : Int) ≤ (k : Int) := by omega
      have b1 : (k : Int) < (n : Int) := by omega
      clear hs hz
      go_wp2_with fail
      go_quiet (fail)
      go_wp2
      go_roundw
      case rel => exact ⟨k + 1, by omega, by go_num, by first | exact hx.drewN _ | exact hx.drew⟩
      case measure => simp [RowKit.intOf]; omega
    · go_wp2
      go_ret
      exact ⟨rfl, XW.out.trans hx⟩
end Go.Proofs.YtnancphlkbfglaaGreatDoor.Nm

/- The document's Find, plain and depth of graphs. -/
namespace Go.Proofs.YtnancphlkbfglaaGreatDoor.Nm
open Go.RowKit Go.Lib Fx Lx At

def findGo (n : ByteArray) : Int → List Nd → Int
  | _, [] => -1
  | k, x :: r => if x.name = n then k else findGo n (k + 1) r
/-- The index of the first node with a name; -1 if there is none. -/
def findT (L : List Nd) (n : ByteArray) : Int := findGo n 0 L
theorem findGo_hit (n : ByteArray) : ∀ (L : List Nd) (b : Int) (k : Nat) (h : k < L.length), (∀ j (hj : j < L.length), j < k → L[j].name ≠ n) → L[k].name = n → findGo n b L = b + k
  | x :: r, b, 0, _, _, hx => by
    have hx : x.name = n := hx
    unfold findGo; rw [if_pos hx]; simp
  | x :: r, b, k + 1, h, hall, hx => by
    unfold findGo
    have h0 : x.name ≠ n := hall 0 (by simp) (by omega)
    rw [if_neg h0, findGo_hit n r (b + 1) k (by simpa using h) (fun j hj hjk => hall (j + 1) (by simpa using hj) (by omega)) (by simpa using hx)]
    omega
theorem findGo_miss (n : ByteArray) : ∀ (L : List Nd) (b : Int), (∀ j (hj : j < L.length), L[j].name ≠ n) → findGo n b L = -1
  | [], _, _ => rfl
  | x :: r, b, hall => by
    unfold findGo
    have h0 : x.name ≠ n := hall 0 (by simp)
    rw [if_neg h0, findGo_miss n r (b + 1) (fun j hj => hall (j + 1) (by simpa using hj))]
/-- One box, read later. -/
theorem box1 {w w1 : World} {c : Array Value} {T : TypeId} (h : Ext (w.alloc (.cells c T)) w1) : ∀ j v, c[j]? = some v → w1.cell? ⟨w.heap.size, j, none⟩ = some v := fun j v hv => h.cell (by rw [Lib.cell_of_heap (heap_alloc_new w _)]; exact hv)
set_option maxHeartbeats 4000000 in
set_option maxRecDepth 100000 in
theorem findR_any (g : Gr) (va : Value) (n : ByteArray) (w : World) (ha : GrIn w va g) (hN : g.N.length ≤ 4611686018427387904) :
    Calls Tryz.prog 85 #[va, .string n] w fun e w' => e = .returned (.int .i64 (findT g.N n)) ∧ Ext w w' := by
  obtain ⟨na, nac, ea, eac, ca, cac, rfl, a1, -, -⟩ := ha
  obtain ⟨nm, dir, NN, EE, CC⟩ := g
  dsimp only at *
  obtain ⟨q, hq⟩ : ∃ n, n = NN.length := ⟨_, rfl⟩
  obtain ⟨el, hel⟩ : ∃ n, n = EE.length := ⟨_, rfl⟩
  obtain ⟨cl, hcl⟩ : ∃ n, n = CC.length := ⟨_, rfl⟩
  rw [← hq] at hN ⊢; rw [← hel, ← hcl]
  have A1 := Lib.hid a1; have HQ := Lib.hid hq
  clear a1 hq hel hcl
  go_enter Tryz.func85, Tryz.ntmps85
  go_wp2
  obtain ⟨w1, hw1⟩ : ∃ w1, w1 = w.alloc (.cells #[.string nm, .bool dir, .slice na q nac, .slice ea el eac, .slice ca cl cac] 31) := ⟨_, rfl⟩
  have X1 : Hid (Ext (w.alloc (.cells #[.string nm, .bool dir, .slice na q nac, .slice ea el eac, .slice ca cl cac] 31)) w1) := Lib.hid (by rw [hw1]; exact Ext.refl _)
  have XW : Hid (Ext w w1) := Lib.hid (((Ext.refl _).alloc _).trans X1.out)
  rw [← hw1]
  clear hw1
  go_loopw [5] (fun i' wr => ∃ k : Nat, k ≤ q ∧ i' = .int .i64 k ∧ Hid (∀ j (hj : j < NN.length), j < k → NN[j].name ≠ n) ∧ Ext w1 wr) (fun i' _ => q - (RowKit.intOf i').toNat)
  case atStart => exact ⟨0, Nat.zero_le _, rfl, Lib.hid (fun j _ h => absurd h (by omega)), Ext.refl _⟩
  case round =>
    obtain ⟨k, hk, rfl, hall, hx⟩ := hrel
    have e0 := box1 (X1.out.trans hx) 2 _ rfl
    by_cases hlt : k < q
    · have hkN : k < NN.length := by rw [← HQ.out]; exact hlt
      obtain ⟨g1, o1, p1, c1, rfl, x0, x1, x2, x3, x4, x5, x6⟩ := (A1.out.ext (XW.out.trans hx)) k hkN
      obtain ⟨s, hs⟩ : ∃ s, s = NN[k].name := ⟨_, rfl⟩
      rw [← hs] at x0
      have HS := Lib.hid hs
      have b0 : (0 : Int) ≤ (k : Int) := by omega
      have b1 : (k : Int) < (q : Int) := by omega
      clear hs x1 x2 x3 x4 x5 x6
      by_cases heq : s = n
      · have f1 : (s.toList == n.toList) = true := by rw [beqs]; exact decide_eq_true heq
        have hr : Hid (findT NN n = (k : Int)) := Lib.hid (by
          unfold findT
          rw [findGo_hit n NN 0 k hkN hall.out (by rw [← HS.out]; exact heq)]; omega)
        clear heq hall HS
        go_wp2
        go_ret
        exact ⟨congrArg (fun z => Ending.returned (Value.int .i64 z)) hr.out.symm, XW.out.trans hx⟩
      · have f1 : (s.toList == n.toList) = false := by rw [beqs]; exact decide_eq_false heq
        have hf : Hid (∀ j (hj : j < NN.length), j < k + 1 → NN[j].name ≠ n) := Lib.hid (fun j hj h => by
          by_cases e : j = k
          · subst e; rw [← HS.out]; exact heq
          · exact hall.out j hj (by omega))
        clear heq hall HS
        go_wp2
        go_roundw
        case rel => exact ⟨k + 1, by omega, by go_num, hf, hx⟩
        case measure => simp [RowKit.intOf]; omega
    · have hr : Hid (findT NN n = -1) := Lib.hid (findGo_miss n NN 0 (fun j hj => hall.out j hj (by rw [← HQ.out] at hj; omega)))
      clear hall
      go_wp2
      go_ret
      exact ⟨congrArg (fun z => Ending.returned (Value.int .i64 z)) hr.out.symm, XW.out.trans hx⟩
end Go.Proofs.YtnancphlkbfglaaGreatDoor.Nm

/- The document's plain and the document's ports of a graph. -/
namespace Go.Proofs.YtnancphlkbfglaaGreatDoor.Nm
open Go.RowKit Go.Sort Go.Lib Go.Shelf Fx Lx Tr At

theorem ret_b {a b : Bool} (h : a = b) : Ending.returned (.bool a) = .returned (.bool b) := by rw [h]
theorem ret_i {a b : Int} (h : a = b) : Ending.returned (.int .i64 a) = .returned (.int .i64 b) := by rw [h]
set_option maxHeartbeats 4000000 in
set_option maxRecDepth 100000 in
theorem plainR_any (d : ByteArray) (hd0 : d.size ≤ 4611686018427387904) (w : World) :
    Calls Tryz.prog 86 #[.string d] w fun e w' => e = .returned (.bool (d.data.toList.all Tr.okT)) ∧ w' = w := by
  obtain ⟨q, hq'⟩ : ∃ q, q = d.data.toList.all Tr.okT := ⟨_, rfl⟩
  rw [← hq']
  have HQ : Hid (q = (d.data.toList.drop 0).all Tr.okT) := Lib.hid (by rw [List.drop_zero]; exact hq')
  clear hq'
  go_enter Tryz.func86, Tryz.ntmps86
  go_wp2
  go_loop [3] (fun m' => ∃ m : Nat, m ≤ d.size ∧ m' = .int .i64 m ∧ Hid (q = (d.data.toList.drop m).all Tr.okT)) (fun m' => d.size - (RowKit.intOf m').toNat)
  case atStart => exact ⟨0, by omega, rfl, HQ⟩
  case round =>
    obtain ⟨m, hm, rfl, hb⟩ := hrel
    clear HQ
    by_cases hjd : m < d.size
    · have hb' := hb.out
      have hd : d.data.toList.drop m = d[m] :: d.data.toList.drop (m + 1) := by
        rw [List.drop_eq_getElem_cons (by rw [← size_len]; exact hjd)]; rfl
      rw [hd, List.all_cons] at hb'
      clear hb hd
      by_cases k1 : 32 ≤ d[m].toNat
      · by_cases k2 : d[m].toNat ≤ 126
        · have hf : Hid (q = (d.data.toList.drop (m + 1)).all Tr.okT) := Lib.hid (by
            rw [hb']; unfold Tr.okT; rw [decide_eq_true k1, decide_eq_true k2]; rfl)
          have g2 : decide ((126 : Int) < d[m].toNat) = false := decide_eq_false (by omega)
          have g3 : decide ((d[m].toNat : Int) < 32) = false := decide_eq_false (by omega)
          clear hb'
          go_wp2
          go_round
          case rel => exact ⟨m + 1, by omega, by go_num, hf⟩
          case measure => simp [RowKit.intOf]; omega
        · have hf : Hid (q = false) := Lib.hid (by
            rw [hb']; unfold Tr.okT; rw [decide_eq_false k2]; simp)
          have g2 : decide ((126 : Int) < d[m].toNat) = true := decide_eq_true (by omega)
          have g3 : decide ((d[m].toNat : Int) < 32) = false := decide_eq_false (by omega)
          clear hb'
          go_wp2
          go_returns
          exact ⟨ret_b hf.out.symm, rfl⟩
      · have hf : Hid (q = false) := Lib.hid (by
          rw [hb']; unfold Tr.okT; rw [decide_eq_false k1]; simp)
        have g3 : decide ((d[m].toNat : Int) < 32) = true := decide_eq_true (by omega)
        clear hb'
        go_wp2
        go_returns
        exact ⟨ret_b hf.out.symm, rfl⟩
    · have hf : Hid (q = true) := Lib.hid (by
        rw [hb.out, List.drop_eq_nil_of_le (by rw [← size_len]; omega)]; rfl)
      clear hb
      go_wp2
      go_returns
      exact ⟨ret_b hf.out.symm, rfl⟩
end Go.Proofs.YtnancphlkbfglaaGreatDoor.Nm

/- The document's ports of a graph. -/
namespace Go.Proofs.YtnancphlkbfglaaGreatDoor.Nm
open Go.RowKit Go.Sort Go.Lib Go.Shelf Fx Lx Tr At

set_option maxHeartbeats 8000000 in
set_option maxRecDepth 100000 in
theorem portsER_any (a : Option Addr) (L : List Prt) (cap : Nat) (w : World) (h : PrtIn w a L) (hL : L.length ≤ 1000000) (hs : ∀ q ∈ L, q.1.size ≤ 9223372036854775807) :
    Calls Tryz.prog 87 #[.slice a L.length cap] w fun e w' => e = .returned (.int .i64 (prtGo L [])) ∧ Ext w w' := by
  obtain ⟨n, hn⟩ : ∃ n, n = L.length := ⟨_, rfl⟩
  obtain ⟨V, hV⟩ : ∃ V, V = prtGo L [] := ⟨_, rfl⟩
  rw [← hn] at hL ⊢
  rw [← hV]
  have H0 : Hid (V = prtGo (L.drop 0) (L.take 0)) := Lib.hid (by rw [List.drop_zero, List.take_zero]; exact hV)
  have HI := Lib.hid h; have HN := Lib.hid hn; have HS := Lib.hid hs
  clear h hn hV hs
  go_enter Tryz.func87, Tryz.ntmps87
  go_wp2
  go_loopw [3] (fun i' wr => ∃ i : Nat, i ≤ n ∧ i' = .int .i64 i ∧ Hid (V = prtGo (L.drop i) (L.take i)) ∧ Ext w wr) (fun i' _ => n - (RowKit.intOf i').toNat)
  case atStart => exact ⟨0, Nat.zero_le _, rfl, H0, Ext.refl _⟩
  case round =>
    clear H0
    obtain ⟨i, hi, rfl, hv, hx⟩ := hrel
    by_cases hlt : i < n
    · have hiL : i < L.length := by rw [← HN.out]; exact hlt
      obtain ⟨g, o, rfl, c0, c1⟩ := (HI.out.ext hx) i hiL
      have hsz := HS.out _ (List.getElem_mem hiL)
      have hv1 := hv.out
      have htk : L.take (i + 1) = L.take i ++ [L[i]] := List.take_succ_eq_append_getElem hiL
      rw [List.drop_eq_getElem_cons hiL] at hv1
      unfold prtGo at hv1
      rw [← htk] at hv1
      obtain ⟨s, hse⟩ : ∃ s, s = L[i].1 := ⟨_, rfl⟩
      obtain ⟨z, hze⟩ : ∃ z, z = L[i].2 := ⟨_, rfl⟩
      rw [← hse] at c0 hsz hv1; rw [← hze] at c1 hv1
      have HSE := Lib.hid hse; have HZE := Lib.hid hze
      have hnm := isNameR_any s hsz
      obtain ⟨nb, hnb⟩ : ∃ b, b = nameB s.data.toList := ⟨_, rfl⟩
      rw [← hnb] at hv1 hnm
      have HV1 := Lib.hid hv1; have HNM := Lib.hid hnm
      have b0 : (0 : Int) ≤ (i : Int) := by omega
      have b1 : (i : Int) < (n : Int) := by omega
      clear hv hv1 htk hse hze hnm hnb
      cases nb with
      | false =>
        have hr : Hid (V = 5) := Lib.hid (by rw [HV1.out]; rfl)
        go_wp2_with (go_at_call 35; refine (HNM.out _).mono ?_; rintro e w2 ⟨rfl, rfl⟩)
        go_ret
        exact ⟨ret_i hr.out.symm, hx⟩
      | true =>
        go_wp2_with (go_at_call 35; refine (HNM.out _).mono ?_; rintro e w2 ⟨rfl, rfl⟩)
        go_loopw [4] (fun k' wr => ∃ k : Nat, k ≤ i ∧ k' = .int .i64 k ∧ Hid (∀ j (hj : j < L.length), j < k → L[j].1 ≠ s) ∧ Ext w wr) (fun k' _ => i - (RowKit.intOf k').toNat)
        case atStart => exact ⟨0, Nat.zero_le _, rfl, Lib.hid (fun j _ h => absurd h (by omega)), hx⟩
        case round =>
          clear c0 c1 hx
          obtain ⟨k, hk, rfl, hall, hx⟩ := hrel
          obtain ⟨g3, o3, ha3, c0, c1⟩ := (HI.out.ext hx) i hiL
          cases ha3
          rw [show L[i].1 = s from HSE.out.symm] at c0
          obtain ⟨z2, hz2⟩ : ∃ z, z = L[i].2 := ⟨_, rfl⟩
          by_cases hlk : k < i
          · have hkL : k < L.length := by omega
            obtain ⟨g2, o2, ha, d0, d1⟩ := (HI.out.ext hx) k hkL
            cases ha
            obtain ⟨t, ht⟩ : ∃ t, t = L[k].1 := ⟨_, rfl⟩
            rw [← ht] at d0
            have HT := Lib.hid ht
            have b2 : (0 : Int) ≤ (k : Int) := by omega
            have b3 : (k : Int) < (n : Int) := by omega
            clear ht c1 d1
            by_cases heq : t = s
            · have f1 : (t.toList == s.toList) = true := by rw [beqs]; exact decide_eq_true heq
              have hany : ((L.take i).any fun p => decide (p.1 = s)) = true := by
                rw [List.any_eq_true]
                refine ⟨L[k], ?_, decide_eq_true (by rw [← HT.out]; exact heq)⟩
                rw [List.mem_take_iff_getElem]
                exact ⟨k, by omega, rfl⟩
              have hr : Hid (V = 6) := Lib.hid (by rw [HV1.out, hany]; rfl)
              clear heq hall hany HT
              go_wp2_with fail
              go_quiet (fail)
              go_wp2
              go_ret
              exact ⟨ret_i hr.out.symm, by first | exact hx.drewN _ | exact hx.drew⟩
            · have f1 : (t.toList == s.toList) = false := by rw [beqs]; exact decide_eq_false heq
              have hf : Hid (∀ j (hj : j < L.length), j < k + 1 → L[j].1 ≠ s) := Lib.hid (fun j hj h => by
                by_cases e : j = k
                · subst e; rw [← HT.out]; exact heq
                · exact hall.out j hj (by omega))
              clear heq hall HT
              go_wp2_with fail
              go_quiet (fail)
              go_wp2
              go_roundw
              case rel => exact ⟨k + 1, by omega, by go_num, hf, by first | exact hx.drewN _ | exact hx.drew⟩
              case measure => simp [RowKit.intOf]; omega
          · have hki : k = i := by omega
            have hany : ((L.take i).any fun p => decide (p.1 = s)) = false := by
              rw [List.any_eq_false]
              intro p hp
              rw [List.mem_take_iff_getElem] at hp
              obtain ⟨j, hj, rfl⟩ := hp
              have := hall.out j (by omega) (by omega)
              simpa using this
            have HV2 : Hid (V = if L[i].2 < 0 ∨ 3 < L[i].2 then 7 else prtGo (L.drop (i + 1)) (L.take (i + 1))) := Lib.hid (by
              have := HV1.out
              rw [hany, if_neg (by decide), if_neg (by decide), HZE.out] at this
              exact this)
            rw [← hz2] at c1 HV2
            clear hany hall hki hz2
            by_cases hlo : z2 < 0
            · have d4 : decide (z2 < 0) = true := decide_eq_true hlo
              have hr : Hid (V = 7) := Lib.hid (by rw [HV2.out, if_pos (.inl hlo)])
              clear hlo
              go_wp2
              go_ret
              exact ⟨ret_i hr.out.symm, hx⟩
            · have d4 : decide (z2 < 0) = false := decide_eq_false hlo
              by_cases hhi : 3 < z2
              · have d5 : decide (3 < z2) = true := decide_eq_true hhi
                have hr : Hid (V = 7) := Lib.hid (by rw [HV2.out, if_pos (.inr hhi)])
                clear hlo hhi
                go_wp2
                go_ret
                exact ⟨ret_i hr.out.symm, hx⟩
              · have d5 : decide (3 < z2) = false := decide_eq_false hhi
                have hr : Hid (V = prtGo (L.drop (i + 1)) (L.take (i + 1))) := Lib.hid (by rw [HV2.out, if_neg (fun h => h.elim hlo hhi)])
                clear hlo hhi
                go_wp2
                go_roundw
                case rel => exact ⟨i + 1, by omega, by go_num, hr, hx⟩
                case measure => simp [RowKit.intOf]; omega
    · have hr : Hid (V = 0) := Lib.hid (by rw [hv.out, List.drop_eq_nil_of_le (by rw [← HN.out]; omega)]; rfl)
      clear hv
      go_wp2
      go_ret
      exact ⟨ret_i hr.out.symm, hx⟩
end Go.Proofs.YtnancphlkbfglaaGreatDoor.Nm
