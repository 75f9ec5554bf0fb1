/- Packed texts: NorClR, NorValR, NorFind, NorPorts -/
import Derived.Test.YtjaeedbjknejdaaGreatDoorPr09
set_option linter.unusedVariables false
set_option linter.unusedSimpArgs false
set_option maxHeartbeats 16000000
set_option maxRecDepth 100000
namespace Go.Proofs.YtjaeedbjknejdaaGreatDoor.Nm
open Go.RowKit Go.Sort Go.Lib Go.Shelf Fx Lx Tr At
theorem find_ge {L : List Nd} {n : ByteArray} : (L.any fun p => decide (p.name = n)) = decide (0 <= findT L n) := by
  have key : ∀ (L : List Nd) (b : Int), 0 <= b -> (L.any fun p => decide (p.name = n)) = decide (0 <= findGo n b L) := by
    intro L
    induction L with
    | nil => intro b _; rfl
    | cons x L ih =>
      intro b hb
      unfold findGo
      rw [List.any_cons]
      by_cases h : x.name = n
      · rw [if_pos h, decide_eq_true h, decide_eq_true hb]; rfl
      · rw [if_neg h, decide_eq_false h, Bool.false_or, ih (b + 1) (by omega)]
  exact key L 0 (by omega)
end Go.Proofs.YtjaeedbjknejdaaGreatDoor.Nm

namespace Go.Proofs.YtjaeedbjknejdaaGreatDoor.Nm
open Go.RowKit Go.Sort Go.Lib Go.Shelf Fx Lx Tr At
def GrSm (g : Gr) : Prop := g.name.size <= 4611686018427387904 /\ g.N.length <= 1000000000 /\ g.E.length <= 1000000000 /\ g.C.length <= 1000000000 /\
  (∀ x ∈ g.N, x.name.size <= 4611686018427387904 /\ x.label.size <= 4611686018427387904 /\ x.ports.length <= 1000000000 /\ ∀ q ∈ x.ports, q.1.size <= 9223372036854775807) /\
  (∀ x ∈ g.C, x.1.size <= 4611686018427387904) /\ (∀ x ∈ g.E, x.label.size <= 4611686018427387904)
theorem cl_parent {N : List Nd} {C : List (ByteArray × Int)} {i : Nat} {x : ByteArray × Int} (h : clE N C i x = 0) : x.2 < i /\ -1 <= x.2 := by
  unfold clE at h
  split at h
  · exact absurd h (by decide)
  split at h
  · exact absurd h (by decide)
  split at h
  · exact absurd h (by decide)
  rename_i h1; omega
end Go.Proofs.YtjaeedbjknejdaaGreatDoor.Nm

namespace Go.Proofs.YtjaeedbjknejdaaGreatDoor.Nm
open Go.RowKit Go.Sort Go.Lib Go.Shelf Fx Lx Tr At
theorem ret_bb {a b : Bool} (h : a = b) : Ending.returned (.bool a) = .returned (.bool b) := by rw [h]
theorem closF_any (n l x : ByteArray) (a b d : Int) (p : Value) (c : Addr) (w : World) (hc : w.cell? c = some (.string x)) :
    Calls Tryz.prog 178 #[.agg #[.string n, .string l, .int .i64 a, .int .i64 b, .int .i64 d, p], .pointer (some c)] w fun e w' => e = .returned (.bool (decide (n = x))) /\ Ext w w' := by
  have hc' : ∀ o, (w.alloc o).cell? c = some (.string x) := fun o => ((Ext.refl w).alloc o).cell hc
  go_enter Tryz.func178, Tryz.ntmps178
  go_wp2
  go_ret
  exact ⟨ret_bb (At.beqs n x), (Ext.refl _).alloc _⟩
theorem idxF_any (a : Option Addr) (L : List Nd) (cap : Nat) (x : ByteArray) (c : Addr) (w : World) (h : NdIn w a L) (hc : w.cell? c = some (.string x)) (hL : L.length <= 4611686018427387904) :
    Calls Tryz.prog 177 #[.slice a L.length cap, .func (.func 178) #[] #[.pointer (some c)]] w fun e w' => e = .returned (.int .i64 (findT L x)) /\ Ext w w' := by
  obtain ⟨N, hN⟩ : ∃ N, N = L.length := ⟨_, rfl⟩
  obtain ⟨V, hV⟩ : ∃ V, V = findT L x := ⟨_, rfl⟩
  rw [<- hV]
  have HI := Lib.hid h
  rw [<- hN] at hL ⊢
  have HN := Lib.hid hN
  have HC := Lib.hid hc
  have HV := Lib.hid hV
  clear h hN hc hV
  go_enter Tryz.func177, Tryz.ntmps177
  go_wp2_with fail
  go_loopw [8] (fun i' wr => ∃ k : Nat, k <= N /\ i' = .int .i64 k /\ Hid (∀ j (hj : j < L.length), j < k -> L[j].name ≠ x) /\ Ext w wr) (fun i' _ => N - (RowKit.intOf i').toNat)
  case atStart => exact ⟨0, by omega, rfl, Lib.hid (fun j _ h => absurd h (by omega)), Ext.refl _⟩
  obtain ⟨k, hk, rfl, hall, hx⟩ := hrel
  by_cases hlt : k < N
  · have hkl : k < L.length := by rw [<- HN.out]; exact hlt
    obtain ⟨g, o, p, pc, rfl, c0, c1, c2, c3, c4, c5, -⟩ := (HI.out.ext hx) k hkl
    obtain ⟨n, hn⟩ : ∃ n, n = L[k].name := ⟨_, rfl⟩
    obtain ⟨n1, hn1⟩ : ∃ n, n = L[k].label := ⟨_, rfl⟩
    obtain ⟨n2, hn2⟩ : ∃ n, n = L[k].w := ⟨_, rfl⟩
    obtain ⟨n3, hn3⟩ : ∃ n, n = L[k].h := ⟨_, rfl⟩
    obtain ⟨n4, hn4⟩ : ∃ n, n = L[k].c := ⟨_, rfl⟩
    obtain ⟨n5, hn5⟩ : ∃ n, n = L[k].ports.length := ⟨_, rfl⟩
    rw [<- hn] at c0; rw [<- hn1] at c1; rw [<- hn2] at c2; rw [<- hn3] at c3; rw [<- hn4] at c4; rw [<- hn5] at c5
    have HNM := Lib.hid hn
    have b0 : (0 : Int) <= (k : Int) := by omega
    have b1 : (k : Int) < (N : Int) := by omega
    clear hn hn1 hn2 hn3 hn4 hn5
    by_cases heq : n = x
    · have hf : Hid (V = (k : Int)) := Lib.hid (by
        rw [HV.out]; unfold findT; rw [findGo_hit x L 0 k hkl hall.out (by rw [<- HNM.out]; exact heq)]; omega)
      have HCL := Lib.hid (closF_any n n1 x n2 n3 n4 (.slice p n5 pc) c wr (hx.cell HC.out))
      rw [decide_eq_true heq] at HCL
      clear heq hall HNM
      go_wp2_with (go_at_call 178; refine HCL.out.mono ?_; rintro e w1 ⟨rfl, x1⟩)
      go_returns
      exact ⟨congrArg (fun z => Ending.returned (Value.int .i64 z)) hf.out.symm, hx.trans x1⟩
    have hf : Hid (∀ j (hj : j < L.length), j < k + 1 -> L[j].name ≠ x) := Lib.hid (fun j hj h => by
      by_cases e : j = k
      · subst e; rw [<- HNM.out]; exact heq
      exact hall.out j hj (by omega))
    have HCL := Lib.hid (closF_any n n1 x n2 n3 n4 (.slice p n5 pc) c wr (hx.cell HC.out))
    rw [decide_eq_false heq] at HCL
    clear heq hall HNM
    go_wp2_with (go_at_call 178; refine HCL.out.mono ?_; rintro e w1 ⟨rfl, x1⟩)
    go_roundw
    case rel => exact ⟨k + 1, by omega, by go_num, hf, hx.trans x1⟩
    case measure => simp [RowKit.intOf]; omega
  have hf : Hid (V = -1) := Lib.hid (by
    rw [HV.out]; exact findGo_miss x L 0 (fun j hj => hall.out j hj (by rw [<- HN.out] at hj; omega)))
  clear hall
  go_wp2
  go_returns
  exact ⟨congrArg (fun z => Ending.returned (Value.int .i64 z)) hf.out.symm, hx⟩
theorem find_any (g : Gr) (va : Value) (n : ByteArray) (w : World) (ha : GrIn w va g) (hN : g.N.length <= 4611686018427387904) :
    Calls Tryz.prog 120 #[va, .string n] w fun e w' => e = .returned (.int .i64 (findT g.N n)) /\ Ext w w' := by
  obtain ⟨na, nac, ea, eac, ca, cac, rfl, a1, -, -⟩ := ha
  have H := fun (w1 : World) (c : Addr) (x : Ext w w1) (hc : w1.cell? c = some (.string n)) => idxF_any na g.N nac n c w1 (a1.ext x) hc hN
  obtain ⟨V, hV⟩ : ∃ V, V = findT g.N n := ⟨_, rfl⟩
  rw [<- hV] at H ⊢
  obtain ⟨q, hq⟩ : ∃ n, n = g.N.length := ⟨_, rfl⟩
  obtain ⟨el, hel⟩ : ∃ n, n = g.E.length := ⟨_, rfl⟩
  obtain ⟨cl, hcl⟩ : ∃ n, n = g.C.length := ⟨_, rfl⟩
  rw [<- hq] at H ⊢; rw [<- hel, <- hcl]
  have H := Lib.hid H
  clear a1 hV hq hel hcl hN
  go_enter Tryz.func120, Tryz.ntmps120
  go_wp2_with (go_at_call 177; refine (H.out _ _ (((Ext.refl _).alloc _).alloc _) ?cc).mono ?_; rotate_left; rintro e w1 ⟨rfl, x1⟩)
  go_ret
  exact ⟨rfl, (((Ext.refl _).alloc _).alloc _).trans x1⟩
  all_goals
    have hb := heap_alloc_new (w.alloc (.cells #[.string g.name, .bool g.dir, .slice na q nac, .slice ea el eac, .slice ca cl cac] 26)) (.cells #[.string n] 9)
    rw [World.size_alloc] at hb
    rw [Lib.cell_of_heap hb]
    rfl
end Go.Proofs.YtjaeedbjknejdaaGreatDoor.Nm

namespace Go.Proofs.YtjaeedbjknejdaaGreatDoor.Nm
open Go.RowKit Go.Sort Go.Lib Go.Shelf Fx Lx Tr At
theorem closG_any (n x : ByteArray) (d : Int) (c : Addr) (w : World) (hc : w.cell? c = some (.string x)) :
    Calls Tryz.prog 179 #[.agg #[.string n, .int .i64 d], .pointer (some c)] w fun e w' => e = .returned (.bool (decide (n = x))) /\ Ext w w' := by
  have hc' : ∀ o, (w.alloc o).cell? c = some (.string x) := fun o => ((Ext.refl w).alloc o).cell hc
  go_enter Tryz.func179, Tryz.ntmps179
  go_wp2
  go_ret
  exact ⟨ret_bb (At.beqs n x), (Ext.refl _).alloc _⟩
theorem idxG_any (a : Option Addr) (L : List Prt) (cap : Nat) (x : ByteArray) (c : Addr) (w : World) (h : PrtIn w a L) (hc : w.cell? c = some (.string x)) (hL : L.length <= 9223372036854775807) :
    Calls Tryz.prog 116 #[.slice a L.length cap, .func (.func 179) #[] #[.pointer (some c)]] w fun e w' => (∃ r : Int, e = .returned (.int .i64 r) /\ decide (0 <= r) = hasN L x) /\ Ext w w' := by
  obtain ⟨N, hN⟩ : ∃ N, N = L.length := ⟨_, rfl⟩
  have HI := Lib.hid h
  rw [<- hN] at hL ⊢
  have HN := Lib.hid hN
  have HC := Lib.hid hc
  clear h hN hc
  go_enter Tryz.func116, Tryz.ntmps116
  go_wp2_with fail
  go_loopw [8] (fun i' wr => ∃ k : Nat, k <= N /\ i' = .int .i64 k /\ Hid (∀ j (hj : j < L.length), j < k -> L[j].1 ≠ x) /\ Ext w wr) (fun i' _ => N - (RowKit.intOf i').toNat)
  case atStart => exact ⟨0, by omega, rfl, Lib.hid (fun j _ h => absurd h (by omega)), Ext.refl _⟩
  obtain ⟨k, hk, rfl, hall, hx⟩ := hrel
  by_cases hlt : k < N
  · have hkl : k < L.length := by rw [<- HN.out]; exact hlt
    obtain ⟨g, o, rfl, c0, c1⟩ := (HI.out.ext hx) k hkl
    obtain ⟨n, hn⟩ : ∃ n, n = L[k].1 := ⟨_, rfl⟩
    obtain ⟨d, hd⟩ : ∃ d, d = L[k].2 := ⟨_, rfl⟩
    rw [<- hn] at c0; rw [<- hd] at c1
    have HNM := Lib.hid hn
    clear hn hd
    by_cases heq : n = x
    · have hf : Hid (hasN L x = true) := Lib.hid (by
        unfold hasN; rw [List.any_eq_true]; exact ⟨L[k], List.getElem_mem hkl, by rw [<- HNM.out]; exact decide_eq_true heq⟩)
      have HCL := Lib.hid (closG_any n x d c wr (hx.cell HC.out))
      rw [decide_eq_true heq] at HCL
      clear heq hall HNM
      go_wp2_with (go_at_call 179; refine HCL.out.mono ?_; rintro e w1 ⟨rfl, x1⟩)
      go_returns
      exact ⟨⟨k, rfl, by rw [hf.out]; simp⟩, hx.trans x1⟩
    have hf : Hid (∀ j (hj : j < L.length), j < k + 1 -> L[j].1 ≠ x) := Lib.hid (fun j hj h => by
      by_cases e : j = k
      · subst e; rw [<- HNM.out]; exact heq
      exact hall.out j hj (by omega))
    have HCL := Lib.hid (closG_any n x d c wr (hx.cell HC.out))
    rw [decide_eq_false heq] at HCL
    clear heq hall HNM
    go_wp2_with (go_at_call 179; refine HCL.out.mono ?_; rintro e w1 ⟨rfl, x1⟩)
    go_roundw
    case rel => exact ⟨k + 1, by omega, by go_num, hf, hx.trans x1⟩
    case measure => simp [RowKit.intOf]; omega
  have hf : Hid (hasN L x = false) := Lib.hid (by
    unfold hasN; rw [List.any_eq_false]; intro q hq
    obtain ⟨j, hj, rfl⟩ := List.getElem_of_mem hq
    simpa using hall.out j hj (by rw [<- HN.out] at hj; omega))
  clear hall
  go_wp2
  go_returns
  exact ⟨⟨-1, rfl, by rw [hf.out]; decide⟩, hx⟩
theorem hasG_any (a : Option Addr) (L : List Prt) (cap : Nat) (x : ByteArray) (c : Addr) (w : World) (h : PrtIn w a L) (hc : w.cell? c = some (.string x)) (hL : L.length <= 9223372036854775807) :
    Calls Tryz.prog 114 #[.slice a L.length cap, .func (.func 179) #[] #[.pointer (some c)]] w fun e w' => e = .returned (.bool (hasN L x)) /\ Ext w w' := by
  have H := Lib.hid (idxG_any a L cap x c w h hc hL)
  clear h hc hL
  go_enter Tryz.func114, Tryz.ntmps114
  go_wp2_with (go_at_call 116; refine H.out.mono ?_; rintro e w1 ⟨⟨r, rfl, hr⟩, x1⟩)
  go_ret
  exact ⟨rfl, x1⟩
theorem PrtIn.take {w : World} {a : Option Addr} {L : List Prt} (h : PrtIn w a L) (i : Nat) : PrtIn w a (L.take i) := fun k hk => by
  have hk' : k < L.length := by rw [List.length_take] at hk; omega
  obtain ⟨g, o, ha, c0, c1⟩ := h k hk'
  refine ⟨g, o, ha, ?_, ?_⟩
  · rw [List.getElem_take]; exact c0
  rw [List.getElem_take]; exact c1
theorem portsE_any (a : Option Addr) (L : List Prt) (cap : Nat) (w : World) (h : PrtIn w a L) (hL : L.length <= 1000000000) (hLc : L.length <= cap) (hcap : cap <= 9223372036854775807) (hs : ∀ q ∈ L, q.1.size <= 9223372036854775807) :
    Calls Tryz.prog 123 #[.slice a L.length cap] w fun e w' => e = .returned (.int .i64 (prtE L)) /\ Ext w w' := by
  obtain ⟨n, hn⟩ : ∃ n, n = L.length := ⟨_, rfl⟩
  obtain ⟨V, hV⟩ : ∃ V, V = prtE L := ⟨_, rfl⟩
  rw [<- hn] at hL hLc ⊢
  rw [<- hV]
  unfold prtE at hV
  rw [<- hn] at hV
  have HV := Lib.hid hV
  have HI := Lib.hid h; have HN := Lib.hid hn; have HS := Lib.hid hs
  clear h hn hV hs
  by_cases h8 : 8 < n
  · have g1 : decide ((8 : Int) < n) = true := decide_eq_true (by omega)
    have hr : Hid (V = 2) := Lib.hid (by rw [HV.out, if_pos h8])
    clear HV
    go_enter Tryz.func123, Tryz.ntmps123
    go_wp2
    go_ret
    exact ⟨ret_i hr.out.symm, Ext.refl _⟩
  have g1 : decide ((8 : Int) < n) = false := decide_eq_false (by omega)
  have H0 : Hid (V = prtGo (L.drop 0) (L.take 0)) := Lib.hid (by rw [List.drop_zero, List.take_zero, HV.out, if_neg h8])
  clear HV
  go_enter Tryz.func123, Tryz.ntmps123
  go_wp2
  generalize decide ((8 : Int) < (n : Int)) = dk
  go_loopw [10] (fun i' wr => ∃ i : Nat, i <= n /\ i' = .int .i64 i /\ Hid (V = prtGo (L.drop i) (L.take i)) /\ Ext w wr) (fun i' _ => n - (RowKit.intOf i').toNat)
  case atStart => exact ⟨0, Nat.zero_le _, rfl, H0, Ext.refl _⟩
  clear H0
  obtain ⟨i, hi, rfl, hv, hx⟩ := hrel
  by_cases hlt : i < n
  · have hiL : i < L.length := by rw [<- HN.out]; exact hlt
    have HHAS := fun (x : ByteArray) (c : Addr) (w5 : World) (y : Ext wr w5) (hc : w5.cell? c = some (.string x)) => hasG_any a (L.take i) cap x c w5 (PrtIn.take (HI.out.ext (hx.trans y)) i) hc (by rw [List.length_take]; omega)
    obtain ⟨g, o, rfl, c0, c1⟩ := (HI.out.ext hx) i hiL
    have hsz := HS.out _ (List.getElem_mem hiL)
    have hv1 := hv.out
    have htk : L.take (i + 1) = L.take i ++ [L[i]] := List.take_succ_eq_append_getElem hiL
    rw [List.drop_eq_getElem_cons hiL] at hv1
    unfold prtGo at hv1
    rw [<- htk] at hv1
    obtain ⟨s, hse⟩ : ∃ s, s = L[i].1 := ⟨_, rfl⟩
    obtain ⟨z, hze⟩ : ∃ z, z = L[i].2 := ⟨_, rfl⟩
    rw [<- hse] at c0 hsz hv1; rw [<- hze] at c1 hv1
    have hnm := isName_any s hsz
    obtain ⟨nb, hnb⟩ : ∃ b, b = nameB s.data.toList := ⟨_, rfl⟩
    rw [<- hnb] at hv1 hnm
    have hlt' : (L.take i).length = i := by rw [List.length_take]; omega
    rw [hlt'] at HHAS
    have HH1 := HHAS s
    obtain ⟨hb, hhb⟩ : ∃ b, b = hasN (L.take i) s := ⟨_, rfl⟩
    rw [<- hhb] at HH1
    rw [show ((L.take i).any fun p => decide (p.1 = s)) = hb from hhb.symm] at hv1
    have HV1 := Lib.hid hv1; have HNM := Lib.hid hnm; have HH := Lib.hid HH1
    have b0 : (0 : Int) <= (i : Int) := by omega
    have b1 : (i : Int) < (n : Int) := by omega
    have b2 : (i : Int) <= (n : Int) := by omega
    have b3 : (i : Int) <= (cap : Int) := by omega
    clear hv hv1 htk hse hze hnm hnb HHAS HH1 hhb hlt'
    have y0 := fun ob => ((Ext.refl wr).alloc ob).cell c0
    have kc : ∀ (p q : Value), (wr.alloc (.cells #[.string s, q] 167)).cell? ⟨wr.heap.size, 0, none⟩ = some (.string s) := fun p q => by
      rw [Lib.cell_of_heap (heap_alloc_new wr _)]; rfl
    cases nb with
    | false =>
      have hr : Hid (V = 5) := Lib.hid (by rw [HV1.out]; rfl)
      clear HV1
      go_wp2_with (go_at_call 58; refine (HNM.out _).mono ?_; rintro e w2 ⟨rfl, rfl⟩)
      go_ret
      exact ⟨ret_i hr.out.symm, hx.alloc _⟩
    | true =>
      cases hb with
      | true =>
        have hr : Hid (V = 6) := Lib.hid (by rw [HV1.out]; rfl)
        clear HV1
        go_wp2_with (first
          | (go_at_call 58; refine (HNM.out _).mono ?_; rintro e w2 ⟨rfl, rfl⟩)
          | (go_at_call 114; refine (HH.out _ _ ((Ext.refl _).alloc _) (kc (.bool true) _)).mono ?_; rintro e w3 ⟨rfl, x3⟩; have d1 := (x3.cell (p := ⟨wr.heap.size, 1, none⟩) (v := .int .i64 z) (by rw [Lib.cell_of_heap (heap_alloc_new wr _)]; rfl))))
        go_ret
        exact ⟨ret_i hr.out.symm, (hx.alloc _).trans x3⟩
      | false =>
        have HV2 : Hid (V = if z < 0 \/ 3 < z then 7 else prtGo (L.drop (i + 1)) (L.take (i + 1))) := Lib.hid (by
          have := HV1.out
          rw [if_neg (by decide), if_neg (by decide)] at this
          exact this)
        clear HV1
        by_cases hlo : z < 0
        · have d4 : decide (z < 0) = true := decide_eq_true hlo
          have hr : Hid (V = 7) := Lib.hid (by rw [HV2.out, if_pos (.inl hlo)])
          clear hlo
          go_wp2_with (first
            | (go_at_call 58; refine (HNM.out _).mono ?_; rintro e w2 ⟨rfl, rfl⟩)
            | (go_at_call 114; refine (HH.out _ _ ((Ext.refl _).alloc _) (kc (.bool true) _)).mono ?_; rintro e w3 ⟨rfl, x3⟩; have d1 := (x3.cell (p := ⟨wr.heap.size, 1, none⟩) (v := .int .i64 z) (by rw [Lib.cell_of_heap (heap_alloc_new wr _)]; rfl))))
          go_ret
          exact ⟨ret_i hr.out.symm, (hx.alloc _).trans x3⟩
        · have d4 : decide (z < 0) = false := decide_eq_false hlo
          by_cases hhi : 3 < z
          · have d5 : decide (3 < z) = true := decide_eq_true hhi
            have hr : Hid (V = 7) := Lib.hid (by rw [HV2.out, if_pos (.inr hhi)])
            clear hlo hhi
            go_wp2_with (first
              | (go_at_call 58; refine (HNM.out _).mono ?_; rintro e w2 ⟨rfl, rfl⟩)
              | (go_at_call 114; refine (HH.out _ _ ((Ext.refl _).alloc _) (kc (.bool true) _)).mono ?_; rintro e w3 ⟨rfl, x3⟩; have d1 := (x3.cell (p := ⟨wr.heap.size, 1, none⟩) (v := .int .i64 z) (by rw [Lib.cell_of_heap (heap_alloc_new wr _)]; rfl))))
            go_ret
            exact ⟨ret_i hr.out.symm, (hx.alloc _).trans x3⟩
          have d5 : decide (3 < z) = false := decide_eq_false hhi
          have hr : Hid (V = prtGo (L.drop (i + 1)) (L.take (i + 1))) := Lib.hid (by rw [HV2.out, if_neg (fun h => h.elim hlo hhi)])
          clear hlo hhi
          go_wp2_with (first
            | (go_at_call 58; refine (HNM.out _).mono ?_; rintro e w2 ⟨rfl, rfl⟩)
            | (go_at_call 114; refine (HH.out _ _ ((Ext.refl _).alloc _) (kc (.bool true) _)).mono ?_; rintro e w3 ⟨rfl, x3⟩; have d1 := (x3.cell (p := ⟨wr.heap.size, 1, none⟩) (v := .int .i64 z) (by rw [Lib.cell_of_heap (heap_alloc_new wr _)]; rfl))))
          go_roundw
          case rel => exact ⟨i + 1, by omega, by go_num, hr, (hx.alloc _).trans x3⟩
          case measure => simp [RowKit.intOf]; omega
  have hr : Hid (V = 0) := Lib.hid (by rw [hv.out, List.drop_eq_nil_of_le (by rw [<- HN.out]; omega)]; rfl)
  clear hv
  go_wp2
  go_ret
  exact ⟨ret_i hr.out.symm, hx⟩
end Go.Proofs.YtjaeedbjknejdaaGreatDoor.Nm
