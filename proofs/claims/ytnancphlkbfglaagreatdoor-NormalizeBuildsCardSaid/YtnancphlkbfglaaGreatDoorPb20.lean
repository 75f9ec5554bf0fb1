/- Packed texts: NorPorts, NorLabel, NorNode, NorFin -/
import Derived.Test.YtnancphlkbfglaaGreatDoorPb17
import Derived.Test.YtnancphlkbfglaaGreatDoorPb19
import Derived.Laws.IdiomStrings
import Derived.Test.YtnancphlkbfglaaGreatDoorPb15
set_option linter.unusedVariables false
set_option linter.unusedSimpArgs false
namespace Go.Proofs.YtnancphlkbfglaaGreatDoor.Nm
open Go.RowKit Go.Sort Go.Lib Go.Shelf Fx Lx Tr At
set_option maxHeartbeats 4000000 in
theorem closG_any (n x : ByteArray) (d : Int) (c : Addr) (w : World) (hc : w.cell? c = some (.string x)) :
    Calls Tryz.prog 147 #[.agg #[.string n, .int .i64 d], .pointer (some c)] w fun e w' => e = .returned (.bool (decide (n = x))) ∧ Ext w w' := by
  have hc' : ∀ o, (w.alloc o).cell? c = some (.string x) := fun o => ((Ext.refl w).alloc o).cell hc
  go_enter Tryz.func147, Tryz.ntmps147
  go_wp2
  go_ret
  exact ⟨ret_bb (At.beqs n x), (Ext.refl _).alloc _⟩
set_option maxHeartbeats 4000000 in
theorem idxG_any (a : Option Addr) (L : List Prt) (cap : Nat) (x : ByteArray) (c : Addr) (w : World) (h : PrtIn w a L) (hc : w.cell? c = some (.string x)) (hL : L.length ≤ 9223372036854775807) :
    Calls Tryz.prog 68 #[.slice a L.length cap, .func (.func 147) #[] #[.pointer (some c)]] w fun e w' => (∃ r : Int, e = .returned (.int .i64 r) ∧ decide (0 ≤ r) = hasN L x) ∧ Ext w w' := by
  obtain ⟨N, hN⟩ : ∃ N, N = L.length := ⟨_, rfl⟩
  have HI := Lib.hid h
  rw [← hN] at hL ⊢
  have HN := Lib.hid hN
  have HC := Lib.hid hc
  clear h hN hc
  go_enter Tryz.func68, Tryz.ntmps68
  go_wp2_with fail
  go_loopw [8] (fun i' wr => ∃ k : Nat, k ≤ N ∧ i' = .int .i64 k ∧ Hid (∀ j (hj : j < L.length), j < k → L[j].1 ≠ x) ∧ Ext w wr) (fun i' _ => N - (RowKit.intOf i').toNat)
  case atStart => exact ⟨0, by omega, rfl, Lib.hid (fun j _ h => absurd h (by omega)), Ext.refl _⟩
  case round =>
    obtain ⟨k, hk, rfl, hall, hx⟩ := hrel
    by_cases hlt : k < N
    · have hkl : k < L.length := by rw [← HN.out]; exact hlt
      obtain ⟨g, o, rfl, c0, c1⟩ := (HI.out.ext hx) k hkl
      obtain ⟨n, hn⟩ : ∃ n, n = L[k].1 := ⟨_, rfl⟩
      obtain ⟨d, hd⟩ : ∃ d, d = L[k].2 := ⟨_, rfl⟩
      rw [← hn] at c0; rw [← hd] at c1
      have HNM := Lib.hid hn
      clear hn hd
      by_cases heq : n = x
      · have hf : Hid (hasN L x = true) := Lib.hid (by
          unfold hasN; rw [List.any_eq_true]; exact ⟨L[k], List.getElem_mem hkl, by rw [← HNM.out]; exact decide_eq_true heq⟩)
        have HCL := Lib.hid (closG_any n x d c wr (hx.cell HC.out))
        rw [decide_eq_true heq] at HCL
        clear heq hall HNM
        go_wp2_with (go_at_call 147; refine HCL.out.mono ?_; rintro e w1 ⟨rfl, x1⟩)
        go_returns
        exact ⟨⟨k, rfl, by rw [hf.out]; simp⟩, hx.trans x1⟩
      · have hf : Hid (∀ j (hj : j < L.length), j < k + 1 → L[j].1 ≠ x) := Lib.hid (fun j hj h => by
          by_cases e : j = k
          · subst e; rw [← HNM.out]; exact heq
          · exact hall.out j hj (by omega))
        have HCL := Lib.hid (closG_any n x d c wr (hx.cell HC.out))
        rw [decide_eq_false heq] at HCL
        clear heq hall HNM
        go_wp2_with (go_at_call 147; refine HCL.out.mono ?_; rintro e w1 ⟨rfl, x1⟩)
        go_roundw
        case rel => exact ⟨k + 1, by omega, by go_num, hf, hx.trans x1⟩
        case measure => simp [RowKit.intOf]; omega
    · have hf : Hid (hasN L x = false) := Lib.hid (by
        unfold hasN; rw [List.any_eq_false]; intro q hq
        obtain ⟨j, hj, rfl⟩ := List.getElem_of_mem hq
        simpa using hall.out j hj (by rw [← HN.out] at hj; omega))
      clear hall
      go_wp2
      go_returns
      exact ⟨⟨-1, rfl, by rw [hf.out]; decide⟩, hx⟩
set_option maxHeartbeats 4000000 in
theorem hasG_any (a : Option Addr) (L : List Prt) (cap : Nat) (x : ByteArray) (c : Addr) (w : World) (h : PrtIn w a L) (hc : w.cell? c = some (.string x)) (hL : L.length ≤ 9223372036854775807) :
    Calls Tryz.prog 66 #[.slice a L.length cap, .func (.func 147) #[] #[.pointer (some c)]] w fun e w' => e = .returned (.bool (hasN L x)) ∧ Ext w w' := by
  have H := Lib.hid (idxG_any a L cap x c w h hc hL)
  clear h hc hL
  go_enter Tryz.func66, Tryz.ntmps66
  go_wp2_with (go_at_call 68; refine H.out.mono ?_; rintro e w1 ⟨⟨r, rfl, hr⟩, x1⟩)
  go_ret
  exact ⟨rfl, x1⟩
theorem PrtIn.take {w : World} {a : Option Addr} {L : List Prt} (h : PrtIn w a L) (i : Nat) : PrtIn w a (L.take i) := fun k hk => by
  have hk' : k < L.length := by rw [List.length_take] at hk; omega
  obtain ⟨g, o, ha, c0, c1⟩ := h k hk'
  refine ⟨g, o, ha, ?_, ?_⟩
  · rw [List.getElem_take]; exact c0
  · rw [List.getElem_take]; exact c1
set_option maxHeartbeats 8000000 in
set_option maxRecDepth 100000 in
theorem portsE_any (a : Option Addr) (L : List Prt) (cap : Nat) (w : World) (h : PrtIn w a L) (hL : L.length ≤ 1000000) (hLc : L.length ≤ cap) (hcap : cap ≤ 9223372036854775807) (hs : ∀ q ∈ L, q.1.size ≤ 9223372036854775807) :
    Calls Tryz.prog 116 #[.slice a L.length cap] w fun e w' => e = .returned (.int .i64 (prtE L)) ∧ Ext w w' := by
  obtain ⟨n, hn⟩ : ∃ n, n = L.length := ⟨_, rfl⟩
  obtain ⟨V, hV⟩ : ∃ V, V = prtE L := ⟨_, rfl⟩
  rw [← hn] at hL hLc ⊢
  rw [← hV]
  unfold prtE at hV
  rw [← hn] at hV
  have HV := Lib.hid hV
  have HI := Lib.hid h; have HN := Lib.hid hn; have HS := Lib.hid hs
  clear h hn hV hs
  by_cases h8 : 8 < n
  · have g1 : decide ((8 : Int) < n) = true := decide_eq_true (by omega)
    have hr : Hid (V = 2) := Lib.hid (by rw [HV.out, if_pos h8])
    clear HV
    go_enter Tryz.func116, Tryz.ntmps116
    go_wp2
    go_ret
    exact ⟨ret_i hr.out.symm, Ext.refl _⟩
  have g1 : decide ((8 : Int) < n) = false := decide_eq_false (by omega)
  have H0 : Hid (V = prtGo (L.drop 0) (L.take 0)) := Lib.hid (by rw [List.drop_zero, List.take_zero, HV.out, if_neg h8])
  clear HV
  go_enter Tryz.func116, Tryz.ntmps116
  go_wp2
  generalize decide ((8 : Int) < (n : Int)) = dk
  go_loopw [10] (fun i' wr => ∃ i : Nat, i ≤ n ∧ i' = .int .i64 i ∧ Hid (V = prtGo (L.drop i) (L.take i)) ∧ Ext w wr) (fun i' _ => n - (RowKit.intOf i').toNat)
  case atStart => exact ⟨0, Nat.zero_le _, rfl, H0, Ext.refl _⟩
  case round =>
    clear H0
    obtain ⟨i, hi, rfl, hv, hx⟩ := hrel
    by_cases hlt : i < n
    · have hiL : i < L.length := by rw [← HN.out]; exact hlt
      have HHAS := fun (x : ByteArray) (c : Addr) (w5 : World) (y : Ext wr w5) (hc : w5.cell? c = some (.string x)) => hasG_any a (L.take i) cap x c w5 (PrtIn.take (HI.out.ext (hx.trans y)) i) hc (by rw [List.length_take]; omega)
      obtain ⟨g, o, rfl, c0, c1⟩ := (HI.out.ext hx) i hiL
      have hsz := HS.out _ (List.getElem_mem hiL)
      have hv1 := hv.out
      have htk : L.take (i + 1) = L.take i ++ [L[i]] := List.take_succ_eq_append_getElem hiL
      rw [List.drop_eq_getElem_cons hiL] at hv1
      unfold prtGo at hv1
      rw [← htk] at hv1
      obtain ⟨s, hse⟩ : ∃ s, s = L[i].1 := ⟨_, rfl⟩
      obtain ⟨z, hze⟩ : ∃ z, z = L[i].2 := ⟨_, rfl⟩
      rw [← hse] at c0 hsz hv1; rw [← hze] at c1 hv1
      have hnm := isName_any s hsz
      obtain ⟨nb, hnb⟩ : ∃ b, b = nameB s.data.toList := ⟨_, rfl⟩
      rw [← hnb] at hv1 hnm
      have hlt' : (L.take i).length = i := by rw [List.length_take]; omega
      rw [hlt'] at HHAS
      have HH1 := HHAS s
      obtain ⟨hb, hhb⟩ : ∃ b, b = hasN (L.take i) s := ⟨_, rfl⟩
      rw [← hhb] at HH1
      rw [show ((L.take i).any fun p => decide (p.1 = s)) = hb from hhb.symm] at hv1
      have HV1 := Lib.hid hv1; have HNM := Lib.hid hnm; have HH := Lib.hid HH1
      have b0 : (0 : Int) ≤ (i : Int) := by omega
      have b1 : (i : Int) < (n : Int) := by omega
      have b2 : (i : Int) ≤ (n : Int) := by omega
      have b3 : (i : Int) ≤ (cap : Int) := by omega
      clear hv hv1 htk hse hze hnm hnb HHAS HH1 hhb hlt'
      have y0 := fun ob => ((Ext.refl wr).alloc ob).cell c0
      have kc : ∀ (p q : Value), (wr.alloc (.cells #[.string s, q] 132)).cell? ⟨wr.heap.size, 0, none⟩ = some (.string s) := fun p q => by
        rw [Lib.cell_of_heap (heap_alloc_new wr _)]; rfl
      cases nb with
      | false =>
        have hr : Hid (V = 5) := Lib.hid (by rw [HV1.out]; rfl)
        clear HV1
        go_wp2_with (go_at_call 50; refine (HNM.out _).mono ?_; rintro e w2 ⟨rfl, rfl⟩)
        go_ret
        exact ⟨ret_i hr.out.symm, hx.alloc _⟩
      | true =>
        cases hb with
        | true =>
          have hr : Hid (V = 6) := Lib.hid (by rw [HV1.out]; rfl)
          clear HV1
          go_wp2_with (first
            | (go_at_call 50; refine (HNM.out _).mono ?_; rintro e w2 ⟨rfl, rfl⟩)
            | (go_at_call 66; refine (HH.out _ _ ((Ext.refl _).alloc _) (kc (.bool true) _)).mono ?_; rintro e w3 ⟨rfl, x3⟩; have d1 := (x3.cell (p := ⟨wr.heap.size, 1, none⟩) (v := .int .i64 z) (by rw [Lib.cell_of_heap (heap_alloc_new wr _)]; rfl))))
          go_ret
          exact ⟨ret_i hr.out.symm, (hx.alloc _).trans x3⟩
        | false =>
          have HV2 : Hid (V = if z < 0 ∨ 3 < z then 7 else prtGo (L.drop (i + 1)) (L.take (i + 1))) := Lib.hid (by
            have := HV1.out
            rw [if_neg (by decide), if_neg (by decide)] at this
            exact this)
          clear HV1
          by_cases hlo : z < 0
          · have d4 : decide (z < 0) = true := decide_eq_true hlo
            have hr : Hid (V = 7) := Lib.hid (by rw [HV2.out, if_pos (.inl hlo)])
            clear hlo
            go_wp2_with (first
              | (go_at_call 50; refine (HNM.out _).mono ?_; rintro e w2 ⟨rfl, rfl⟩)
              | (go_at_call 66; refine (HH.out _ _ ((Ext.refl _).alloc _) (kc (.bool true) _)).mono ?_; rintro e w3 ⟨rfl, x3⟩; have d1 := (x3.cell (p := ⟨wr.heap.size, 1, none⟩) (v := .int .i64 z) (by rw [Lib.cell_of_heap (heap_alloc_new wr _)]; rfl))))
            go_ret
            exact ⟨ret_i hr.out.symm, (hx.alloc _).trans x3⟩
          · have d4 : decide (z < 0) = false := decide_eq_false hlo
            by_cases hhi : 3 < z
            · have d5 : decide (3 < z) = true := decide_eq_true hhi
              have hr : Hid (V = 7) := Lib.hid (by rw [HV2.out, if_pos (.inr hhi)])
              clear hlo hhi
              go_wp2_with (first
                | (go_at_call 50; refine (HNM.out _).mono ?_; rintro e w2 ⟨rfl, rfl⟩)
                | (go_at_call 66; refine (HH.out _ _ ((Ext.refl _).alloc _) (kc (.bool true) _)).mono ?_; rintro e w3 ⟨rfl, x3⟩; have d1 := (x3.cell (p := ⟨wr.heap.size, 1, none⟩) (v := .int .i64 z) (by rw [Lib.cell_of_heap (heap_alloc_new wr _)]; rfl))))
              go_ret
              exact ⟨ret_i hr.out.symm, (hx.alloc _).trans x3⟩
            · have d5 : decide (3 < z) = false := decide_eq_false hhi
              have hr : Hid (V = prtGo (L.drop (i + 1)) (L.take (i + 1))) := Lib.hid (by rw [HV2.out, if_neg (fun h => h.elim hlo hhi)])
              clear hlo hhi
              go_wp2_with (first
                | (go_at_call 50; refine (HNM.out _).mono ?_; rintro e w2 ⟨rfl, rfl⟩)
                | (go_at_call 66; refine (HH.out _ _ ((Ext.refl _).alloc _) (kc (.bool true) _)).mono ?_; rintro e w3 ⟨rfl, x3⟩; have d1 := (x3.cell (p := ⟨wr.heap.size, 1, none⟩) (v := .int .i64 z) (by rw [Lib.cell_of_heap (heap_alloc_new wr _)]; rfl))))
              go_roundw
              case rel => exact ⟨i + 1, by omega, by go_num, hr, (hx.alloc _).trans x3⟩
              case measure => simp [RowKit.intOf]; omega
    · have hr : Hid (V = 0) := Lib.hid (by rw [hv.out, List.drop_eq_nil_of_le (by rw [← HN.out]; omega)]; rfl)
      clear hv
      go_wp2
      go_ret
      exact ⟨ret_i hr.out.symm, hx⟩
end Go.Proofs.YtnancphlkbfglaaGreatDoor.Nm

namespace Go.Proofs.YtnancphlkbfglaaGreatDoor.Nm
open Go.RowKit Go.Sort Go.Lib Go.Shelf Fx Lx Tr At
theorem bytesRow_at (s : ByteArray) (cap j : Nat) (h : j < s.size) : (bytesRow s cap)[j]? = some (Value.int .u8 s[j].toNat) := by
  unfold bytesRow
  have hj : j < s.data.size := h
  rw [Array.getElem?_append_left (by simpa using hj), Array.getElem?_map, Array.getElem?_eq_getElem hj]
  rfl
set_option maxHeartbeats 4000000 in
set_option maxRecDepth 100000 in
theorem label_any (d : ByteArray) (hd0 : d.size ≤ 4611686018427387904) (w : World) :
    Calls Tryz.prog 114 #[.string d] w fun e w' => e = .returned (.int .i64 (labE d)) ∧ Ext w w' := by
  obtain ⟨V, hV⟩ : ∃ V, V = labE d := ⟨_, rfl⟩
  rw [← hV]
  unfold labE at hV
  have HV := Lib.hid hV
  clear hV
  by_cases h32 : 32 < d.size
  · have g1 : decide ((32 : Int) < d.size) = true := decide_eq_true (by omega)
    have hr : Hid (V = 2) := Lib.hid (by rw [HV.out, if_pos h32])
    clear HV
    go_enter Tryz.func114, Tryz.ntmps114
    go_wp2
    go_ret
    exact ⟨ret_i hr.out.symm, Ext.refl _⟩
  have g1 : decide ((32 : Int) < d.size) = false := decide_eq_false (by omega)
  have HV1 : Hid (V = if (d.data.toList.drop 0).all Tr.okT = false then 7 else 0) := Lib.hid (by rw [HV.out, if_neg h32, List.drop_zero])
  clear HV
  have hsb := fun w s => run_bytes_of_string (P := Tryz.prog) w 9 182 5 s Tryz.underlying9 Tryz.underlying182 Tryz.underlying5
  go_enter Tryz.func114, Tryz.ntmps114
  go_wp2_with fail
  obtain ⟨w1, hw1⟩ : ∃ w1, w1 = (w.alloc (.cells (bytesRow d (grownCap w d.size 0 5)) 5 ((bytesRow d (grownCap w d.size 0 5)).size, (bytesRow d (grownCap w d.size 0 5)).size + 1))).drew := ⟨_, rfl⟩
  have hcell : Hid (∀ j (h : j < d.size), w1.cell? ⟨w.heap.size, j, none⟩ = some (.int .u8 d[j].toNat)) := Lib.hid (fun j h => by
    rw [hw1]
    refine ((Ext.refl _).drew).cell ?_
    rw [World.cell?_alloc_mark, bytesRow_at d _ j h])
  have XW : Hid (Ext w w1) := Lib.hid (by rw [hw1]; exact ((Ext.refl _).alloc _).drew)
  rw [← hw1]
  clear hw1 hsb
  go_loop [11] (fun m' => ∃ m : Nat, m ≤ d.size ∧ m' = .int .i64 m ∧ Hid (V = if (d.data.toList.drop m).all Tr.okT = false then 7 else 0)) (fun m' => d.size - (RowKit.intOf m').toNat)
  case atStart => exact ⟨0, by omega, rfl, HV1⟩
  case round =>
    obtain ⟨m, hm, rfl, hb⟩ := hrel
    clear HV1
    by_cases hjd : m < d.size
    · have hb' := hb.out
      have c0 := hcell.out m hjd
      have hd : d.data.toList.drop m = d[m] :: d.data.toList.drop (m + 1) := by
        rw [List.drop_eq_getElem_cons (by rw [← size_len]; exact hjd)]; rfl
      rw [hd, List.all_cons] at hb'
      have b0 : (0 : Int) ≤ (m : Int) := by omega
      have b1 : (m : Int) < (d.size : Int) := by omega
      clear hb hd
      by_cases k1 : 32 ≤ d[m].toNat
      · by_cases k2 : d[m].toNat ≤ 126
        · have hf : Hid (V = if (d.data.toList.drop (m + 1)).all Tr.okT = false then 7 else 0) := Lib.hid (by
            rw [hb']; unfold Tr.okT; rw [decide_eq_true k1, decide_eq_true k2]; rfl)
          have g2 : decide ((126 : Int) < d[m].toNat) = false := decide_eq_false (by omega)
          have g3 : decide ((d[m].toNat : Int) < 32) = false := decide_eq_false (by omega)
          clear hb'
          go_wp2
          go_round
          case rel => exact ⟨m + 1, by omega, by go_num, hf⟩
          case measure => simp [RowKit.intOf]; omega
        · have hf : Hid (V = 7) := Lib.hid (by
            rw [hb']; unfold Tr.okT; rw [decide_eq_false k2]; simp)
          have g2 : decide ((126 : Int) < d[m].toNat) = true := decide_eq_true (by omega)
          have g3 : decide ((d[m].toNat : Int) < 32) = false := decide_eq_false (by omega)
          clear hb'
          go_wp2
          go_ret
          exact ⟨ret_i hf.out.symm, XW.out⟩
      · have hf : Hid (V = 7) := Lib.hid (by
          rw [hb']; unfold Tr.okT; rw [decide_eq_false k1]; simp)
        have g3 : decide ((d[m].toNat : Int) < 32) = true := decide_eq_true (by omega)
        clear hb'
        go_wp2
        go_ret
        exact ⟨ret_i hf.out.symm, XW.out⟩
    · have hr : Hid (V = 0) := Lib.hid (by rw [hb.out, List.drop_eq_nil_of_le (by rw [← size_len]; omega)]; rfl)
      clear hb
      go_wp2
      go_ret
      exact ⟨ret_i hr.out.symm, XW.out⟩
end Go.Proofs.YtnancphlkbfglaaGreatDoor.Nm

namespace Go.Proofs.YtnancphlkbfglaaGreatDoor.Nm
open Go.RowKit Go.Sort Go.Lib Go.Shelf Fx Lx Tr At
def NdCp (w : World) (a : Option Addr) (L : List Nd) : Prop :=
  ∀ k, k < L.length → ∀ g o p n c, a = some ⟨g, o, none⟩ → w.cell? ⟨g, o + k * 6 + 5, none⟩ = some (.slice p n c) → n ≤ c ∧ c ≤ 9223372036854775807
def GrCp (w : World) (v : Value) (g : Gr) : Prop :=
  ∃ n nc e ec c cc, v = .agg #[.string g.name, .bool g.dir, .slice n g.N.length nc, .slice e g.E.length ec, .slice c g.C.length cc] ∧ NdCp w n g.N ∧ g.C.length ≤ cc ∧ cc ≤ 9223372036854775807
theorem NdCp.ext {w w' : World} {a : Option Addr} {L : List Nd} (h : NdCp w a L) (hn : NdIn w a L) (x : Ext w w') : NdCp w' a L := fun k hk g o p n c ha hc => by
  obtain ⟨g1, o1, p1, c1, ha1, -, -, -, -, -, h5, -⟩ := hn k hk
  rw [ha] at ha1
  cases ha1
  have := x.cell h5
  rw [hc] at this
  have e := Option.some.inj this
  cases e
  exact h k hk g o _ _ _ ha h5
theorem agg_at {w : World} {g : Gr} {s : ByteArray} {b : Bool} {n e c : Option Addr} {l1 l2 l3 nc ec cc : Nat} (h : GrCp w (.agg #[.string s, .bool b, .slice n l1 nc, .slice e l2 ec, .slice c l3 cc]) g) :
    NdCp w n g.N ∧ g.C.length ≤ cc ∧ cc ≤ 9223372036854775807 := by
  obtain ⟨n', nc', e', ec', c', cc', hv, h1, h2, h3⟩ := h
  have e1 := congrArg (fun v => match v with | .agg a => a.toList | _ => []) hv
  have e2 := congrArg (fun l => l[2]?) e1
  have e3 := congrArg (fun l => l[4]?) e1
  dsimp only [List.getElem?_cons_succ, List.getElem?_cons_zero] at e2 e3
  have e2 : Value.slice n l1 nc = .slice n' g.N.length nc' := Option.some.inj e2
  have e3 : Value.slice c l3 cc = .slice c' g.C.length cc' := Option.some.inj e3
  cases e2
  cases e3
  exact ⟨h1, h2, h3⟩
theorem GrCp.ext {w w' : World} {v : Value} {g : Gr} (h : GrCp w v g) (hg : GrIn w v g) (x : Ext w w') : GrCp w' v g := by
  obtain ⟨n, nc, e, ec, c, cc, rfl, a1, -, -⟩ := hg
  obtain ⟨h1, h2, h3⟩ := agg_at h
  exact ⟨n, nc, e, ec, c, cc, rfl, h1.ext a1 x, h2, h3⟩
theorem find_lt {L : List Nd} {i : Nat} (hi : i < L.length) (hb : ((L.take i).any fun p => decide (p.name = L[i].name)) = true) : findT L L[i].name < (i : Int) := by
  rw [List.any_eq_true] at hb
  obtain ⟨p, hp, he⟩ := hb
  rw [List.mem_take_iff_getElem] at hp
  obtain ⟨j, hj, rfl⟩ := hp
  have he := of_decide_eq_true he
  have key : ∀ (M : List Nd) (n : ByteArray) (b : Int) (j : Nat) (hj : j < M.length), M[j].name = n → findGo n b M ≤ b + j := by
    intro M n
    induction M with
    | nil => intro b j hj; exact absurd hj (by simp)
    | cons x M ih =>
      intro b j hj hx
      unfold findGo
      by_cases hx0 : x.name = n
      · rw [if_pos hx0]; omega
      · rw [if_neg hx0]
        cases j with
        | zero => exact absurd hx hx0
        | succ j =>
          have := ih (b + 1) j (by simpa using hj) hx
          omega
  have := key L L[i].name 0 j (by omega) he
  unfold findT
  omega
set_option maxHeartbeats 4000000 in
theorem sized_any (n : Int) (w : World) : Calls Tryz.prog 115 #[.int .i64 n] w fun e w' => e = .returned (.bool (decide (1 ≤ n ∧ n ≤ 1048576))) ∧ w' = w := by
  by_cases h1 : 1 ≤ n
  · have d1 : decide (1 ≤ n) = true := decide_eq_true h1
    by_cases h2 : n ≤ 1048576
    · have d2 : decide (n ≤ 1048576) = true := decide_eq_true h2
      have d3 : decide (1 ≤ n ∧ n ≤ 1048576) = true := decide_eq_true ⟨h1, h2⟩
      rw [d3]
      go_enter Tryz.func115, Tryz.ntmps115
      go_wp2
      go_ret
      exact ⟨rfl, rfl⟩
    · have d2 : decide (n ≤ 1048576) = false := decide_eq_false h2
      have d3 : decide (1 ≤ n ∧ n ≤ 1048576) = false := decide_eq_false (fun h => h2 h.2)
      rw [d3]
      go_enter Tryz.func115, Tryz.ntmps115
      go_wp2
      go_ret
      exact ⟨rfl, rfl⟩
  · have d1 : decide (1 ≤ n) = false := decide_eq_false h1
    have d3 : decide (1 ≤ n ∧ n ≤ 1048576) = false := decide_eq_false (fun h => h1 h.1)
    rw [d3]
    go_enter Tryz.func115, Tryz.ntmps115
    go_wp2
    go_ret
    exact ⟨rfl, rfl⟩
set_option maxHeartbeats 8000000 in
set_option maxRecDepth 100000 in
theorem node_any (g : Gr) (va : Value) (i : Nat) (w : World) (ha : GrIn w va g) (hcp : GrCp w va g) (hi : i < g.N.length) (hN : g.N.length ≤ 1000000) (hC : g.C.length ≤ 1000000)
    (hs : ∀ x ∈ g.N, x.name.size ≤ 4611686018427387904 ∧ x.label.size ≤ 4611686018427387904 ∧ x.ports.length ≤ 1000000 ∧ ∀ q ∈ x.ports, q.1.size ≤ 9223372036854775807) :
    Calls Tryz.prog 70 #[va, .int .i64 (i : Int)] w fun e w' => e = .returned (.int .i64 (ndE g.C.length (g.N.take i) g.N[i])) ∧ Ext w w' := by
  have hfi := fun (w5 : World) (x : Ext w w5) => find_any g va g.N[i].name w5 (ha.ext x) (by omega)
  have hfirst := find_first hi
  have hfsame := find_same hi
  have hflt := find_lt hi
  obtain ⟨hs1, hs2, hs3, hs4⟩ := hs _ (List.getElem_mem hi)
  obtain ⟨na, nac, ea, eac, ca, cac, rfl, a1, -, -⟩ := ha
  obtain ⟨hcn, -, -⟩ := agg_at hcp
  obtain ⟨nm, dir, NN, EE, CC⟩ := g
  dsimp only at *
  obtain ⟨V, hV⟩ : ∃ V, V = ndE CC.length (NN.take i) NN[i] := ⟨_, rfl⟩
  rw [← hV]
  unfold ndE at hV
  obtain ⟨q, hq⟩ : ∃ n, n = NN.length := ⟨_, rfl⟩
  obtain ⟨el, hel⟩ : ∃ n, n = EE.length := ⟨_, rfl⟩
  obtain ⟨cl, hcl⟩ : ∃ n, n = CC.length := ⟨_, rfl⟩
  rw [← hq] at hN ⊢
  rw [← hq] at hfi
  rw [← hel] at hfi ⊢
  rw [← hcl] at hfi hC hV ⊢
  have hiq : i < q := by rw [hq]; exact hi
  obtain ⟨g1, o1, p1, c1, hna, x0, x1, x2, x3, x4, x5, x6⟩ := a1 i hi
  obtain ⟨hcp1, hcp2⟩ := hcn i hi g1 o1 _ _ _ hna x5
  have hpo := fun (w5 : World) (x : Ext w w5) => portsE_any p1 NN[i].ports c1 w5 (x6.ext x) hs3 hcp1 hcp2 hs4
  have hnmc := isName_any NN[i].name (by omega)
  have hplc := fun w5 => label_any NN[i].label hs2 w5
  obtain ⟨F, hF⟩ : ∃ F, F = findT NN NN[i].name := ⟨_, rfl⟩
  rw [← hF] at hfi hfirst hfsame hflt
  obtain ⟨DA, hDA⟩ : ∃ b, b = (NN.take i).any fun p => decide (p.name = NN[i].name) := ⟨_, rfl⟩
  rw [← hDA] at hfirst hfsame hV hflt
  obtain ⟨z, hz⟩ : ∃ z, z = NN[i] := ⟨_, rfl⟩
  rw [← hz] at x0 x1 x2 x3 x4 x5 hV hs1 hs2 hs3 hs4 hpo hnmc hplc hfi
  obtain ⟨z0, z1, z2, z3, z4, z5⟩ := z
  dsimp only at *
  subst hna
  obtain ⟨PE, hPE⟩ : ∃ e, e = prtE z5 := ⟨_, rfl⟩
  rw [← hPE] at hpo hV
  obtain ⟨pl, hpl⟩ : ∃ n, n = z5.length := ⟨_, rfl⟩
  rw [← hpl] at x5 hpo hs3
  obtain ⟨nb, hnb⟩ : ∃ b, b = nameB z0.data.toList := ⟨_, rfl⟩
  rw [← hnb] at hnmc hV
  obtain ⟨LE, hLE⟩ : ∃ b, b = labE z1 := ⟨_, rfl⟩
  rw [← hLE] at hplc hV
  have hs2' := sized_any z2
  have hs3' := sized_any z3
  have HFI := Lib.hid hfi; have HPO := Lib.hid hpo; have HNM := Lib.hid hnmc; have HLB := Lib.hid hplc; have HV := Lib.hid hV
  have HFF : Hid ((F = (i : Int) ∧ DA = false) ∨ (DA = true ∧ F < (i : Int))) := Lib.hid (hfirst.elim (fun h => .inl ⟨h, hfsame h⟩) (fun h => .inr ⟨h.1, hflt h.1⟩))
  have b0 : (0 : Int) ≤ (i : Int) := by omega
  have b1 : (i : Int) < (q : Int) := by omega
  clear hfi hpo hnmc hplc hV hfirst hfsame hflt hF hDA hz hpl hnb hPE hLE hs4 x6 hq hel hcl hi a1 hs hcn hcp hcp1 hcp2
  go_enter Tryz.func70, Tryz.ntmps70
  have y0 := fun ob => ((Ext.refl w).alloc ob).cell x0
  have y1 := fun ob => ((Ext.refl w).alloc ob).cell x1
  have y2 := fun ob => ((Ext.refl w).alloc ob).cell x2
  have y3 := fun ob => ((Ext.refl w).alloc ob).cell x3
  have y4 := fun ob => ((Ext.refl w).alloc ob).cell x4
  have y5 := fun ob => ((Ext.refl w).alloc ob).cell x5
  clear x0 x1 x2 x3 x4 x5
  cases nb with
  | false =>
    have hr : Hid (V = 5) := Lib.hid (by rw [HV.out, if_pos rfl])
    clear HV
    go_wp2_with (first
      | (go_at_call 50; refine (HNM.out _).mono ?_; rintro e w2 ⟨rfl, rfl⟩)
      | (go_at_call 113; refine (HFI.out _ (((Ext.refl _).alloc _).alloc _)).mono ?_; rintro e w3 ⟨rfl, x3⟩; have bb := boxes x3; have n1 := bb.2 1 _ rfl; clear bb)
      | (go_at_call 114; refine (HLB.out _).mono ?_; rintro e w4 ⟨rfl, x4⟩; have bb := boxes (x3.trans x4); have n2 := bb.2 2 _ rfl; have n3 := bb.2 3 _ rfl; have n4 := bb.2 4 _ rfl; have n5 := bb.2 5 _ rfl; have n6 := bb.1 4 _ rfl; clear bb)
      | (go_at_call 115; refine (HS2.out _).mono ?_; rintro e w5 ⟨rfl, rfl⟩)
      | (go_at_call 115; refine (HS3.out _).mono ?_; rintro e w5 ⟨rfl, rfl⟩)
      | (go_at_call 116; refine (HPO.out _ ((((Ext.refl _).alloc _).alloc _).trans (x3.trans x4))).mono ?_; rintro e w5 ⟨rfl, x5'⟩))
    go_ret
    exact ⟨ret_i hr.out.symm, ((Ext.refl _).alloc _).alloc _⟩
  | true =>
    rcases HFF.out with ⟨hF, hD⟩ | ⟨hD, hF⟩
    case inr =>
      have f1 : decide (F < (i : Int)) = true := decide_eq_true hF
      subst hD
      have hr : Hid (V = 6) := Lib.hid (by rw [HV.out, if_neg (by decide), if_pos rfl])
      clear HV
      go_wp2_with (first
        | (go_at_call 50; refine (HNM.out _).mono ?_; rintro e w2 ⟨rfl, rfl⟩)
        | (go_at_call 113; refine (HFI.out _ (((Ext.refl _).alloc _).alloc _)).mono ?_; rintro e w3 ⟨rfl, x3⟩; have bb := boxes x3; have n1 := bb.2 1 _ rfl; clear bb)
        | (go_at_call 114; refine (HLB.out _).mono ?_; rintro e w4 ⟨rfl, x4⟩; have bb := boxes (x3.trans x4); have n2 := bb.2 2 _ rfl; have n3 := bb.2 3 _ rfl; have n4 := bb.2 4 _ rfl; have n5 := bb.2 5 _ rfl; have n6 := bb.1 4 _ rfl; clear bb)
        | (go_at_call 115; refine (HS2.out _).mono ?_; rintro e w5 ⟨rfl, rfl⟩)
        | (go_at_call 115; refine (HS3.out _).mono ?_; rintro e w5 ⟨rfl, rfl⟩)
        | (go_at_call 116; refine (HPO.out _ ((((Ext.refl _).alloc _).alloc _).trans (x3.trans x4))).mono ?_; rintro e w5 ⟨rfl, x5'⟩))
      go_ret
      exact ⟨ret_i hr.out.symm, (((Ext.refl _).alloc _).alloc _).trans x3⟩
    case inl =>
    subst hD; subst hF
    have f1 : decide ((i : Int) < (i : Int)) = false := decide_eq_false (by omega)
    have HV1 : Hid (V = if LE ≠ 0 then LE else if z2 < 1 ∨ 1048576 < z2 ∨ z3 < 1 ∨ 1048576 < z3 ∨ z4 < -1 ∨ (cl : Int) ≤ z4 then 3 else PE) := Lib.hid (by rw [HV.out, if_neg (by decide), if_neg (by decide)])
    clear HV HFF
    have HV := HV1
    clear HV1
    by_cases hl0 : LE = 0
    case neg =>
      obtain ⟨f2, f3⟩ := nfacts hl0
      have hr : Hid (V = LE) := Lib.hid (by rw [HV.out, if_pos hl0])
      clear HV
      go_wp2_with (first
        | (go_at_call 50; refine (HNM.out _).mono ?_; rintro e w2 ⟨rfl, rfl⟩)
        | (go_at_call 113; refine (HFI.out _ (((Ext.refl _).alloc _).alloc _)).mono ?_; rintro e w3 ⟨rfl, x3⟩; have bb := boxes x3; have n1 := bb.2 1 _ rfl; clear bb)
        | (go_at_call 114; refine (HLB.out _).mono ?_; rintro e w4 ⟨rfl, x4⟩; have bb := boxes (x3.trans x4); have n2 := bb.2 2 _ rfl; have n3 := bb.2 3 _ rfl; have n4 := bb.2 4 _ rfl; have n5 := bb.2 5 _ rfl; have n6 := bb.1 4 _ rfl; clear bb)
        | (go_at_call 115; refine (HS2.out _).mono ?_; rintro e w5 ⟨rfl, rfl⟩)
        | (go_at_call 115; refine (HS3.out _).mono ?_; rintro e w5 ⟨rfl, rfl⟩)
        | (go_at_call 116; refine (HPO.out _ ((((Ext.refl _).alloc _).alloc _).trans (x3.trans x4))).mono ?_; rintro e w5 ⟨rfl, x5'⟩))
      go_ret
      exact ⟨ret_i hr.out.symm, (((Ext.refl _).alloc _).alloc _).trans (x3.trans x4)⟩
    subst hl0
    obtain ⟨f2, f3⟩ := efacts 0
    have HV1 : Hid (V = if z2 < 1 ∨ 1048576 < z2 ∨ z3 < 1 ∨ 1048576 < z3 ∨ z4 < -1 ∨ (cl : Int) ≤ z4 then 3 else PE) := Lib.hid (by rw [HV.out, if_neg (by decide)])
    clear HV
    have HV := HV1
    clear HV1
    by_cases r0 : 1 ≤ z2 ∧ z2 ≤ 1048576
    case neg =>
      rw [decide_eq_false r0] at hs2'
      have HS2 := Lib.hid hs2'
      clear hs2'
      have hr : Hid (V = 3) := Lib.hid (by rw [HV.out, if_pos (by omega)])
      clear HV
      go_wp2_with (first
        | (go_at_call 50; refine (HNM.out _).mono ?_; rintro e w2 ⟨rfl, rfl⟩)
        | (go_at_call 113; refine (HFI.out _ (((Ext.refl _).alloc _).alloc _)).mono ?_; rintro e w3 ⟨rfl, x3⟩; have bb := boxes x3; have n1 := bb.2 1 _ rfl; clear bb)
        | (go_at_call 114; refine (HLB.out _).mono ?_; rintro e w4 ⟨rfl, x4⟩; have bb := boxes (x3.trans x4); have n2 := bb.2 2 _ rfl; have n3 := bb.2 3 _ rfl; have n4 := bb.2 4 _ rfl; have n5 := bb.2 5 _ rfl; have n6 := bb.1 4 _ rfl; clear bb)
        | (go_at_call 115; refine (HS2.out _).mono ?_; rintro e w5 ⟨rfl, rfl⟩)
        | (go_at_call 115; refine (HS3.out _).mono ?_; rintro e w5 ⟨rfl, rfl⟩)
        | (go_at_call 116; refine (HPO.out _ ((((Ext.refl _).alloc _).alloc _).trans (x3.trans x4))).mono ?_; rintro e w5 ⟨rfl, x5'⟩))
      go_ret
      exact ⟨ret_i hr.out.symm, (((Ext.refl _).alloc _).alloc _).trans (x3.trans x4)⟩
    rw [decide_eq_true r0] at hs2'
    have HS2 := Lib.hid hs2'
    clear hs2'
    by_cases r1 : 1 ≤ z3 ∧ z3 ≤ 1048576
    case neg =>
      rw [decide_eq_false r1] at hs3'
      have HS3 := Lib.hid hs3'
      clear hs3'
      have hr : Hid (V = 3) := Lib.hid (by rw [HV.out, if_pos (by omega)])
      clear HV
      go_wp2_with (first
        | (go_at_call 50; refine (HNM.out _).mono ?_; rintro e w2 ⟨rfl, rfl⟩)
        | (go_at_call 113; refine (HFI.out _ (((Ext.refl _).alloc _).alloc _)).mono ?_; rintro e w3 ⟨rfl, x3⟩; have bb := boxes x3; have n1 := bb.2 1 _ rfl; clear bb)
        | (go_at_call 114; refine (HLB.out _).mono ?_; rintro e w4 ⟨rfl, x4⟩; have bb := boxes (x3.trans x4); have n2 := bb.2 2 _ rfl; have n3 := bb.2 3 _ rfl; have n4 := bb.2 4 _ rfl; have n5 := bb.2 5 _ rfl; have n6 := bb.1 4 _ rfl; clear bb)
        | (go_at_call 115; refine (HS2.out _).mono ?_; rintro e w5 ⟨rfl, rfl⟩)
        | (go_at_call 115; refine (HS3.out _).mono ?_; rintro e w5 ⟨rfl, rfl⟩)
        | (go_at_call 116; refine (HPO.out _ ((((Ext.refl _).alloc _).alloc _).trans (x3.trans x4))).mono ?_; rintro e w5 ⟨rfl, x5'⟩))
      go_ret
      exact ⟨ret_i hr.out.symm, (((Ext.refl _).alloc _).alloc _).trans (x3.trans x4)⟩
    rw [decide_eq_true r1] at hs3'
    have HS3 := Lib.hid hs3'
    clear hs3'
    by_cases r2 : z4 < -1
    · have t2 : decide (z4 < -1) = true := decide_eq_true r2
      have hr : Hid (V = 3) := Lib.hid (by rw [HV.out, if_pos (by omega)])
      clear HV
      go_wp2_with (first
        | (go_at_call 50; refine (HNM.out _).mono ?_; rintro e w2 ⟨rfl, rfl⟩)
        | (go_at_call 113; refine (HFI.out _ (((Ext.refl _).alloc _).alloc _)).mono ?_; rintro e w3 ⟨rfl, x3⟩; have bb := boxes x3; have n1 := bb.2 1 _ rfl; clear bb)
        | (go_at_call 114; refine (HLB.out _).mono ?_; rintro e w4 ⟨rfl, x4⟩; have bb := boxes (x3.trans x4); have n2 := bb.2 2 _ rfl; have n3 := bb.2 3 _ rfl; have n4 := bb.2 4 _ rfl; have n5 := bb.2 5 _ rfl; have n6 := bb.1 4 _ rfl; clear bb)
        | (go_at_call 115; refine (HS2.out _).mono ?_; rintro e w5 ⟨rfl, rfl⟩)
        | (go_at_call 115; refine (HS3.out _).mono ?_; rintro e w5 ⟨rfl, rfl⟩)
        | (go_at_call 116; refine (HPO.out _ ((((Ext.refl _).alloc _).alloc _).trans (x3.trans x4))).mono ?_; rintro e w5 ⟨rfl, x5'⟩))
      go_ret
      exact ⟨ret_i hr.out.symm, (((Ext.refl _).alloc _).alloc _).trans (x3.trans x4)⟩
    have t2 : decide (z4 < -1) = false := decide_eq_false r2
    by_cases r3 : (cl : Int) ≤ z4
    · have t3 : decide ((cl : Int) ≤ z4) = true := decide_eq_true r3
      have hr : Hid (V = 3) := Lib.hid (by rw [HV.out, if_pos (by omega)])
      clear HV
      go_wp2_with (first
        | (go_at_call 50; refine (HNM.out _).mono ?_; rintro e w2 ⟨rfl, rfl⟩)
        | (go_at_call 113; refine (HFI.out _ (((Ext.refl _).alloc _).alloc _)).mono ?_; rintro e w3 ⟨rfl, x3⟩; have bb := boxes x3; have n1 := bb.2 1 _ rfl; clear bb)
        | (go_at_call 114; refine (HLB.out _).mono ?_; rintro e w4 ⟨rfl, x4⟩; have bb := boxes (x3.trans x4); have n2 := bb.2 2 _ rfl; have n3 := bb.2 3 _ rfl; have n4 := bb.2 4 _ rfl; have n5 := bb.2 5 _ rfl; have n6 := bb.1 4 _ rfl; clear bb)
        | (go_at_call 115; refine (HS2.out _).mono ?_; rintro e w5 ⟨rfl, rfl⟩)
        | (go_at_call 115; refine (HS3.out _).mono ?_; rintro e w5 ⟨rfl, rfl⟩)
        | (go_at_call 116; refine (HPO.out _ ((((Ext.refl _).alloc _).alloc _).trans (x3.trans x4))).mono ?_; rintro e w5 ⟨rfl, x5'⟩))
      go_ret
      exact ⟨ret_i hr.out.symm, (((Ext.refl _).alloc _).alloc _).trans (x3.trans x4)⟩
    have t3 : decide ((cl : Int) ≤ z4) = false := decide_eq_false r3
    have hr : Hid (V = PE) := Lib.hid (by rw [HV.out, if_neg (by omega)])
    clear HV
    go_wp2_with (first
      | (go_at_call 50; refine (HNM.out _).mono ?_; rintro e w2 ⟨rfl, rfl⟩)
      | (go_at_call 113; refine (HFI.out _ (((Ext.refl _).alloc _).alloc _)).mono ?_; rintro e w3 ⟨rfl, x3⟩; have bb := boxes x3; have n1 := bb.2 1 _ rfl; clear bb)
      | (go_at_call 114; refine (HLB.out _).mono ?_; rintro e w4 ⟨rfl, x4⟩; have bb := boxes (x3.trans x4); have n2 := bb.2 2 _ rfl; have n3 := bb.2 3 _ rfl; have n4 := bb.2 4 _ rfl; have n5 := bb.2 5 _ rfl; have n6 := bb.1 4 _ rfl; clear bb)
      | (go_at_call 115; refine (HS2.out _).mono ?_; rintro e w5 ⟨rfl, rfl⟩)
      | (go_at_call 115; refine (HS3.out _).mono ?_; rintro e w5 ⟨rfl, rfl⟩)
      | (go_at_call 116; refine (HPO.out _ ((((Ext.refl _).alloc _).alloc _).trans (x3.trans x4))).mono ?_; rintro e w5 ⟨rfl, x5'⟩))
    go_ret
    exact ⟨ret_i hr.out.symm, ((((Ext.refl _).alloc _).alloc _).trans (x3.trans x4)).trans x5'⟩
end Go.Proofs.YtnancphlkbfglaaGreatDoor.Nm

namespace Go.Proofs.YtnancphlkbfglaaGreatDoor.Nm
open Go.RowKit Go.Sort Go.Lib Fx Lx Tr At
def nvC (x : Nd × Value) : List Value := [.string x.1.name, .string x.1.label, .int .i64 x.1.w, .int .i64 x.1.h, .int .i64 x.1.c, x.2]
def nvsC (L : List (Nd × Value)) : List Value := L.flatMap nvC
theorem nvC_len (x : Nd × Value) : (nvC x).length = 6 := rfl
def rawN (q : ByteArray × Int) : Nd × Value := (⟨q.1, ⟨#[]⟩, 0, 0, q.2, []⟩, .slice none 0 0)
theorem nds_nvs (L : List (ByteArray × Int)) : ndsC L = nvsC (L.map rawN) := by
  unfold ndsC nvsC
  induction L with
  | nil => rfl
  | cons q r ih => rw [List.flatMap_cons, List.map_cons, List.flatMap_cons, ih]; rfl
def edC (x : Ed) : List Value := [.int .i64 x.a, .int .i64 x.b, .int .i64 x.ap, .int .i64 x.bp, .string x.label, .int .i64 x.wt, .int .i64 x.len]
def edsC (L : List Ed) : List Value := L.flatMap edC
theorem edsC_snoc (L : List Ed) (q : Ed) : edsC (L ++ [q]) = edsC L ++ edC q := by unfold edsC; simp
def PtLs (w : World) (NV : List (Nd × Value)) : Prop := ∀ (k : Nat) (x : Nd × Value), NV[k]? = some x → PtL w x.2 x.1.ports
theorem PtLs.ext {w w' : World} {NV : List (Nd × Value)} (h : PtLs w NV) (x : Ext w w') : PtLs w' NV := fun k y e => (h k y e).ext x
theorem PtLs.keep {w w' : World} {row : Option Nat} {t : Option TypeId} {NV : List (Nd × Value)} (h : PtLs w NV) (hg : w.grownBy w' row) (ht : TyOf w row t) (hne : some 132 ≠ t) : PtLs w' NV := fun k y e => (h k y e).keep hg ht hne
theorem PtLs.set {w : World} {NV : List (Nd × Value)} (h : PtLs w NV) (k : Nat) {y : Nd × Value} (hy : PtL w y.2 y.1.ports) : PtLs w (NV.set k y) := fun j x e => by
  by_cases hj : k = j
  · subst hj
    have hl := (List.getElem?_eq_some_iff.1 e).1
    rw [List.length_set] at hl
    rw [List.getElem?_set_self hl] at e
    injection e with e
    subst e
    exact hy
  · rw [List.getElem?_set_ne hj] at e
    exact h j x e
theorem PtLs.raw (w : World) (L : List (ByteArray × Int)) : PtLs w (L.map rawN) := fun k x e => by
  rw [List.getElem?_map] at e
  cases h : L[k]? with
  | none => rw [h] at e; cases e
  | some q => rw [h] at e; injection e with e; subst e; exact PtL.nil w
theorem row_nd {w : World} {B : Nat} {v : Value} {NV : List (Nd × Value)} (h : w.ownsRow B 40 6 v NV.length (nvsC NV)) (hp : PtLs w NV) : ∃ a c, v = .slice a (NV.map Prod.fst).length c ∧ NdIn w a (NV.map Prod.fst) ∧ NdCp w a (NV.map Prod.fst) := by
  rcases h.2 with ⟨h1, h2⟩ | ⟨g, cap, cur, hv, _, hg, _⟩
  · have : NV = [] := List.eq_nil_of_length_eq_zero h2
    subst this
    exact ⟨_, _, h1, fun k hk => absurd hk (by simp), fun k hk => absurd hk (by simp)⟩
  · have hc := fun (k : Nat) (hk : k < NV.length) (j : Nat) (hj : j < 6) (u : Value) (hu : (nvC NV[k])[j]? = some u) => h.cells (g := g) (by rw [hv]; rfl) (k * 6 + j) u (by unfold nvsC; rw [fm_get nvC_len NV k hk j hj]; exact hu)
    have hz : ∀ j, (⟨g, 0, none⟩ : Addr).add j = ⟨g, 0 + j, none⟩ := fun j => by rw [Nat.zero_add]; exact add0 g j
    refine ⟨_, cap, by rw [hv, List.length_map], fun k hk => ?_, fun k hk g' o' p' n' c' e hcell => ?_⟩
    · rw [List.length_map] at hk
      obtain ⟨p, c, h1, h2, h3, h4, h5⟩ := hp k NV[k] (List.getElem?_eq_getElem hk)
      refine ⟨g, 0, p, c, rfl, ?_⟩
      rw [List.getElem_map]
      have q0 := hc k hk 0 (by omega) _ rfl
      have q1 := hc k hk 1 (by omega) _ rfl
      have q2 := hc k hk 2 (by omega) _ rfl
      have q3 := hc k hk 3 (by omega) _ rfl
      have q4 := hc k hk 4 (by omega) _ rfl
      have q5 := hc k hk 5 (by omega) _ rfl
      rw [hz] at q0 q1 q2 q3 q4 q5
      rw [h1] at q5
      exact ⟨q0, q1, q2, q3, q4, q5, h2⟩
    · rw [List.length_map] at hk
      injection e with e
      injection e with e1 e2 _
      subst e1; subst e2
      obtain ⟨p, c, h1, h2, h3, h4, h5⟩ := hp k NV[k] (List.getElem?_eq_getElem hk)
      have q5 := hc k hk 5 (by omega) _ rfl
      rw [hz, h1] at q5
      rw [show (0 : Nat) + (k * 6 + 5) = 0 + k * 6 + 5 by omega, hcell] at q5
      injection q5 with q5
      injection q5 with _ e1 e2
      rw [e1, e2]
      unfold maxLen at h4
      exact ⟨h3, by omega⟩
theorem row_cl {w : World} {B : Nat} {v : Value} {C : List (ByteArray × Int)} (h : w.ownsRow B 42 2 v C.length (clsC C)) : ∃ a c, v = .slice a C.length c ∧ ClIn w a C ∧ C.length ≤ c ∧ c ≤ 9223372036854775807 := by
  rcases h.2 with ⟨h1, h2⟩ | ⟨g, cap, cur, hv, _, hg, h3, h4, _⟩
  · have : C = [] := List.eq_nil_of_length_eq_zero h2
    subst this
    exact ⟨_, _, h1, fun k hk => absurd hk (by simp), by simp, by omega⟩
  · have hc := fun (k : Nat) (hk : k < C.length) (j : Nat) (hj : j < 2) (u : Value) (hu : (clC C[k])[j]? = some u) => h.cells (g := g) (by rw [hv]; rfl) (k * 2 + j) u (by unfold clsC; rw [fm_get (s := 2) (f := clC) (fun _ => rfl) C k hk j hj]; exact hu)
    have hz : ∀ j, (⟨g, 0, none⟩ : Addr).add j = ⟨g, 0 + j, none⟩ := fun j => by rw [Nat.zero_add]; exact add0 g j
    refine ⟨_, cap, hv, fun k hk => ?_, h3, by unfold maxLen at h4; omega⟩
    have q0 := hc k hk 0 (by omega) _ rfl
    have q1 := hc k hk 1 (by omega) _ rfl
    rw [hz] at q0 q1
    exact ⟨g, 0, rfl, q0, q1⟩
theorem row_ed {w : World} {B : Nat} {v : Value} {E : List Ed} (h : w.ownsRow B 60 7 v E.length (edsC E)) : ∃ a c, v = .slice a E.length c ∧ EdIn w a E := by
  rcases h.2 with ⟨h1, h2⟩ | ⟨g, cap, cur, hv, _, hg, h3, h4, _⟩
  · have : E = [] := List.eq_nil_of_length_eq_zero h2
    subst this
    exact ⟨_, _, h1, fun k hk => absurd hk (by simp)⟩
  · have hc := fun (k : Nat) (hk : k < E.length) (j : Nat) (hj : j < 7) (u : Value) (hu : (edC E[k])[j]? = some u) => h.cells (g := g) (by rw [hv]; rfl) (k * 7 + j) u (by unfold edsC; rw [fm_get (s := 7) (f := edC) (fun _ => rfl) E k hk j hj]; exact hu)
    have hz : ∀ j, (⟨g, 0, none⟩ : Addr).add j = ⟨g, 0 + j, none⟩ := fun j => by rw [Nat.zero_add]; exact add0 g j
    refine ⟨_, cap, hv, fun k hk => ?_⟩
    have q0 := hc k hk 0 (by omega) _ rfl
    have q1 := hc k hk 1 (by omega) _ rfl
    have q2 := hc k hk 2 (by omega) _ rfl
    have q3 := hc k hk 3 (by omega) _ rfl
    have q4 := hc k hk 4 (by omega) _ rfl
    have q5 := hc k hk 5 (by omega) _ rfl
    have q6 := hc k hk 6 (by omega) _ rfl
    rw [hz] at q0 q1 q2 q3 q4 q5 q6
    exact ⟨g, 0, rfl, q0, q1, q2, q3, q4, q5, q6⟩
structure FinAt (w0 : World) (bb m1 m2 B : Nat) (w : World) (nv av cv lv : Value) (aw : List Value) (ks : List (Lk × Value)) (S : St) (NV : List (Nd × Value)) : Prop where
  blk : w.heap[bb]? = some (.cells #[nv, av, .map (some m1), cv, .map (some m2), lv] 68 (0, 0))
  N : w.ownsRow B 40 6 nv NV.length (nvsC NV)
  P : PtLs w NV
  A : w.ownsRow B 54 1 av S.A.length aw
  C : w.ownsRow B 42 2 cv S.C.length (clsC S.C)
  K : w.ownsRow B 82 5 lv S.K.length (lksC ks)
  At : AtLs w aw S.A
  Kl : ks.map Prod.fst = S.K
  Kt : AtLs w (ks.map Prod.snd) (S.K.map Lk.at')
  X : Ext w0 w
  Z : B ≤ w.heap.size
  lo : w0.heap.size ≤ bb ∧ bb < B
variable {w0 w w2 : World} {bb m1 m2 B : Nat} {nv av cv lv : Value} {aw : List Value} {ks : List (Lk × Value)} {S : St} {NV : List (Nd × Value)}
theorem Bld.fin {I T : List (ByteArray × Int)} (h : Bld w0 bb m1 m2 B w nv av cv lv aw ks S I T) : FinAt w0 bb m1 m2 B w nv av cv lv aw ks S (S.N.map rawN) :=
  ⟨h.blk, by rw [List.length_map, ← nds_nvs]; exact h.N, PtLs.raw w S.N, h.A, h.C, h.K, h.At, h.Kl, h.Kt, h.X, h.Z, h.lo.1, h.lo.2.2.2.1⟩
theorem FinAt.ext (h : FinAt w0 bb m1 m2 B w nv av cv lv aw ks S NV) (x : Ext w w2) : FinAt w0 bb m1 m2 B w2 nv av cv lv aw ks S NV :=
  ⟨At.heap_ext h.blk x, At.own_ext h.N x, h.P.ext x, At.own_ext h.A x, At.own_ext h.C x, At.own_ext h.K x, h.At.ext x, h.Kl, h.Kt.ext x, h.X.trans x, Nat.le_trans h.Z x.size, h.lo⟩
theorem FinAt.cells (h : FinAt w0 bb m1 m2 B w nv av cv lv aw ks S NV) : w.cell? ⟨bb, 0, none⟩ = some nv ∧ w.cell? ⟨bb, 1, none⟩ = some av ∧ w.cell? ⟨bb, 3, none⟩ = some cv ∧ w.cell? ⟨bb, 5, none⟩ = some lv := by
  refine ⟨?_, ?_, ?_, ?_⟩ <;> (rw [Lib.cell_of_heap h.blk]; rfl)
theorem FinAt.keep (h : FinAt w0 bb m1 m2 B w nv av cv lv aw ks S NV) {row : Option Nat} {t : TypeId} (hg : w.grownBy w2 row) (ht : TyOf w row (some t)) (hr : ∀ k, row = some k → w0.heap.size ≤ k) (h1 : t ≠ 68) (h2 : t ≠ 40) (h3 : t ≠ 54) (h4 : t ≠ 42) (h5 : t ≠ 82) (h6 : t ≠ 109) (h7 : t ≠ 132) :
    FinAt w0 bb m1 m2 B w2 nv av cv lv aw ks S NV :=
  ⟨cel_keep h.blk hg ht (nope h1.symm), row_keep h.N hg ht (nope h2.symm), h.P.keep hg ht (nope h7.symm), row_keep h.A hg ht (nope h3.symm), row_keep h.C hg ht (nope h4.symm), row_keep h.K hg ht (nope h5.symm), h.At.keep hg ht (nope h6.symm), h.Kl, h.Kt.keep hg ht (nope h6.symm), ext_grown h.X hg hr, Nat.le_trans h.Z hg.size, h.lo⟩
theorem FinAt.set {gn c nn : Nat} (h : FinAt w0 bb m1 m2 B w (.slice (some ⟨gn, 0, none⟩) nn c) av cv lv aw ks S NV) (k : Nat) (hk : k < NV.length) (j : Nat) (hj : j < 6) (u : Value) (y : Nd × Value) (hy : nvC y = (nvC NV[k]).set j u) (hp : PtL w y.2 y.1.ports) :
    FinAt w0 bb m1 m2 B (w.setCell ⟨gn, k * 6 + j, none⟩ u) (.slice (some ⟨gn, 0, none⟩) nn c) av cv lv aw ks S (NV.set k y) := by
  have ht : TyOf w (some gn) (some 40) := row_ty h.N
  have hs := set_grown w gn (k * 6 + j) u
  have hnn : nn = NV.length := by
    rcases h.N.2 with ⟨h1, _⟩ | ⟨g', cap, cur, h1, _⟩
    · cases h1
    · injection h1
  subst hnn
  have hrow := row_set h.N (k * 6 + j) (by
    unfold nvsC; rw [fm_len nvC_len]
    have : k * 6 + 6 ≤ NV.length * 6 := by omega
    omega) u
  unfold nvsC at hrow
  rw [fm_set nvC_len NV k hk j hj u y hy] at hrow
  refine ⟨cel_keep h.blk hs ht (nope (by decide)), by rw [List.length_set]; exact hrow, (h.P.set k hp).keep hs ht (nope (by decide)), row_keep h.A hs ht (nope (by decide)), row_keep h.C hs ht (nope (by decide)), row_keep h.K hs ht (nope (by decide)), h.At.keep hs ht (nope (by decide)), h.Kl, h.Kt.keep hs ht (nope (by decide)), ext_grown h.X hs (fun q e => ?_), Nat.le_trans h.Z hs.size, h.lo⟩
  have := (h.N.lt q e).1; have := h.lo; omega
theorem FinAt.nc {gn c nn : Nat} (h : FinAt w0 bb m1 m2 B w (.slice (some ⟨gn, 0, none⟩) nn c) av cv lv aw ks S NV) (k : Nat) (hk : k < NV.length) (j : Nat) (hj : j < 6) (u : Value) (hu : (nvC NV[k])[j]? = some u) : w.cell? ⟨gn, k * 6 + j, none⟩ = some u ∧ w.frozen? ⟨gn, k * 6 + j, none⟩ = false := by
  have hc := h.N.cells (g := gn) rfl (k * 6 + j) u (by unfold nvsC; rw [fm_get nvC_len NV k hk j hj]; exact hu)
  rw [add0] at hc
  refine ⟨hc, ?_⟩
  rcases h.N.2 with ⟨h1, _⟩ | ⟨g', cap, cur, h1, _, hg, _⟩
  · cases h1
  · injection h1 with h1
    injection h1 with h1
    injection h1 with h1
    subst h1
    exact Lib.frozen_of_heap hg _
theorem AtLs.get {w : World} {aw : List Value} {A : List (List Two)} (h : AtLs w aw A) {i : Nat} (hi : i < A.length) {p : Option Addr} {n c : Nat} (e : aw[i]? = some (.slice p n c)) : AtrIn w p A[i] := by
  obtain ⟨p', c', h1, h2, h3⟩ := h.at hi
  rw [e] at h1
  injection h1 with h1
  injection h1 with h1
  subst h1
  exact h2
structure NodAt (w0 : World) (bb m1 m2 B gg gt : Nat) (G T : Obj) (nv av cv lv : Value) (aw : List Value) (ks : List (Lk × Value)) (S : St) (i : Nat) (NV : List (Nd × Value)) (wr : World) : Prop where
  f : FinAt w0 bb m1 m2 B wr nv av cv lv aw ks S NV
  len : NV.length = S.N.length
  done : ∀ (k : Nat) (h : k < S.N.length), k < i → ∃ v, NV[k]? = some (finN S.N[k] (S.A.getD k []), v)
  todo : ∀ (k : Nat) (h : k < S.N.length), i ≤ k → NV[k]? = some (rawN S.N[k])
  g : wr.heap[gg]? = some G
  t : wr.heap[gt]? = some T
theorem finNs_at : ∀ (N : List (ByteArray × Int)) (A : List (List Two)) (NV : List (Nd × Value)), A.length = N.length → NV.length = N.length → (∀ (k : Nat) (h : k < N.length), ∃ v, NV[k]? = some (finN N[k] (A.getD k []), v)) → NV.map Prod.fst = finNs N A
  | [], _, NV, _, h, _ => by rw [List.eq_nil_of_length_eq_zero h]; unfold finNs; rfl
  | q :: r, [], _, h, _, _ => by cases h
  | q :: r, l :: s, NV, hA, hl, h => by
    cases NV with
    | nil => cases hl
    | cons x NV =>
      obtain ⟨v, hv⟩ := h 0 (by simp)
      injection hv with hv
      subst hv
      rw [List.map_cons]
      show finN q l :: _ = finN q l :: finNs r s
      rw [finNs_at r s NV (by simpa using hA) (by simpa using hl) (fun k hk => by
        obtain ⟨v, hv⟩ := h (k + 1) (by simpa using hk)
        exact ⟨v, by simpa using hv⟩)]
theorem row_has {w : World} {B : Nat} {T : TypeId} {sz : Nat} {v : Value} {n : Nat} {xs : List Value} (h : w.ownsRow B T sz v n xs) (h0 : 0 < n) : ∃ g c, v = .slice (some ⟨g, 0, none⟩) n c ∧ n ≤ c ∧ c ≤ maxLen ∧ ∃ cs, w.heap[g]? = some (.cells cs T (0, 0)) := by
  rcases h.2 with ⟨_, rfl⟩ | ⟨g, cap, cur, rfl, _, hg, h1, h2, _⟩
  · exact absurd h0 (by omega)
  · exact ⟨g, cap, rfl, h1, h2, cur, hg⟩
end Go.Proofs.YtnancphlkbfglaaGreatDoor.Nm
