/- Packed texts: NorNodeR, TreMem, NorChain -/
import Derived.Test.YtnancphlkbfglaaGreatDoorPn16
import Derived.Test.YtnancphlkbfglaaGreatDoorPn01
import Derived.Test.YtnancphlkbfglaaGreatDoorPn02
import Derived.Lib.Hide
import Derived.Test.YtnancphlkbfglaaGreatDoorPn15
import Derived.Deep.CutRange
set_option linter.unusedVariables false
set_option linter.unusedSimpArgs false
/- The document's node of a graph. -/
namespace Go.Proofs.YtnancphlkbfglaaGreatDoor.Nm
open Go.RowKit Go.Sort Go.Lib Go.Shelf Fx Lx Tr At

/-- A node is the first with its name, or there is one before it. -/
theorem find_first {L : List Nd} {i : Nat} (hi : i < L.length) : findT L L[i].name = (i : Int) ∨ ((L.take i).any fun p => decide (p.name = L[i].name)) = true ∧ findT L L[i].name ≠ (i : Int) := by
  by_cases h : ∀ j (hj : j < L.length), j < i → L[j].name ≠ L[i].name
  · left
    unfold findT
    rw [findGo_hit L[i].name L 0 i hi h rfl]; omega
  · right
    have key : ∀ k, (∃ j, ∃ hj : j < L.length, j ≤ k ∧ L[j].name = L[i].name) → ∃ j, ∃ hj : j < L.length, j ≤ k ∧ L[j].name = L[i].name ∧ ∀ m (hm : m < L.length), m < j → L[m].name ≠ L[i].name := by
      intro k
      induction k with
      | zero => rintro ⟨j, hj, h1, h2⟩; exact ⟨j, hj, h1, h2, fun m _ hm => by omega⟩
      | succ k ih =>
        rintro ⟨j, hj, h1, h2⟩
        by_cases hs : ∃ j, ∃ hj : j < L.length, j ≤ k ∧ L[j].name = L[i].name
        · obtain ⟨j', hj', a, b⟩ := ih hs
          exact ⟨j', hj', by omega, b⟩
        · exact ⟨j, hj, h1, h2, fun m hm hmj e => hs ⟨m, hm, by omega, e⟩⟩
    obtain ⟨j0, hj0, h0, h1⟩ : ∃ j, ∃ hj : j < L.length, j < i ∧ L[j].name = L[i].name := by
      by_cases hc : ∃ j, ∃ hj : j < L.length, j < i ∧ L[j].name = L[i].name
      · exact hc
      · exact absurd (fun j hj hji e => hc ⟨j, hj, hji, e⟩) h
    obtain ⟨j, hj, a, b, c⟩ := key j0 ⟨j0, hj0, Nat.le_refl _, h1⟩
    refine ⟨?_, ?_⟩
    · rw [List.any_eq_true]
      exact ⟨L[j], by rw [List.mem_take_iff_getElem]; exact ⟨j, by omega, rfl⟩, decide_eq_true b⟩
    · unfold findT
      rw [findGo_hit L[i].name L 0 j hj c b]; omega
theorem find_same {L : List Nd} {i : Nat} (hi : i < L.length) (h : findT L L[i].name = (i : Int)) : ((L.take i).any fun p => decide (p.name = L[i].name)) = false := by
  cases hb : ((L.take i).any fun p => decide (p.name = L[i].name)) with
  | false => rfl
  | true =>
    exfalso
    rw [List.any_eq_true] at hb
    obtain ⟨p, hp, he⟩ := hb
    rw [List.mem_take_iff_getElem] at hp
    obtain ⟨j, hj, rfl⟩ := hp
    have he := of_decide_eq_true he
    have key : ∀ (M : List Nd) (n : ByteArray) (b : Int) (j : Nat) (hj : j < M.length), M[j].name = n → findGo n b M ≤ b + j := by
      intro M n
      induction M with
      | nil => intro b j hj; exact absurd hj (by simp)
      | cons x M ih =>
        intro b j hj hx
        unfold findGo
        by_cases hx0 : x.name = n
        · rw [if_pos hx0]; omega
        · rw [if_neg hx0]
          cases j with
          | zero => exact absurd hx hx0
          | succ j =>
            have := ih (b + 1) j (by simpa using hj) hx
            omega
    have := key L L[i].name 0 j (by omega) he
    unfold findT at h
    omega
theorem nfacts {x k : Int} (h : x ≠ k) : (x == k) = false ∧ (x != k) = true := by
  have : (x == k) = false := by rw [beq_eq_false_iff_ne]; exact h
  exact ⟨this, by rw [bne, this]; rfl⟩
theorem efacts (x : Int) : (x == x) = true ∧ (x != x) = false := by
  have : (x == x) = true := by rw [beq_iff_eq]
  exact ⟨this, by rw [bne, this]; rfl⟩
set_option maxHeartbeats 8000000 in
set_option maxRecDepth 100000 in
theorem nodeR_any (g : Gr) (va : Value) (i : Nat) (w : World) (ha : GrIn w va g) (hi : i < g.N.length) (hN : g.N.length ≤ 1000000) (hC : g.C.length ≤ 1000000)
    (hs : ∀ x ∈ g.N, x.name.size ≤ 4611686018427387904 ∧ x.label.size ≤ 4611686018427387904 ∧ x.ports.length ≤ 1000000 ∧ ∀ q ∈ x.ports, q.1.size ≤ 9223372036854775807) :
    Calls Tryz.prog 36 #[va, .int .i64 (i : Int)] w fun e w' => e = .returned (.int .i64 (ndE g.C.length (g.N.take i) g.N[i])) ∧ Ext w w' := by
  have hfi := fun (w5 : World) (x : Ext w w5) => findR_any g va g.N[i].name w5 (ha.ext x) (by omega)
  have hfirst := find_first hi
  have hfsame := find_same hi
  obtain ⟨hs1, hs2, hs3, hs4⟩ := hs _ (List.getElem_mem hi)
  obtain ⟨na, nac, ea, eac, ca, cac, rfl, a1, -, -⟩ := ha
  obtain ⟨nm, dir, NN, EE, CC⟩ := g
  dsimp only at *
  obtain ⟨V, hV⟩ : ∃ V, V = ndE CC.length (NN.take i) NN[i] := ⟨_, rfl⟩
  rw [← hV]
  unfold ndE at hV
  obtain ⟨q, hq⟩ : ∃ n, n = NN.length := ⟨_, rfl⟩
  obtain ⟨el, hel⟩ : ∃ n, n = EE.length := ⟨_, rfl⟩
  obtain ⟨cl, hcl⟩ : ∃ n, n = CC.length := ⟨_, rfl⟩
  rw [← hq] at hN ⊢
  rw [← hq] at hfi
  rw [← hel] at hfi ⊢
  rw [← hcl] at hfi hC hV ⊢
  have hiq : i < q := by rw [hq]; exact hi
  have A1 := Lib.hid a1
  obtain ⟨g1, o1, p1, c1, hna, x0, x1, x2, x3, x4, x5, x6⟩ := a1 i hi
  have hpo := fun (w5 : World) (x : Ext w w5) => portsER_any p1 NN[i].ports c1 w5 (x6.ext x) hs3 hs4
  have hnmc := isNameR_any NN[i].name (by omega)
  have hplc := plainR_any NN[i].label hs2
  obtain ⟨F, hF⟩ : ∃ F, F = findT NN NN[i].name := ⟨_, rfl⟩
  rw [← hF] at hfi hfirst hfsame
  obtain ⟨DA, hDA⟩ : ∃ b, b = (NN.take i).any fun p => decide (p.name = NN[i].name) := ⟨_, rfl⟩
  rw [← hDA] at hfirst hfsame hV
  obtain ⟨z, hz⟩ : ∃ z, z = NN[i] := ⟨_, rfl⟩
  rw [← hz] at x0 x1 x2 x3 x4 x5 hV hs1 hs2 hs3 hs4 hpo hnmc hplc hfi
  obtain ⟨z0, z1, z2, z3, z4, z5⟩ := z
  dsimp only at *
  unfold labE at hV
  unfold prtE at hV
  subst hna
  obtain ⟨pl, hpl⟩ : ∃ n, n = z5.length := ⟨_, rfl⟩
  rw [← hpl] at x5 hpo hV hs3
  obtain ⟨nb, hnb⟩ : ∃ b, b = nameB z0.data.toList := ⟨_, rfl⟩
  rw [← hnb] at hnmc hV
  obtain ⟨pb, hpb⟩ : ∃ b, b = z1.data.toList.all Tr.okT := ⟨_, rfl⟩
  rw [← hpb] at hplc hV
  obtain ⟨PE, hPE⟩ : ∃ e, e = prtGo z5 [] := ⟨_, rfl⟩
  rw [← hPE] at hpo hV
  have HFI := Lib.hid hfi; have HPO := Lib.hid hpo; have HNM := Lib.hid hnmc; have HPL := Lib.hid hplc; have HV := Lib.hid hV
  have HFF : Hid ((F = (i : Int) ∧ DA = false) ∨ (DA = true ∧ F ≠ (i : Int))) := Lib.hid (hfirst.elim (fun h => .inl ⟨h, hfsame h⟩) .inr)
  have b0 : (0 : Int) ≤ (i : Int) := by omega
  have b1 : (i : Int) < (q : Int) := by omega
  clear hfi hpo hnmc hplc hV hfirst hfsame hF hDA hz hpl hnb hpb hPE hs4 x6 hq hel hcl hi A1 hs
  go_enter Tryz.func36, Tryz.ntmps36
  have y0 := fun ob => ((Ext.refl w).alloc ob).cell x0
  have y1 := fun ob => ((Ext.refl w).alloc ob).cell x1
  have y2 := fun ob => ((Ext.refl w).alloc ob).cell x2
  have y3 := fun ob => ((Ext.refl w).alloc ob).cell x3
  have y4 := fun ob => ((Ext.refl w).alloc ob).cell x4
  have y5 := fun ob => ((Ext.refl w).alloc ob).cell x5
  clear x0 x1 x2 x3 x4 x5
  cases nb with
  | false =>
    have hr : Hid (V = 5) := Lib.hid (by rw [HV.out, if_pos rfl])
    clear HV
    go_wp2_with (first
      | (go_at_call 35; refine (HNM.out _).mono ?_; rintro e w2 ⟨rfl, rfl⟩)
      | (go_at_call 85; refine (HFI.out _ (((Ext.refl _).alloc _).alloc _)).mono ?_; rintro e w3 ⟨rfl, x3⟩; have bb := boxes x3; have n1 := bb.2 1 _ rfl; have n2 := bb.2 2 _ rfl; have n3 := bb.2 3 _ rfl; have n4 := bb.2 4 _ rfl; have n5 := bb.2 5 _ rfl; have n6 := bb.1 4 _ rfl; clear bb)
      | (go_at_call 86; refine (HPL.out _).mono ?_; rintro e w4 ⟨rfl, rfl⟩)
      | (go_at_call 87; refine (HPO.out _ ((((Ext.refl _).alloc _).alloc _).trans x3)).mono ?_; rintro e w5 ⟨rfl, x5'⟩))
    go_ret
    exact ⟨ret_i hr.out.symm, ((Ext.refl _).alloc _).alloc _⟩
  | true =>
    rcases HFF.out with ⟨hF, hD⟩ | ⟨hD, hF⟩
    case inr =>
      obtain ⟨f1, f2⟩ := nfacts hF
      subst hD
      have hr : Hid (V = 6) := Lib.hid (by rw [HV.out, if_neg (by decide), if_pos rfl])
      clear HV
      go_wp2_with (first
        | (go_at_call 35; refine (HNM.out _).mono ?_; rintro e w2 ⟨rfl, rfl⟩)
        | (go_at_call 85; refine (HFI.out _ (((Ext.refl _).alloc _).alloc _)).mono ?_; rintro e w3 ⟨rfl, x3⟩; have bb := boxes x3; have n1 := bb.2 1 _ rfl; have n2 := bb.2 2 _ rfl; have n3 := bb.2 3 _ rfl; have n4 := bb.2 4 _ rfl; have n5 := bb.2 5 _ rfl; have n6 := bb.1 4 _ rfl; clear bb)
        | (go_at_call 86; refine (HPL.out _).mono ?_; rintro e w4 ⟨rfl, rfl⟩)
        | (go_at_call 87; refine (HPO.out _ ((((Ext.refl _).alloc _).alloc _).trans x3)).mono ?_; rintro e w5 ⟨rfl, x5'⟩))
      go_ret
      exact ⟨ret_i hr.out.symm, (((Ext.refl _).alloc _).alloc _).trans x3⟩
    case inl =>
    subst hD; subst hF
    obtain ⟨f1, f2⟩ := efacts (i : Int)
    have HV1 : Hid (V = if ((if 32 < z1.size then 2 else if pb = false then 7 else 0 : Int)) ≠ 0 then (if 32 < z1.size then 2 else if pb = false then 7 else 0) else if z2 < 1 ∨ 1048576 < z2 ∨ z3 < 1 ∨ 1048576 < z3 ∨ z4 < -1 ∨ (cl : Int) ≤ z4 then 3 else if 8 < pl then 2 else PE) := Lib.hid (by rw [HV.out]; simp)
    clear HV HFF
    have HV := HV1
    clear HV1
    by_cases h32 : 32 < z1.size
    · have g1 : decide ((32 : Int) < z1.size) = true := decide_eq_true (by omega)
      have hr : Hid (V = 2) := Lib.hid (by rw [HV.out]; simp [h32])
      clear HV
      go_wp2_with (first
        | (go_at_call 35; refine (HNM.out _).mono ?_; rintro e w2 ⟨rfl, rfl⟩)
        | (go_at_call 85; refine (HFI.out _ (((Ext.refl _).alloc _).alloc _)).mono ?_; rintro e w3 ⟨rfl, x3⟩; have bb := boxes x3; have n1 := bb.2 1 _ rfl; have n2 := bb.2 2 _ rfl; have n3 := bb.2 3 _ rfl; have n4 := bb.2 4 _ rfl; have n5 := bb.2 5 _ rfl; have n6 := bb.1 4 _ rfl; clear bb)
        | (go_at_call 86; refine (HPL.out _).mono ?_; rintro e w4 ⟨rfl, rfl⟩)
        | (go_at_call 87; refine (HPO.out _ ((((Ext.refl _).alloc _).alloc _).trans x3)).mono ?_; rintro e w5 ⟨rfl, x5'⟩))
      go_ret
      exact ⟨ret_i hr.out.symm, (((Ext.refl _).alloc _).alloc _).trans x3⟩
    · have g1 : decide ((32 : Int) < z1.size) = false := decide_eq_false (by omega)
      cases pb with
      | false =>
        have hr : Hid (V = 7) := Lib.hid (by rw [HV.out]; simp [h32])
        clear HV
        go_wp2_with (first
          | (go_at_call 35; refine (HNM.out _).mono ?_; rintro e w2 ⟨rfl, rfl⟩)
          | (go_at_call 85; refine (HFI.out _ (((Ext.refl _).alloc _).alloc _)).mono ?_; rintro e w3 ⟨rfl, x3⟩; have bb := boxes x3; have n1 := bb.2 1 _ rfl; have n2 := bb.2 2 _ rfl; have n3 := bb.2 3 _ rfl; have n4 := bb.2 4 _ rfl; have n5 := bb.2 5 _ rfl; have n6 := bb.1 4 _ rfl; clear bb)
          | (go_at_call 86; refine (HPL.out _).mono ?_; rintro e w4 ⟨rfl, rfl⟩)
          | (go_at_call 87; refine (HPO.out _ ((((Ext.refl _).alloc _).alloc _).trans x3)).mono ?_; rintro e w5 ⟨rfl, x5'⟩))
        go_ret
        exact ⟨ret_i hr.out.symm, (((Ext.refl _).alloc _).alloc _).trans x3⟩
      | true =>
        have HV1 : Hid (V = if z2 < 1 ∨ 1048576 < z2 ∨ z3 < 1 ∨ 1048576 < z3 ∨ z4 < -1 ∨ (cl : Int) ≤ z4 then 3 else if 8 < pl then 2 else PE) := Lib.hid (by rw [HV.out]; simp [h32])
        clear HV
        have HV := HV1
        clear HV1 h32
        by_cases r0 : z2 < 1
        · have t0 : decide (z2 < 1) = true := decide_eq_true r0
          have hr : Hid (V = 3) := Lib.hid (by rw [HV.out, if_pos (.inl r0)])
          clear HV
          go_wp2_with (first
            | (go_at_call 35; refine (HNM.out _).mono ?_; rintro e w2 ⟨rfl, rfl⟩)
            | (go_at_call 85; refine (HFI.out _ (((Ext.refl _).alloc _).alloc _)).mono ?_; rintro e w3 ⟨rfl, x3⟩; have bb := boxes x3; have n1 := bb.2 1 _ rfl; have n2 := bb.2 2 _ rfl; have n3 := bb.2 3 _ rfl; have n4 := bb.2 4 _ rfl; have n5 := bb.2 5 _ rfl; have n6 := bb.1 4 _ rfl; clear bb)
            | (go_at_call 86; refine (HPL.out _).mono ?_; rintro e w4 ⟨rfl, rfl⟩)
            | (go_at_call 87; refine (HPO.out _ ((((Ext.refl _).alloc _).alloc _).trans x3)).mono ?_; rintro e w5 ⟨rfl, x5'⟩))
          go_ret
          exact ⟨ret_i hr.out.symm, (((Ext.refl _).alloc _).alloc _).trans x3⟩
        have t0 : decide (z2 < 1) = false := decide_eq_false r0
        by_cases r1 : 1048576 < z2
        · have t1 : decide (1048576 < z2) = true := decide_eq_true r1
          have hr : Hid (V = 3) := Lib.hid (by rw [HV.out, if_pos (.inr (.inl r1))])
          clear HV
          go_wp2_with (first
            | (go_at_call 35; refine (HNM.out _).mono ?_; rintro e w2 ⟨rfl, rfl⟩)
            | (go_at_call 85; refine (HFI.out _ (((Ext.refl _).alloc _).alloc _)).mono ?_; rintro e w3 ⟨rfl, x3⟩; have bb := boxes x3; have n1 := bb.2 1 _ rfl; have n2 := bb.2 2 _ rfl; have n3 := bb.2 3 _ rfl; have n4 := bb.2 4 _ rfl; have n5 := bb.2 5 _ rfl; have n6 := bb.1 4 _ rfl; clear bb)
            | (go_at_call 86; refine (HPL.out _).mono ?_; rintro e w4 ⟨rfl, rfl⟩)
            | (go_at_call 87; refine (HPO.out _ ((((Ext.refl _).alloc _).alloc _).trans x3)).mono ?_; rintro e w5 ⟨rfl, x5'⟩))
          go_ret
          exact ⟨ret_i hr.out.symm, (((Ext.refl _).alloc _).alloc _).trans x3⟩
        have t1 : decide (1048576 < z2) = false := decide_eq_false r1
        by_cases r2 : z3 < 1
        · have t2 : decide (z3 < 1) = true := decide_eq_true r2
          have hr : Hid (V = 3) := Lib.hid (by rw [HV.out, if_pos (.inr (.inr (.inl r2)))])
          clear HV
          go_wp2_with (first
            | (go_at_call 35; refine (HNM.out _).mono ?_; rintro e w2 ⟨rfl, rfl⟩)
            | (go_at_call 85; refine (HFI.out _ (((Ext.refl _).alloc _).alloc _)).mono ?_; rintro e w3 ⟨rfl, x3⟩; have bb := boxes x3; have n1 := bb.2 1 _ rfl; have n2 := bb.2 2 _ rfl; have n3 := bb.2 3 _ rfl; have n4 := bb.2 4 _ rfl; have n5 := bb.2 5 _ rfl; have n6 := bb.1 4 _ rfl; clear bb)
            | (go_at_call 86; refine (HPL.out _).mono ?_; rintro e w4 ⟨rfl, rfl⟩)
            | (go_at_call 87; refine (HPO.out _ ((((Ext.refl _).alloc _).alloc _).trans x3)).mono ?_; rintro e w5 ⟨rfl, x5'⟩))
          go_ret
          exact ⟨ret_i hr.out.symm, (((Ext.refl _).alloc _).alloc _).trans x3⟩
        have t2 : decide (z3 < 1) = false := decide_eq_false r2
        by_cases r3 : 1048576 < z3
        · have t3 : decide (1048576 < z3) = true := decide_eq_true r3
          have hr : Hid (V = 3) := Lib.hid (by rw [HV.out, if_pos (.inr (.inr (.inr (.inl r3))))])
          clear HV
          go_wp2_with (first
            | (go_at_call 35; refine (HNM.out _).mono ?_; rintro e w2 ⟨rfl, rfl⟩)
            | (go_at_call 85; refine (HFI.out _ (((Ext.refl _).alloc _).alloc _)).mono ?_; rintro e w3 ⟨rfl, x3⟩; have bb := boxes x3; have n1 := bb.2 1 _ rfl; have n2 := bb.2 2 _ rfl; have n3 := bb.2 3 _ rfl; have n4 := bb.2 4 _ rfl; have n5 := bb.2 5 _ rfl; have n6 := bb.1 4 _ rfl; clear bb)
            | (go_at_call 86; refine (HPL.out _).mono ?_; rintro e w4 ⟨rfl, rfl⟩)
            | (go_at_call 87; refine (HPO.out _ ((((Ext.refl _).alloc _).alloc _).trans x3)).mono ?_; rintro e w5 ⟨rfl, x5'⟩))
          go_ret
          exact ⟨ret_i hr.out.symm, (((Ext.refl _).alloc _).alloc _).trans x3⟩
        have t3 : decide (1048576 < z3) = false := decide_eq_false r3
        by_cases r4 : z4 < -1
        · have t4 : decide (z4 < -1) = true := decide_eq_true r4
          have hr : Hid (V = 3) := Lib.hid (by rw [HV.out, if_pos (.inr (.inr (.inr (.inr (.inl r4)))))])
          clear HV
          go_wp2_with (first
            | (go_at_call 35; refine (HNM.out _).mono ?_; rintro e w2 ⟨rfl, rfl⟩)
            | (go_at_call 85; refine (HFI.out _ (((Ext.refl _).alloc _).alloc _)).mono ?_; rintro e w3 ⟨rfl, x3⟩; have bb := boxes x3; have n1 := bb.2 1 _ rfl; have n2 := bb.2 2 _ rfl; have n3 := bb.2 3 _ rfl; have n4 := bb.2 4 _ rfl; have n5 := bb.2 5 _ rfl; have n6 := bb.1 4 _ rfl; clear bb)
            | (go_at_call 86; refine (HPL.out _).mono ?_; rintro e w4 ⟨rfl, rfl⟩)
            | (go_at_call 87; refine (HPO.out _ ((((Ext.refl _).alloc _).alloc _).trans x3)).mono ?_; rintro e w5 ⟨rfl, x5'⟩))
          go_ret
          exact ⟨ret_i hr.out.symm, (((Ext.refl _).alloc _).alloc _).trans x3⟩
        have t4 : decide (z4 < -1) = false := decide_eq_false r4
        by_cases r5 : (cl : Int) ≤ z4
        · have t5 : decide ((cl : Int) ≤ z4) = true := decide_eq_true r5
          have hr : Hid (V = 3) := Lib.hid (by rw [HV.out, if_pos (.inr (.inr (.inr (.inr (.inr (r5))))))])
          clear HV
          go_wp2_with (first
            | (go_at_call 35; refine (HNM.out _).mono ?_; rintro e w2 ⟨rfl, rfl⟩)
            | (go_at_call 85; refine (HFI.out _ (((Ext.refl _).alloc _).alloc _)).mono ?_; rintro e w3 ⟨rfl, x3⟩; have bb := boxes x3; have n1 := bb.2 1 _ rfl; have n2 := bb.2 2 _ rfl; have n3 := bb.2 3 _ rfl; have n4 := bb.2 4 _ rfl; have n5 := bb.2 5 _ rfl; have n6 := bb.1 4 _ rfl; clear bb)
            | (go_at_call 86; refine (HPL.out _).mono ?_; rintro e w4 ⟨rfl, rfl⟩)
            | (go_at_call 87; refine (HPO.out _ ((((Ext.refl _).alloc _).alloc _).trans x3)).mono ?_; rintro e w5 ⟨rfl, x5'⟩))
          go_ret
          exact ⟨ret_i hr.out.symm, (((Ext.refl _).alloc _).alloc _).trans x3⟩
        have t5 : decide ((cl : Int) ≤ z4) = false := decide_eq_false r5
        have HV1 : Hid (V = if 8 < pl then 2 else PE) := Lib.hid (by rw [HV.out, if_neg (by omega)])
        clear HV
        have HV := HV1
        clear HV1 r0 r1 r2 r3 r4 r5
        by_cases h8 : 8 < pl
        · have g8 : decide ((8 : Int) < pl) = true := decide_eq_true (by omega)
          have hr : Hid (V = 2) := Lib.hid (by rw [HV.out, if_pos h8])
          clear HV
          go_wp2_with (first
            | (go_at_call 35; refine (HNM.out _).mono ?_; rintro e w2 ⟨rfl, rfl⟩)
            | (go_at_call 85; refine (HFI.out _ (((Ext.refl _).alloc _).alloc _)).mono ?_; rintro e w3 ⟨rfl, x3⟩; have bb := boxes x3; have n1 := bb.2 1 _ rfl; have n2 := bb.2 2 _ rfl; have n3 := bb.2 3 _ rfl; have n4 := bb.2 4 _ rfl; have n5 := bb.2 5 _ rfl; have n6 := bb.1 4 _ rfl; clear bb)
            | (go_at_call 86; refine (HPL.out _).mono ?_; rintro e w4 ⟨rfl, rfl⟩)
            | (go_at_call 87; refine (HPO.out _ ((((Ext.refl _).alloc _).alloc _).trans x3)).mono ?_; rintro e w5 ⟨rfl, x5'⟩))
          go_ret
          exact ⟨ret_i hr.out.symm, (((Ext.refl _).alloc _).alloc _).trans x3⟩
        · have g8 : decide ((8 : Int) < pl) = false := decide_eq_false (by omega)
          have hr : Hid (V = PE) := Lib.hid (by rw [HV.out, if_neg h8])
          clear HV
          go_wp2_with (first
            | (go_at_call 35; refine (HNM.out _).mono ?_; rintro e w2 ⟨rfl, rfl⟩)
            | (go_at_call 85; refine (HFI.out _ (((Ext.refl _).alloc _).alloc _)).mono ?_; rintro e w3 ⟨rfl, x3⟩; have bb := boxes x3; have n1 := bb.2 1 _ rfl; have n2 := bb.2 2 _ rfl; have n3 := bb.2 3 _ rfl; have n4 := bb.2 4 _ rfl; have n5 := bb.2 5 _ rfl; have n6 := bb.1 4 _ rfl; clear bb)
            | (go_at_call 86; refine (HPL.out _).mono ?_; rintro e w4 ⟨rfl, rfl⟩)
            | (go_at_call 87; refine (HPO.out _ ((((Ext.refl _).alloc _).alloc _).trans x3)).mono ?_; rintro e w5 ⟨rfl, x5'⟩))
          go_ret
          exact ⟨ret_i hr.out.symm, ((((Ext.refl _).alloc _).alloc _).trans x3).trans x5'⟩
end Go.Proofs.YtnancphlkbfglaaGreatDoor.Nm

/- Trees of statements in memory. -/
namespace Go.Proofs.YtnancphlkbfglaaGreatDoor.Tr
open Go.RowKit Go.Lib Fx Lx

/-- A list of pairs of texts (references, attributes) behind a slice, below block n. -/
def TwoAt (n : Nat) (w : World) (a : Option Addr) (L : List Two) : Prop :=
  ∀ k (h : k < L.length), ∃ g o, a = some ⟨g, o, none⟩ ∧ g < n ∧ w.cell? ⟨g, o + k * 2, none⟩ = some (.string L[k].1) ∧ w.cell? ⟨g, o + k * 2 + 1, none⟩ = some (.string L[k].2)
theorem TwoAt.below {n : Nat} {w w' : World} {a : Option Addr} {L : List Two} (h : TwoAt n w a L) (x : Below n w w') : TwoAt n w' a L := fun k hk => by
  obtain ⟨g, o, ha, hg, h0, h1⟩ := h k hk
  exact ⟨g, o, ha, hg, (x.cell (p := ⟨g, o + k * 2, none⟩) hg).trans h0, (x.cell (p := ⟨g, o + k * 2 + 1, none⟩) hg).trans h1⟩
theorem TwoAt.mono {n m : Nat} {w : World} {a : Option Addr} {L : List Two} (h : TwoAt n w a L) (hm : n ≤ m) : TwoAt m w a L := fun k hk => by
  obtain ⟨g, o, ha, hg, r⟩ := h k hk
  exact ⟨g, o, ha, by omega, r⟩
theorem TwoAt.take {n : Nat} {w : World} {a : Option Addr} {L : List Two} (h : TwoAt n w a L) (i : Nat) : TwoAt n w a (L.take i) := fun k hk => by
  have hk' : k < L.length := by simp at hk; omega
  obtain ⟨g, o, ha, hg, r⟩ := h k hk'
  rw [List.getElem_take]
  exact ⟨g, o, ha, hg, r⟩
mutual
/-- The five cells of a statement, and what they lead to, below block n. -/
def StmAt (n : Nat) (w : World) (g o : Nat) : Stm → Prop
  | .mk k nm rs al body => ∃ r rc a ac b bc, w.cell? ⟨g, o, none⟩ = some (.int .i64 k) ∧ w.cell? ⟨g, o + 1, none⟩ = some (.string nm) ∧
      w.cell? ⟨g, o + 2, none⟩ = some (.slice r rs.length rc) ∧ w.cell? ⟨g, o + 3, none⟩ = some (.slice a al.length ac) ∧ w.cell? ⟨g, o + 4, none⟩ = some (.slice b body.length bc) ∧
      TwoAt n w r rs ∧ TwoAt n w a al ∧ StmsAt n w b body ∧ rs.length ≤ rc ∧ al.length ≤ ac ∧ rc ≤ maxLen ∧ ac ≤ maxLen ∧ body.length ≤ maxLen
/-- A list of statements behind a slice. -/
def StmsAt (n : Nat) (w : World) (b : Option Addr) : List Stm → Prop
  | [] => True
  | x :: r => ∃ g o, b = some ⟨g, o, none⟩ ∧ g < n ∧ StmAt n w g o x ∧ StmsAt n w (some ⟨g, o + 5, none⟩) r
end
theorem stmAt_eq (n : Nat) (w : World) (g o : Nat) (x : Stm) : StmAt n w g o x ↔ ∃ r rc a ac b bc, w.cell? ⟨g, o, none⟩ = some (.int .i64 x.kind) ∧ w.cell? ⟨g, o + 1, none⟩ = some (.string x.name) ∧
      w.cell? ⟨g, o + 2, none⟩ = some (.slice r x.refs.length rc) ∧ w.cell? ⟨g, o + 3, none⟩ = some (.slice a x.attrs.length ac) ∧ w.cell? ⟨g, o + 4, none⟩ = some (.slice b x.body.length bc) ∧
      TwoAt n w r x.refs ∧ TwoAt n w a x.attrs ∧ StmsAt n w b x.body ∧ x.refs.length ≤ rc ∧ x.attrs.length ≤ ac ∧ rc ≤ maxLen ∧ ac ≤ maxLen ∧ x.body.length ≤ maxLen := by
  cases x; rw [StmAt]; rfl
theorem stmsAt_cons (n : Nat) (w : World) (b : Option Addr) (x : Stm) (r : List Stm) : StmsAt n w b (x :: r) ↔ ∃ g o, b = some ⟨g, o, none⟩ ∧ g < n ∧ StmAt n w g o x ∧ StmsAt n w (some ⟨g, o + 5, none⟩) r := by rw [StmsAt]
mutual
theorem StmAt.below {n : Nat} {w w' : World} (x : Below n w w') : ∀ {g o : Nat} (s : Stm), g < n → StmAt n w g o s → StmAt n w' g o s
  | g, o, .mk k nm rs al body, hg, h => by
    rw [StmAt] at h ⊢
    obtain ⟨r, rc, a, ac, b, bc, h0, h1, h2, h3, h4, hr, ha, hb, hl⟩ := h
    exact ⟨r, rc, a, ac, b, bc, (x.cell (p := ⟨g, o, none⟩) hg).trans h0, (x.cell (p := ⟨g, o + 1, none⟩) hg).trans h1, (x.cell (p := ⟨g, o + 2, none⟩) hg).trans h2, (x.cell (p := ⟨g, o + 3, none⟩) hg).trans h3, (x.cell (p := ⟨g, o + 4, none⟩) hg).trans h4, hr.below x, ha.below x, StmsAt.below x body hb, hl⟩
theorem StmsAt.below {n : Nat} {w w' : World} (x : Below n w w') : ∀ {b : Option Addr} (L : List Stm), StmsAt n w b L → StmsAt n w' b L
  | _, [], _ => by rw [StmsAt]; trivial
  | b, s :: r, h => by
    rw [StmsAt] at h ⊢
    obtain ⟨g, o, hb, hg, hs, hr⟩ := h
    exact ⟨g, o, hb, hg, StmAt.below x s hg hs, StmsAt.below x r hr⟩
end
mutual
theorem StmAt.mono {n m : Nat} {w : World} (hm : n ≤ m) : ∀ {g o : Nat} (s : Stm), StmAt n w g o s → StmAt m w g o s
  | g, o, .mk k nm rs al body, h => by
    rw [StmAt] at h ⊢
    obtain ⟨r, rc, a, ac, b, bc, h0, h1, h2, h3, h4, hr, ha, hb, hl⟩ := h
    exact ⟨r, rc, a, ac, b, bc, h0, h1, h2, h3, h4, hr.mono hm, ha.mono hm, StmsAt.mono hm body hb, hl⟩
theorem StmsAt.mono {n m : Nat} {w : World} (hm : n ≤ m) : ∀ {b : Option Addr} (L : List Stm), StmsAt n w b L → StmsAt m w b L
  | _, [], _ => by rw [StmsAt]; trivial
  | b, s :: r, h => by
    rw [StmsAt] at h ⊢
    obtain ⟨g, o, hb, hg, hs, hr⟩ := h
    exact ⟨g, o, hb, by omega, StmAt.mono hm s hs, StmsAt.mono hm r hr⟩
end
/-- The statement at a place of the list. -/
theorem StmsAt.at {n : Nat} {w : World} : ∀ {b : Option Addr} (L : List Stm), StmsAt n w b L → ∀ k (hk : k < L.length), ∃ g o, b = some ⟨g, o, none⟩ ∧ g < n ∧ StmAt n w g (o + k * 5) L[k]
  | _, [], _, k, hk => absurd hk (by simp)
  | b, s :: r, h, 0, _ => by
    rw [StmsAt] at h
    obtain ⟨g, o, hb, hg, hs, _⟩ := h
    exact ⟨g, o, hb, hg, by rw [Nat.zero_mul, Nat.add_zero]; exact hs⟩
  | b, s :: r, h, k + 1, hk => by
    rw [StmsAt] at h
    obtain ⟨g, o, hb, hg, _, hr⟩ := h
    obtain ⟨g', o', hb', hg', hs'⟩ := StmsAt.at r hr k (by simpa using hk)
    injection hb' with hb'; injection hb' with e1 e2 _
    subst e1; subst e2
    refine ⟨g, o, hb, hg, ?_⟩
    rw [show o + (k + 1) * 5 = o + 5 + k * 5 by omega]
    exact hs'
/-- A list of statements is where each of its statements is. -/
theorem StmsAt.of {n : Nat} {w : World} : ∀ (g o : Nat) (L : List Stm), g < n → (∀ k (hk : k < L.length), StmAt n w g (o + k * 5) L[k]) → StmsAt n w (some ⟨g, o, none⟩) L
  | g, o, [], _, _ => by rw [StmsAt]; trivial
  | g, o, s :: r, hg, h => by
    rw [StmsAt]
    refine ⟨g, o, rfl, hg, (by have h0 := h 0 (Nat.zero_lt_succ _); rw [Nat.zero_mul, Nat.add_zero] at h0; exact h0), StmsAt.of g (o + 5) r hg fun k hk => ?_⟩
    have := h (k + 1) (by simpa using hk)
    rw [show o + 5 + k * 5 = o + (k + 1) * 5 by omega]
    exact this
end Go.Proofs.YtnancphlkbfglaaGreatDoor.Tr

/- The program's chain. -/
namespace Go.Proofs.YtnancphlkbfglaaGreatDoor.Nm
open Go.RowKit Go.Sort Go.Lib Go.Shelf Fx Lx Tr At

/-- What a statement of a block hands back. -/
def BlkR (w0 : World) (bb m1 m2 B : Nat) (r : Except Int St) (e : Ending) (w' : World) : Prop :=
  match r with
  | .error er => e = .returned (.int .i64 er) ∧ er ≠ 0
  | .ok S => e = .returned (.int .i64 0) ∧ BldE w0 bb m1 m2 B w' S
theorem ment_err {n : ByteArray} {p : Pl} {S : St} {er : Int} (h : ment n p S = .error er) : er = 6 := by
  unfold ment at h
  split at h
  · injection h with h; exact h.symm
  · split at h <;> cases h
theorem two_atr {n : Nat} {w : World} {a : Option Addr} {L : List Two} (h : TwoAt n w a L) : AtrIn w a L := fun k hk => by
  obtain ⟨g, o, e, _, c0, c1⟩ := h k hk
  exact ⟨g, o, e, c0, c1⟩
/-- Where a chain stands. -/
structure ChnAt (w0 : World) (bb m1 m2 B : Nat) (p : Pl) (own : List Two) (R : Except Int St) (rs : List Two) (m k : Nat) (w : World) (gp ge : Nat) (pn pe ov : Value) (i : Nat) (S : St) (la : Nat) (lp : ByteArray) (wr : World) : Prop where
  r : R = chainT own p (rs.drop i) (if i = 0 then none else some (la, lp)) S
  s : Sml (m + i) (k + 1) S
  b : BldE w0 bb m1 m2 B wr S
  pl : wr.heap[gp]? = some (.cells #[.int .i64 p.c, pn, pe] 71 (0, 0))
  l : wr.heap[ge]? = some (.cells #[.int .i64 la, .string lp] 80 (0, 0))
  o : AtL wr ov own
  pn : AtL wr pn p.n
  ok : i ≠ 0 → la < S.N.length ∧ lp.size ≤ 64
  kb : KeepB w wr
theorem chainT_cons (own : List Two) (p : Pl) (r : Two) (rs : List Two) (last : Option (Nat × ByteArray)) (S : St) : chainT own p (r :: rs) last S = match ment r.1 p S with
    | .error e => .error e
    | .ok (v, S) => chainT own p rs (some (v, r.2)) (match last with | none => S | some l => { S with K := S.K ++ [⟨l.1, l.2, v, r.2, own⟩] }) := rfl
theorem AtL.other {w : World} {v : Value} {L : List Two} {cs : Array Value} {E : TypeId} {g j : Nat} {u : Value} (h : AtL w v L) (hb : w.heap[g]? = some (.cells cs E (0, 0))) (h6 : E ≠ 109) : AtL (w.setCell ⟨g, j, none⟩ u) v L := h.keep (set_grown w g j u) (cel_ty hb) (nope h6.symm)
/-- A round's end: the last end is stored. -/
theorem ChnAt.fin {w0 : World} {bb m1 m2 B : Nat} {p : Pl} {own : List Two} {R : Except Int St} {rs : List Two} {m k : Nat} {w : World} {gp ge : Nat} {pn pe ov : Value} {i : Nat} {S3 : St} {la v : Nat} {lp pt : ByteArray} {w6 : World} (hb : BldE w0 bb m1 m2 B w6 S3)
    (pl : w6.heap[gp]? = some (.cells #[.int .i64 p.c, pn, pe] 71 (0, 0))) (l : w6.heap[ge]? = some (.cells #[.int .i64 la, .string lp] 80 (0, 0))) (o : AtL w6 ov own) (hpn : AtL w6 pn p.n) (kb : KeepB w w6) (hge : w.heap.size ≤ ge) (hx : w0.heap.size ≤ w.heap.size)
    (r : R = chainT own p (rs.drop (i + 1)) (some (v, pt)) S3) (s : Sml (m + (i + 1)) (k + 1) S3) (ok : v < S3.N.length ∧ pt.size ≤ 64) :
    ChnAt w0 bb m1 m2 B p own R rs m k w gp ge pn pe ov (i + 1) S3 v pt ((w6.setCell ⟨ge, 0, none⟩ (.int .i64 v)).setCell ⟨ge, 1, none⟩ (.string pt)) := by
  have l1 := blk_set l 0 (.int .i64 v)
  have l2 := blk_set l1 1 (.string pt)
  have hne : gp ≠ ge := fun e => by subst e; rw [pl] at l; injection l with l; injection l with _ l; exact absurd l (by decide)
  refine ⟨by rw [if_neg (by omega)]; exact r, s, ?_, ?_, l2, (o.other l (by decide)).other l1 (by decide), (hpn.other l (by decide)).other l1 (by decide), fun _ => ok, (kb.set hge).set hge⟩
  · obtain ⟨_, _, _, _, _, _, h⟩ := hb
    exact ⟨_, _, _, _, _, _, (h.other l (by omega) (by decide) (by decide) (by decide) (by decide) (by decide) (by decide)).other l1 (by omega) (by decide) (by decide) (by decide) (by decide) (by decide) (by decide)⟩
  · rw [Below.heap_setCell _ _ _ _ (show gp ≠ ge from hne), Below.heap_setCell _ _ _ _ (show gp ≠ ge from hne)]; exact pl
set_option maxHeartbeats 4000000 in
set_option maxRecDepth 100000 in
theorem chain_any (w0 : World) (bb m1 m2 B nn k : Nat) (nm : ByteArray) (rs al : List Two) (p : Pl) (pn pe : Value) (S : St) (r a b : Option Addr) (N Bn rc ac bc : Nat) (w : World) (hb : BldE w0 bb m1 m2 B w S) (hpn : AtL w pn p.n) (hpe : AtL w pe p.e)
    (hN : N = rs.length) (hr : TwoAt nn w0 r rs) (ha : TwoAt nn w0 a al) (hnn : nn ≤ w0.heap.size) (hs : Sml (10 * k) k S) (hp : SmP k p) (hk : k ≤ 512) (hrs : ∀ q ∈ rs, q.1.size ≤ 64 ∧ q.2.size ≤ 64) (hrl : rs.length ≤ 10) (hal : ∀ q ∈ al, q.1.size ≤ 64 ∧ q.2.size ≤ 64) (hll : al.length ≤ 20) :
    Calls Tryz.prog 58 #[.pointer (some ⟨bb, 0, none⟩), .agg #[.int .i64 2, .string nm, .slice r N rc, .slice a al.length ac, .slice b Bn bc], .agg #[.int .i64 p.c, pn, pe]] w fun e w' => BlkR w0 bb m1 m2 B (chainT (mrgT (p.e ++ al)) p rs none S) e w' ∧ KeepB w w' ∧ Ext w0 w' := by
  obtain ⟨R, hR⟩ : ∃ R, R = chainT (mrgT (p.e ++ al)) p rs none S := ⟨_, rfl⟩
  obtain ⟨own, ho⟩ : ∃ o, o = mrgT (p.e ++ al) := ⟨_, rfl⟩
  obtain ⟨pep, pec, rfl, hei, hez⟩ := hpe
  have hown : SmA (k + 1) own := by rw [ho]; exact hp.2.2.2.mrg hll hal
  have hx0 : Ext w0 w := by obtain ⟨_, _, _, _, _, _, h⟩ := hb; exact h.X
  have hmg := fun (w5 : World) (x : Ext w w5) => mrg0_any pep a p.e al pec ac w5 (hei.ext x) (two_atr (TwoAt.below ha ((hx0.trans x).mono hnn))) (by have := hp.2.2.2.1; omega) (by omega) (fun q hq => by
    rcases List.mem_append.1 hq with h | h
    · have := hp.2.2.2.2 q h; unfold maxLen; omega
    · have := hal q h; unfold maxLen; omega)
  rw [← ho] at hmg
  rw [← hR]
  rw [← ho] at hR
  obtain ⟨A, hA⟩ : ∃ A, A = al.length := ⟨_, rfl⟩
  obtain ⟨PE, hPE⟩ : ∃ A, A = p.e.length := ⟨_, rfl⟩
  rw [← hA, ← hPE] at hmg
  rw [← hA, ← hPE]
  have HMG := Lib.hid hmg
  have HRR := Lib.hid hR; have HB := Lib.hid hb; have HPN := Lib.hid hpn; have HTR := Lib.hid hr; have HS := Lib.hid hs; have HP := Lib.hid hp; have HRS := Lib.hid hrs; have HOW := Lib.hid hown; have HX0 := Lib.hid hx0; have HNL := Lib.hid hN; have HNN := Lib.hid hnn
  rw [← hN] at hrl
  clear hmg hR hb hpn hr ha hs hp hrs hown hx0 hal hll hA hPE hei hez ho hN hnn
  go_enter Tryz.func58, Tryz.ntmps58
  go_wp2_with (go_at_call 57; refine (HMG.out _ (((Ext.refl _).alloc _).alloc _)).mono ?_; rintro e w2 ⟨⟨oa, oc, rfl, hoi, hoz⟩, x2⟩; have HOV := Lib.hid (show AtL w2 (.slice oa own.length oc) own from ⟨oa, oc, rfl, hoi, hoz⟩); clear hoi hoz; have hbb := boxes x2; have q2 := fun ob => ((Ext.refl w2).alloc ob).cell (hbb.1 2 _ rfl))
  rw [show w.heap.size + 1 = w.heap.size + 1 from rfl]
  have hP2 := At.heap_ext (show ((w.alloc (.cells #[.int .i64 2, .string nm, .slice r N rc, .slice a A ac, .slice b Bn bc] 56)).alloc (.cells #[.int .i64 p.c, pn, .slice pep PE pec] 71)).heap[w.heap.size + 1]? = some (.cells #[.int .i64 p.c, pn, .slice pep PE pec] 71 (0, 0)) from by have h := heap_alloc_new (w.alloc (.cells #[.int .i64 2, .string nm, .slice r N rc, .slice a A ac, .slice b Bn bc] 56)) (.cells #[.int .i64 p.c, pn, .slice pep PE pec] 71); rw [World.size_alloc] at h; exact h) x2
  have xw2 : Ext w w2 := (((Ext.refl w).alloc _).alloc _).trans x2
  have hC : Hid (ChnAt w0 bb m1 m2 B p own R rs (10 * k) k w (w.heap.size + 1) w2.heap.size pn (.slice pep PE pec) (.slice oa own.length oc) 0 S 0 ⟨#[]⟩ (w2.alloc (.cells #[.int .i64 0, .string ⟨#[]⟩] 80))) := Lib.hid (by
    refine ⟨by rw [List.drop_zero, if_pos rfl]; exact HRR.out, HS.out.mono (Nat.le_refl _) (by omega), ?_, At.heap_ext hP2 ((Ext.refl _).alloc _), heap_alloc_new _ _, HOV.out.ext ((Ext.refl _).alloc _), HPN.out.ext (xw2.alloc _), fun h => absurd rfl h, KeepB.of (xw2.alloc _)⟩
    obtain ⟨_, _, _, _, _, _, h⟩ := HB.out
    exact ⟨_, _, _, _, _, _, h.ext (xw2.alloc _)⟩)
  have hsz2 : w.heap.size ≤ w2.heap.size := xw2.size
  have hsz0 : w0.heap.size ≤ w.heap.size := HX0.out.size
  obtain ⟨ge, hge⟩ : ∃ g, g = w2.heap.size := ⟨_, rfl⟩
  obtain ⟨gp, hgp⟩ : ∃ g, g = w.heap.size + 1 := ⟨_, rfl⟩
  rw [← hge, ← hgp] at hC
  have HGP := Lib.hid (show w.heap.size ≤ gp by omega); have HGE := Lib.hid (show w.heap.size ≤ ge by omega)
  clear hbb hP2 HMG HOV HB
  go_wp2_with fail
  rw [← hge, ← hgp]
  clear hge hgp hsz2 hsz0
  go_loopw [22] (fun i' wr => ∃ (i : Nat) (S' : St) (la : Nat) (lp : ByteArray), i ≤ N ∧ i' = .int .i64 i ∧ Hid (ChnAt w0 bb m1 m2 B p own R rs (10 * k) k w gp ge pn (.slice pep PE pec) (.slice oa own.length oc) i S' la lp wr)) (fun i' _ => N - (RowKit.intOf i').toNat)
  case atStart => exact ⟨0, S, 0, ⟨#[]⟩, Nat.zero_le _, rfl, hC⟩
  case round =>
    clear hC q2 x2 xw2
    obtain ⟨i, S', la, lp, hi, rfl, hC⟩ := hrel
    by_cases hlt : i < N
    · have hkl : i < rs.length := by rw [← HNL.out]; exact hlt
      have hx := hC.out.b.elim fun _ h => h.elim fun _ h => h.elim fun _ h => h.elim fun _ h => h.elim fun _ h => h.elim fun _ h => h.X
      obtain ⟨g, o, rfl, -, c0, c1⟩ := (TwoAt.below HTR.out (hx.mono HNN.out)) i hkl
      have hrr := hC.out.r
      rw [List.drop_eq_getElem_cons hkl, chainT_cons] at hrr
      obtain ⟨hs1, hs2⟩ := HRS.out _ (List.getElem_mem hkl)
      obtain ⟨n, hn⟩ : ∃ q, q = rs[i].1 := ⟨_, rfl⟩
      obtain ⟨pt, hpt⟩ : ∃ q, q = rs[i].2 := ⟨_, rfl⟩
      rw [← hn] at c0 hs1 hrr; rw [← hpt] at c1 hs2 hrr
      have hsm := hC.out.s
      have hnl := hsm.n; have hal := hsm.a
      have hmc := fun w5 (x : Ext wr w5) => ment_any w0 bb m1 m2 B n p pn (.slice pep PE pec) S' w5 (by obtain ⟨_, _, _, _, _, _, h⟩ := hC.out.b; exact ⟨_, _, _, _, _, _, h.ext x⟩) (hC.out.pn.ext x) hs1 (by omega) (by omega)
      have hme := @ment_err n p S'
      have hmo := fun v S2 => @Sml.ment (10 * k + i) (k + 1) S' hsm n p (HP.out.mono (Nat.le_succ k)) hs1 v S2
      obtain ⟨M, hM⟩ : ∃ M, M = ment n p S' := ⟨_, rfl⟩
      rw [← hM] at hrr hmc hme hmo
      have y0 := fun ob => ((Ext.refl wr).alloc ob).cell (show wr.cell? ⟨gp, 0, none⟩ = some (.int .i64 p.c) by rw [Lib.cell_of_heap hC.out.pl]; rfl)
      have y1 := fun ob => ((Ext.refl wr).alloc ob).cell (show wr.cell? ⟨gp, 1, none⟩ = some pn by rw [Lib.cell_of_heap hC.out.pl]; rfl)
      have y2 := fun ob => ((Ext.refl wr).alloc ob).cell (show wr.cell? ⟨gp, 2, none⟩ = some (.slice pep PE pec) by rw [Lib.cell_of_heap hC.out.pl]; rfl)
      have b0 : (0 : Int) ≤ (i : Int) := by omega
      have b1 : (i : Int) < (N : Int) := by omega
      have HMC := Lib.hid hmc; have HRR2 := Lib.hid hrr; have HMO := Lib.hid hmo; have HS2 := Lib.hid hs2
      have HX5 := Lib.hid hx
      cases M with
      | error er =>
        have he6 := hme rfl
        subst he6
        have hr : Hid (R = .error 6) := Lib.hid HRR2.out
        clear hmc hrr hmo hme hM hn hpt hs1 hs2 hsm hnl hal hx HRR2 HMO
        go_wp2_with (go_at_call 56; refine (HMC.out _ ((Ext.refl _).alloc _)).mono ?_; rintro e w5 ⟨⟨rfl, -⟩, kb5, x5⟩)
        go_ret
        rw [hr.out]
        exact ⟨⟨rfl, by decide⟩, (hC.out.kb.ext ((Ext.refl _).alloc _)).trans kb5, x5⟩
      | ok vs =>
        obtain ⟨v, S2⟩ := vs
        obtain ⟨g1, g2, g3, g4, g5⟩ := HMO.out v S2 rfl
        have G1 := Lib.hid g1; have G2 := Lib.hid g2; have G4 := Lib.hid g4; have G5 := Lib.hid g5
        clear hmc hrr hmo hme hM hn hpt hs1 hs2 hsm hnl hal hx HMO g1 g2 g3 g4 g5
        by_cases h0 : i = 0
        · have d1 : decide (0 < i) = false := decide_eq_false (by omega)
          have d2 : ¬ 0 < i := by omega
          have d3 : decide ((0 : Int) < (i : Int)) = false := decide_eq_false (by omega)
          have hr : Hid (R = chainT own p (rs.drop (i + 1)) (some (v, pt)) S2) := Lib.hid (by rw [HRR2.out, if_pos h0])
          have hs3 : Hid (Sml (10 * k + (i + 1)) (k + 1) S2) := Lib.hid G1.out
          clear h0 HRR2 G1
          go_wp2_with (go_at_call 56; refine (HMC.out _ ((Ext.refl _).alloc _)).mono ?_; rintro e w5 ⟨⟨rfl, hB5⟩, kb5, x5⟩; have HB5 := Lib.hid hB5; have KB5 := Lib.hid kb5; have X5 := Lib.hid x5; have rf1 : w5.cell? ⟨wr.heap.size, 1, none⟩ = some (.string pt) := (by rw [Lib.cell_of_heap (kb5.blk _ _ _ _ (heap_alloc_new wr (.cells #[.string n, .string pt] 58)) (by decide) (by decide) (by decide) (by decide) (by decide))]; rfl); have HL5 := Lib.hid (kb5.blk _ _ _ _ (At.heap_ext hC.out.l ((Ext.refl wr).alloc (.cells #[.string n, .string pt] 58))) (by decide) (by decide) (by decide) (by decide) (by decide)); have HP5 := Lib.hid (kb5.blk _ _ _ _ (At.heap_ext hC.out.pl ((Ext.refl wr).alloc (.cells #[.string n, .string pt] 58))) (by decide) (by decide) (by decide) (by decide) (by decide)); have HO5 := Lib.hid (kb5.atL (hC.out.o.ext ((Ext.refl wr).alloc (.cells #[.string n, .string pt] 58)))); have HQ5 := Lib.hid (kb5.atL (hC.out.pn.ext ((Ext.refl wr).alloc (.cells #[.string n, .string pt] 58)))); have HK5 := Lib.hid ((hC.out.kb.ext ((Ext.refl wr).alloc (.cells #[.string n, .string pt] 58))).trans kb5); have le0 := fun ob => ((Ext.refl w5).alloc ob).cell (show w5.cell? ⟨ge, 0, none⟩ = some (.int .i64 la) from (by rw [Lib.cell_of_heap HL5.out]; rfl)); have le1 := fun ob => ((Ext.refl w5).alloc ob).cell (show w5.cell? ⟨ge, 1, none⟩ = some (.string lp) from (by rw [Lib.cell_of_heap HL5.out]; rfl)); have lf : ∀ ob j, (w5.alloc ob).frozen? ⟨ge, j, none⟩ = false := fun ob j => Lib.frozen_of_heap (At.heap_ext HL5.out ((Ext.refl w5).alloc ob)) j; clear hB5 kb5 x5)
          go_roundw
          case rel => exact ⟨i + 1, S2, v, pt, by omega, by go_num, Lib.hid (ChnAt.fin (by obtain ⟨_, _, _, _, _, _, h⟩ := HB5.out; exact ⟨_, _, _, _, _, _, h.ext ((Ext.refl _).alloc _)⟩) (At.heap_ext HP5.out ((Ext.refl _).alloc _)) (At.heap_ext HL5.out ((Ext.refl _).alloc _)) (HO5.out.ext ((Ext.refl _).alloc _)) (HQ5.out.ext ((Ext.refl _).alloc _)) (HK5.out.ext ((Ext.refl _).alloc _)) HGE.out HX0.out.size hr.out hs3.out ⟨G2.out, HS2.out⟩)⟩
          case measure => simp [RowKit.intOf]; omega
        · have d1 : decide (0 < i) = true := decide_eq_true (by omega)
          have d2 : 0 < i := by omega
          have d3 : decide ((0 : Int) < (i : Int)) = true := decide_eq_true (by omega)
          obtain ⟨hla, hlp⟩ := hC.out.ok h0
          obtain ⟨S3, hS3⟩ : ∃ S3 : St, S3 = { S2 with K := S2.K ++ [⟨la, lp, v, pt, own⟩] } := ⟨_, rfl⟩
          have hr : Hid (R = chainT own p (rs.drop (i + 1)) (some (v, pt)) S3) := Lib.hid (by rw [HRR2.out, if_neg h0, hS3])
          have hs3 : Hid (Sml (10 * k + (i + 1)) (k + 1) S3) := Lib.hid (by
            have g1 := G1.out
            have hl := hC.out.s.l
            rw [hS3]
            refine ⟨g1.n, g1.a, g1.c, ?_, g1.at', fun x hx => ?_, g1.nn, g1.cc⟩
            · show (S2.K ++ _).length ≤ _
              rw [G4.out]; simp; omega
            · rcases List.mem_append.1 hx with hx | hx
              · exact g1.kt x hx
              · rw [List.mem_singleton.1 hx]
                exact ⟨HOW.out, by show la < S2.N.length; have := G5.out; omega, G2.out, hlp, HS2.out⟩)
          have hv3 : Hid (v < S3.N.length) := Lib.hid (by rw [hS3]; exact G2.out)
          have HS3 := Lib.hid hS3
          have hkl2 : Hid (S2.K.length ≤ 10 * k + i) := Lib.hid (by rw [G4.out]; exact hC.out.s.l)
          clear h0 HRR2 G1 hla hlp hS3
          go_wp2_with (go_at_call 56; refine (HMC.out _ ((Ext.refl _).alloc _)).mono ?_; rintro e w5 ⟨⟨rfl, hB5⟩, kb5, x5⟩; have HB5 := Lib.hid hB5; have KB5 := Lib.hid kb5; have X5 := Lib.hid x5; have rf1 : w5.cell? ⟨wr.heap.size, 1, none⟩ = some (.string pt) := (by rw [Lib.cell_of_heap (kb5.blk _ _ _ _ (heap_alloc_new wr (.cells #[.string n, .string pt] 58)) (by decide) (by decide) (by decide) (by decide) (by decide))]; rfl); have HL5 := Lib.hid (kb5.blk _ _ _ _ (At.heap_ext hC.out.l ((Ext.refl wr).alloc (.cells #[.string n, .string pt] 58))) (by decide) (by decide) (by decide) (by decide) (by decide)); have HP5 := Lib.hid (kb5.blk _ _ _ _ (At.heap_ext hC.out.pl ((Ext.refl wr).alloc (.cells #[.string n, .string pt] 58))) (by decide) (by decide) (by decide) (by decide) (by decide)); have HO5 := Lib.hid (kb5.atL (hC.out.o.ext ((Ext.refl wr).alloc (.cells #[.string n, .string pt] 58)))); have HQ5 := Lib.hid (kb5.atL (hC.out.pn.ext ((Ext.refl wr).alloc (.cells #[.string n, .string pt] 58)))); have HK5 := Lib.hid ((hC.out.kb.ext ((Ext.refl wr).alloc (.cells #[.string n, .string pt] 58))).trans kb5); have le0 := fun ob => ((Ext.refl w5).alloc ob).cell (show w5.cell? ⟨ge, 0, none⟩ = some (.int .i64 la) from (by rw [Lib.cell_of_heap HL5.out]; rfl)); have le1 := fun ob => ((Ext.refl w5).alloc ob).cell (show w5.cell? ⟨ge, 1, none⟩ = some (.string lp) from (by rw [Lib.cell_of_heap HL5.out]; rfl)); have lf : ∀ ob j, (w5.alloc ob).frozen? ⟨ge, j, none⟩ = false := fun ob j => Lib.frozen_of_heap (At.heap_ext HL5.out ((Ext.refl w5).alloc ob)) j; clear hB5 kb5 x5)
          obtain ⟨nv5, av5, cv5, lv5, aw5, ks5, hb5⟩ := HB5.out
          obtain ⟨lb, lc, rfl, -, -⟩ := row_val hb5.K
          obtain ⟨w6, hw6⟩ : ∃ w6, w6 = w5.alloc (.cells #[.int .i64 v, .string pt] 80) := ⟨_, rfl⟩
          have x6 : Ext w5 w6 := by rw [hw6]; exact (Ext.refl _).alloc _
          have hn6 : w6.heap[w5.heap.size]? = some (.cells #[.int .i64 v, .string pt] 80 (0, 0)) := by rw [hw6]; exact heap_alloc_new _ _
          rw [← hw6]
          have HB6 := Lib.hid (hb5.ext x6); have HN6 := Lib.hid hn6
          have HL6 := Lib.hid (At.heap_ext HL5.out x6); have HP6 := Lib.hid (At.heap_ext HP5.out x6); have HO6 := Lib.hid (HO5.out.ext x6); have HQ6 := Lib.hid (HQ5.out.ext x6); have HK6 := Lib.hid (HK5.out.ext x6)
          have a5 := HB6.out.cells.2.2.2.2.2
          have a5a := fun ob => (HB6.out.ext ((Ext.refl w6).alloc ob)).cells.2.2.2.2.2
          have l0 : w6.cell? ⟨ge, 0, none⟩ = some (.int .i64 la) := by rw [Lib.cell_of_heap HL6.out]; rfl
          have l1 : w6.cell? ⟨ge, 1, none⟩ = some (.string lp) := by rw [Lib.cell_of_heap HL6.out]; rfl
          have n0 : w6.cell? ⟨w5.heap.size, 0, none⟩ = some (.int .i64 v) := by rw [Lib.cell_of_heap hn6]; rfl
          have n1 : w6.cell? ⟨w5.heap.size, 1, none⟩ = some (.string pt) := by rw [Lib.cell_of_heap hn6]; rfl
          obtain ⟨j0, hj, hjz0, hjz1, hjz2⟩ := info_parts info_lnk
          have hrl2 := hrl; have hk2 := hk; have hi2 := hi
          clear hw6 x6 hn6 hb5 le0 le1 lf HB5 HL5 HP5 HO5 HQ5 HK5 rf1
          go_cut [44] from 44 to 56 (fun s44 wx => s44 = .pointer (some ⟨bb, 0, none⟩) ∧ Hid (BldE w0 bb m1 m2 B wx S3) ∧ Hid (KeepB w6 wx))
          case first =>
            go_region_law (first
              | (refine step_append_lies _ (by rfl) _ _ 66 (by rfl) B 82 j0 _ 5 72 Tryz.underlying66 hj hjz0 hjz1 hjz2 rfl (by decide) _ _ _ (by rfl) (At.own_ext HB6.out.K (((Ext.refl w6).alloc _).drew)) ⟨w6.heap.size, 0, none⟩ 1 1 [.int .i64 la, .string lp, .int .i64 v, .string pt, .slice oa own.length oc] (by rfl) (by rfl) (World.news_of_block (cs := #[.int .i64 la, .string lp, .int .i64 v, .string pt, .slice oa own.length oc]) (t := 82) (fr := (0, 0)) (heap_alloc_new w6 _)) (by intro u hu; simp at hu; rcases hu with rfl | rfl | rfl | rfl | rfl <;> rfl) (by omega) (by have := hkl2.out; unfold maxLen; omega) (by have := hkl2.out; omega) (by have := HB6.out.Z; simp; omega) _ rfl ?_
                 intro g7 c7 w7 hown1 hgrow hat2 hlt2
                 have HB7 := Lib.hid (HB6.out.ext (((Ext.refl w6).alloc (.cells #[.int .i64 la, .string lp, .int .i64 v, .string pt, .slice oa own.length oc] 82)).drew))
                 have hS7 := HB7.out.midS hgrow (row_ty (At.own_ext HB6.out.K (((Ext.refl w6).alloc _).drew))) (by decide)
                 have e7 : w7.cell? ⟨bb, 5, none⟩ = some (.slice lb S2.K.length lc) := by rw [Lib.cell_of_heap hS7]; rfl
                 have f7 : w7.frozen? ⟨bb, 5, none⟩ = false := Lib.frozen_of_heap hS7 5
                 have FIN := Lib.hid (HB7.out.appK (v := .slice oa own.length oc) ⟨la, lp, v, pt, own⟩ rfl (HO6.out.ext (((Ext.refl w6).alloc _).drew)) hown1 hgrow)
                 clear hown1 hgrow hat2 hlt2 hS7))
            all_goals go_wp2
            all_goals go_meet
            all_goals first
              | exact ⟨rfl, Lib.hid (by rw [HS3.out]; exact ⟨_, _, _, _, _, _, FIN.out.1⟩), Lib.hid ((KeepB.of (((Ext.refl w6).alloc _).drew)).trans FIN.out.2)⟩
              | exact ⟨rfl, Lib.hid (by rw [HS3.out]; exact ⟨_, _, _, _, _, _, FIN.out.1.ext ((Ext.refl _).drew)⟩), Lib.hid (((KeepB.of (((Ext.refl w6).alloc _).drew)).trans FIN.out.2).ext ((Ext.refl _).drew))⟩
          case rest =>
            obtain ⟨rfl, HB8, HK8⟩ := hcut
            have HN8 := Lib.hid (HK8.out.blk _ _ _ _ HN6.out (by decide) (by decide) (by decide) (by decide) (by decide))
            have HL8 := Lib.hid (HK8.out.blk _ _ _ _ HL6.out (by decide) (by decide) (by decide) (by decide) (by decide))
            have HP8 := Lib.hid (HK8.out.blk _ _ _ _ HP6.out (by decide) (by decide) (by decide) (by decide) (by decide))
            have HO8 := Lib.hid (HK8.out.atL HO6.out)
            have HQ8 := Lib.hid (HK8.out.atL HQ6.out)
            have HK9 := Lib.hid (HK6.out.trans HK8.out)
            have l0' : wc.cell? ⟨ge, 0, none⟩ = some (.int .i64 la) := by rw [Lib.cell_of_heap HL8.out]; rfl
            have l1' : wc.cell? ⟨ge, 1, none⟩ = some (.string lp) := by rw [Lib.cell_of_heap HL8.out]; rfl
            have lf : ∀ j, wc.frozen? ⟨ge, j, none⟩ = false := fun j => Lib.frozen_of_heap HL8.out j
            have n0' : wc.cell? ⟨w5.heap.size, 0, none⟩ = some (.int .i64 v) := by rw [Lib.cell_of_heap HN8.out]; rfl
            have n1' : wc.cell? ⟨w5.heap.size, 1, none⟩ = some (.string pt) := by rw [Lib.cell_of_heap HN8.out]; rfl
            clear a5 a5a l0 l1 n0 n1
            go_wp2
            go_roundw
            case rel => exact ⟨i + 1, S3, v, pt, by omega, by go_num, Lib.hid (ChnAt.fin HB8.out HP8.out HL8.out HO8.out HQ8.out HK9.out HGE.out HX0.out.size hr.out hs3.out ⟨hv3.out, HS2.out⟩)⟩
            case measure => simp [RowKit.intOf]; omega
    · have hr : Hid (R = .ok S') := Lib.hid (by rw [hC.out.r, List.drop_eq_nil_of_le (by rw [← HNL.out]; omega)]; unfold chainT; rfl)
      go_wp2
      go_ret
      rw [hr.out]
      obtain ⟨_, _, _, _, _, _, h⟩ := hC.out.b
      exact ⟨⟨rfl, _, _, _, _, _, _, h⟩, hC.out.kb, h.X⟩
end Go.Proofs.YtnancphlkbfglaaGreatDoor.Nm
