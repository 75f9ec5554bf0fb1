/- Packed texts: PrtDiv3 -/
import Derived.Test.YtaipcpdncmnelaaPu24
import Derived.Test.YtaipcpdncmnelaaPu23
import Derived.BigQuiet
import Derived.Deep.CutRange
set_option linter.unusedVariables false
set_option linter.unusedSimpArgs false
/- A round of the law's third loop: two blocks compared. -/
namespace Go.Proofs.Ytaipcpdncmnelaa.Pt
open Go.RowKit Go.Sort Go.Lib Fx Tp

def loops : Code → List Code
  | .loop c => [c]
  | .seq a b => loops a ++ loops b
  | .block _ c => loops c
  | .scope c => loops c
  | .cond _ a b => loops a ++ loops b
  | _ => []
noncomputable def bodyD1 : Code := (((Try.f6.body.map loops).getD []).headD .skip)
noncomputable def bodyD3 : Code := (loops bodyD1).getD 1 .skip
theorem isLp_eq {A : Arcs} {C : List Nat} {x y : Nat} (h : arcN A (hd C) = (x, y)) : isLp A C = ((x : Int) == (y : Int)) := by unfold isLp; rw [h]
set_option maxHeartbeats 16000000 in
set_option maxRecDepth 1000000 in
theorem d3_round {w : World} {N M K cap fc cl cc bx g1 o1 ab i k cn dn : Nat} {a ca ra rd : Option Addr} {rc rdc : Nat} {A : Arcs} {C D : List Nat} {wr : World} {KK K2 K1 K0 : Act → World → Prop} {PP : Ending → World → Prop}
    {c0 c2 c5 c6 c9 c10 c12 c13 c14 c15 c16 c17 c18 c19 c20 c21 c22 c23 c24 c25 c26 c27 c28 c29 c30 c31 c32 c33 c34 c35 c36 c37 c38 c39 c40 c41 c42 c43 c44 c45 c46 c47 c48 c49 c50 c51 c52 c53 c54 c55 c56 c57 c58 c59 c60 c61 c62 c63 c64 c65 c66 c67 c68 c69 c70 c71 c72 c73 c74 c75 c76 c77 c78 c79 c80 c81 c82 c83 c84 c85 c86 c87 c88 c89 c90 c91 c92 c93 c94 c95 c96 c97 c98 c99 c100 c101 c102 c103 c104 c105 c106 c107 c108 c109 c110 c111 c112 c113 c114 c115 c116 c117 c118 c119 c120 c121 c122 c123 c124 c125 c126 c127 c128 c129 c130 c131 c132 c133 c134 c135 c136 c137 c138 c139 c140 c141 c142 c143 c144 c145 c146 c147 c148 c149 c150 c151 c152 c153 c154 c155 c156 c157 c158 c159 c160 c161 c162 c163 c164 c165 c166 c167 c168 c169 c170 c171 c172 c173 c174 c175 c176 c177 c178 c179 c180 c181 c182 c183 c184 c185 c186 c187 c188 c189 c190 c191 c192 c193 c194 c195 c196 c197 c198 c199 c200 c201 c202 c203 c204 c205 c206 c207 c208 c209 c210 c211 c212 c213 c214 c215 c216 c217 c218 c219 c220 c221 c222 c223 c224 c225 c226 c227 c228 c229 c230 : Value}
    (hN : N ≤ 64) (hM : M ≤ 100) (hki : k < i) (hiK : i < K) (hKM : K ≤ M)
    (HBOX : Hid (∀ w5 : World, Ext wr w5 → w5.cell? ⟨bx, 0, none⟩ = some (.int .i64 (N : Int)) ∧ w5.cell? ⟨bx, 1, none⟩ = some (.slice a M cap)))
    (HRI : Hid (∀ w5 : World, Ext wr w5 → w5.cell? ⟨g1, o1 + i, none⟩ = some (.slice ra cn rc) ∧ IntIn w5 ra (zl C)))
    (HRK : Hid (∀ w5 : World, Ext wr w5 → w5.cell? ⟨g1, o1 + k, none⟩ = some (.slice rd dn rdc) ∧ IntIn w5 rd (zl D)))
    (HARC : Hid (∀ w5 : World, Ext wr w5 → ArcIn w5 a (zarc A))) (HM : Hid (M = A.length)) (HCN : Hid (cn = C.length)) (HDN : Hid (dn = D.length)) (hcn : 1 ≤ cn) (hcM : cn ≤ M) (hdn : 1 ≤ dn) (hdM : dn ≤ M) (HCL : Hid (hd C < M)) (HDL : Hid (hd D < M))
    (HAB : Hid (BlkB wr ab (endsT N A C)))
    (HED : Hid (∀ w5 : World, Ext wr w5 → Calls Try.prog 25 #[.agg #[.int .i64 (N : Int), .slice a M cap], .slice rd dn rdc] w5 fun e w' => (∃ b, e = .returned (.tuple #[.slice (some ⟨b, 0, none⟩) N N, .bool true]) ∧ BlkB w' b (endsT N A D)) ∧ Ext w5 w'))
    (HAS : Hid (∀ v : Nat, v < N → v ∈ vertsOf A C → v ∈ vertsOf A D → isLp A C = false → isLp A D = false → ∀ w5 : World, Ext wr w5 → Calls Try.prog 26 #[.slice ca cl cc, .int .i64 (v : Int)] w5 fun e w' => e = .returned (.bool true) ∧ Ext w5 w'))
    (HCM : Hid ((cmnK (endsT N A C) (endsT N A D) N).length ≤ 1))
    (HQ : Hid (∀ (x2 x12 x13 x14 x15 x16 x93 x94 x95 x96 x97 x98 x99 x100 x101 x102 x103 x104 x105 x106 x107 x108 x109 x110 x111 x112 x113 x114 x115 x116 x117 x118 x119 x120 x121 x122 x123 x124 x125 x126 x127 x128 x129 x130 x131 x132 x133 x134 x135 x136 x137 x138 x139 x140 x141 x142 x143 x144 x145 x146 x147 x148 x149 x150 x151 x152 x153 x154 x155 x156 x157 x158 x159 x160 x161 x162 x163 x164 x165 x166 x167 x168 x169 x170 x171 x172 x173 x174 x175 x176 x177 x178 x179 x180 x181 x182 : Value) (w' : World) (i' : Value), i' = .int .i64 ((k + 1 : Nat) : Int) → Hid (Ext wr w') → KK ⟨(List.toArray (c0 :: .pointer (some ⟨bx, 0, none⟩) :: x2 :: .slice (some ⟨g1, o1, none⟩) K fc :: .slice ca cl cc :: c5 :: c6 :: .int .i64 (i : Int) :: .slice (some ⟨ab, 0, none⟩) N N :: c9 :: c10 :: i' :: x12 :: x13 :: x14 :: x15 :: x16 :: c17 :: c18 :: c19 :: c20 :: c21 :: c22 :: c23 :: c24 :: c25 :: c26 :: c27 :: c28 :: c29 :: c30 :: c31 :: c32 :: c33 :: c34 :: c35 :: c36 :: c37 :: c38 :: c39 :: c40 :: c41 :: c42 :: c43 :: c44 :: c45 :: c46 :: c47 :: c48 :: c49 :: c50 :: c51 :: c52 :: c53 :: c54 :: c55 :: c56 :: c57 :: c58 :: c59 :: c60 :: c61 :: c62 :: c63 :: c64 :: c65 :: c66 :: c67 :: c68 :: c69 :: c70 :: c71 :: c72 :: c73 :: c74 :: c75 :: c76 :: c77 :: c78 :: c79 :: c80 :: c81 :: c82 :: c83 :: c84 :: c85 :: c86 :: c87 :: c88 :: c89 :: c90 :: c91 :: c92 :: x93 :: x94 :: x95 :: x96 :: x97 :: x98 :: x99 :: x100 :: x101 :: x102 :: x103 :: x104 :: x105 :: x106 :: x107 :: x108 :: x109 :: x110 :: x111 :: x112 :: x113 :: x114 :: x115 :: x116 :: x117 :: x118 :: x119 :: x120 :: x121 :: x122 :: x123 :: x124 :: x125 :: x126 :: x127 :: x128 :: x129 :: x130 :: x131 :: x132 :: x133 :: x134 :: x135 :: x136 :: x137 :: x138 :: x139 :: x140 :: x141 :: x142 :: x143 :: x144 :: x145 :: x146 :: x147 :: x148 :: x149 :: x150 :: x151 :: x152 :: x153 :: x154 :: x155 :: x156 :: x157 :: x158 :: x159 :: x160 :: x161 :: x162 :: x163 :: x164 :: x165 :: x166 :: x167 :: x168 :: x169 :: x170 :: x171 :: x172 :: x173 :: x174 :: x175 :: x176 :: x177 :: x178 :: x179 :: x180 :: x181 :: x182 :: c183 :: c184 :: c185 :: c186 :: c187 :: c188 :: c189 :: c190 :: c191 :: c192 :: c193 :: c194 :: c195 :: c196 :: c197 :: c198 :: c199 :: c200 :: c201 :: c202 :: c203 :: c204 :: c205 :: c206 :: c207 :: c208 :: c209 :: c210 :: c211 :: c212 :: c213 :: c214 :: c215 :: c216 :: c217 :: c218 :: c219 :: c220 :: c221 :: c222 :: c223 :: c224 :: c225 :: c226 :: c227 :: c228 :: c229 :: c230 :: [])), []⟩ w')) :
    Code.wp Try.prog bodyD3 (Exit.then KK (Exit.inBlock 4 (Exit.inBlock 1 (Exit.then K2 (Exit.then K1 (Exit.inBlock 0 (Exit.then K0 (bodyPost Try.prog Try.f6 PP)))))))) ⟨(List.toArray (c0 :: .pointer (some ⟨bx, 0, none⟩) :: c2 :: .slice (some ⟨g1, o1, none⟩) K fc :: .slice ca cl cc :: c5 :: c6 :: .int .i64 (i : Int) :: .slice (some ⟨ab, 0, none⟩) N N :: c9 :: c10 :: .int .i64 (k : Int) :: c12 :: c13 :: c14 :: c15 :: c16 :: c17 :: c18 :: c19 :: c20 :: c21 :: c22 :: c23 :: c24 :: c25 :: c26 :: c27 :: c28 :: c29 :: c30 :: c31 :: c32 :: c33 :: c34 :: c35 :: c36 :: c37 :: c38 :: c39 :: c40 :: c41 :: c42 :: c43 :: c44 :: c45 :: c46 :: c47 :: c48 :: c49 :: c50 :: c51 :: c52 :: c53 :: c54 :: c55 :: c56 :: c57 :: c58 :: c59 :: c60 :: c61 :: c62 :: c63 :: c64 :: c65 :: c66 :: c67 :: c68 :: c69 :: c70 :: c71 :: c72 :: c73 :: c74 :: c75 :: c76 :: c77 :: c78 :: c79 :: c80 :: c81 :: c82 :: c83 :: c84 :: c85 :: c86 :: c87 :: c88 :: c89 :: c90 :: c91 :: c92 :: c93 :: c94 :: c95 :: c96 :: c97 :: c98 :: c99 :: c100 :: c101 :: c102 :: c103 :: c104 :: c105 :: c106 :: c107 :: c108 :: c109 :: c110 :: c111 :: c112 :: c113 :: c114 :: c115 :: c116 :: c117 :: c118 :: c119 :: c120 :: c121 :: c122 :: c123 :: c124 :: c125 :: c126 :: c127 :: c128 :: c129 :: c130 :: c131 :: c132 :: c133 :: c134 :: c135 :: c136 :: c137 :: c138 :: c139 :: c140 :: c141 :: c142 :: c143 :: c144 :: c145 :: c146 :: c147 :: c148 :: c149 :: c150 :: c151 :: c152 :: c153 :: c154 :: c155 :: c156 :: c157 :: c158 :: c159 :: c160 :: c161 :: c162 :: c163 :: c164 :: c165 :: c166 :: c167 :: c168 :: c169 :: c170 :: c171 :: c172 :: c173 :: c174 :: c175 :: c176 :: c177 :: c178 :: c179 :: c180 :: c181 :: c182 :: c183 :: c184 :: c185 :: c186 :: c187 :: c188 :: c189 :: c190 :: c191 :: c192 :: c193 :: c194 :: c195 :: c196 :: c197 :: c198 :: c199 :: c200 :: c201 :: c202 :: c203 :: c204 :: c205 :: c206 :: c207 :: c208 :: c209 :: c210 :: c211 :: c212 :: c213 :: c214 :: c215 :: c216 :: c217 :: c218 :: c219 :: c220 :: c221 :: c222 :: c223 :: c224 :: c225 :: c226 :: c227 :: c228 :: c229 :: c230 :: [])), []⟩ wr := by
  conv => arg 2; whnf
  obtain ⟨b10, b11⟩ := HBOX.out wr (Ext.refl _)
  obtain ⟨e0, hinD⟩ := HRK.out wr (Ext.refl _)
  have b0 : (0 : Int) ≤ (k : Int) := by omega
  have b1 : (k : Int) < (K : Int) := by omega
  go_wp2_with fail
  go_cut [12, 13] from 93 to 182 (fun s12 s13 wx => s13 = .bool true ∧ ∃ bb, s12 = .slice (some ⟨bb, 0, none⟩) N N ∧ Hid (BlkB wx bb (endsT N A D)) ∧ Hid (Ext wr wx))
  case first =>
    go_region_with (go_at_call 25; refine (HED.out _ (by first | exact (Ext.refl _).drew | exact Ext.refl _)).mono ?_; rintro e w6 ⟨⟨bb, rfl, hbb⟩, x6⟩)
    all_goals go_wp2
    all_goals go_meet
    all_goals exact ⟨rfl, _, rfl, Lib.hid hbb, Lib.hid (((Ext.refl _).drew).trans x6)⟩
  case rest =>
    obtain ⟨rfl, bb, rfl, hbb, hxd⟩ := hcut
    have hab := Lib.hid (HAB.out.ext hxd.out)
    clear b10 b11 e0 hinD HED HAB
    go_wp2
    go_loopw [14, 15] (fun c' v' wx => ∃ v : Nat, v ≤ N ∧ c' = .int .i64 ((cmnK (endsT N A C) (endsT N A D) v).length : Int) ∧ v' = .int .i64 v ∧ Ext wc wx) (fun _ v' _ => N - (RowKit.intOf v').toNat)
    case atStart => exact ⟨0, Nat.zero_le _, by simp [cmnK], rfl, Ext.refl _⟩
    case round =>
      obtain ⟨v, hv, rfl, rfl, hx⟩ := hrel
      have hXX := Lib.hid (hxd.out.trans hx)
      obtain ⟨b10, b11⟩ := HBOX.out _ hXX.out
      by_cases hlv : v < N
      · have m0 := (hab.out.ext hx).cellD (j := v) (by rw [endsT_len]; exact hlv)
        have m1 := (hbb.out.ext hx).cellD (j := v) (by rw [endsT_len]; exact hlv)
        have hst := cmnK_succ (endsT N A C) (endsT N A D) v
        have hln := cmnK_len (endsT N A C) (endsT N A D) v
        have hEC := endsT_at (N := N) (A := A) (C := C) hlv
        have hED := endsT_at (N := N) (A := A) (C := D) hlv
        obtain ⟨cm, hcm⟩ : ∃ n, n = (cmnK (endsT N A C) (endsT N A D) v).length := ⟨_, rfl⟩
        rw [← hcm] at hln ⊢
        have HST : Hid ((cmnK (endsT N A C) (endsT N A D) (v + 1)).length = cm + (if ((endsT N A C).getD v false && (endsT N A D).getD v false) = true then 1 else 0)) := Lib.hid (by rw [hst, List.length_append, ← hcm]; split <;> rfl)
        obtain ⟨p, hp⟩ : ∃ z, z = (endsT N A C).getD v false := ⟨_, rfl⟩
        obtain ⟨q, hq⟩ : ∃ z, z = (endsT N A D).getD v false := ⟨_, rfl⟩
        rw [← hp] at m0 hEC HST; rw [← hq] at m1 hED HST
        have b2 : (0 : Int) ≤ (v : Int) := by omega
        have b3 : (v : Int) < (N : Int) := by omega
        clear hst hcm hp hq
        cases p with
        | false =>
          have hE : Hid ((cmnK (endsT N A C) (endsT N A D) (v + 1)).length = cm) := Lib.hid (by rw [HST.out]; rfl)
          clear hEC hED
          go_wp2
          go_roundw
          case rel => exact ⟨v + 1, by omega, by rw [hE.out], by go_num, hx⟩
          case measure => simp [RowKit.intOf]; omega
        | true =>
          cases q with
          | false =>
            have hE : Hid ((cmnK (endsT N A C) (endsT N A D) (v + 1)).length = cm) := Lib.hid (by rw [HST.out]; rfl)
            clear hEC hED
            go_wp2
            go_roundw
            case rel => exact ⟨v + 1, by omega, by rw [hE.out], by go_num, hx⟩
            case measure => simp [RowKit.intOf]; omega
          | true =>
            have hE : Hid ((cmnK (endsT N A C) (endsT N A D) (v + 1)).length = cm + 1) := Lib.hid (by rw [HST.out]; rfl)
            have hvC := hEC.1 rfl
            have hvD := hED.1 rfl
            have HVC := Lib.hid hvC; have HVD := Lib.hid hvD
            have ws := wrap_in (x := (cm : Int) + 1) (by omega) (by omega)
            obtain ⟨ri, hinC⟩ := HRI.out _ hXX.out
            obtain ⟨rk, hinD⟩ := HRK.out _ hXX.out
            obtain ⟨gc, oc, rfl, hc0⟩ := hinC 0 (by rw [zl_len, ← HCN.out]; omega)
            obtain ⟨gd, od, rfl, hd0⟩ := hinD 0 (by rw [zl_len, ← HDN.out]; omega)
            rw [zl_at _ _ (by rw [← HCN.out]; omega)] at hc0
            rw [zl_at _ _ (by rw [← HDN.out]; omega)] at hd0
            rw [show C[0]'(by rw [← HCN.out]; omega) = hd C by unfold hd; rw [List.getD_eq_getElem?_getD, List.getElem?_eq_getElem (by rw [← HCN.out]; omega)]; rfl] at hc0
            rw [show D[0]'(by rw [← HDN.out]; omega) = hd D by unfold hd; rw [List.getD_eq_getElem?_getD, List.getElem?_eq_getElem (by rw [← HDN.out]; omega)]; rfl] at hd0
            rw [Nat.add_zero] at hc0 hd0
            have hcl := HCL.out; have hdl := HDL.out
            obtain ⟨hcA, dcA⟩ : ∃ z, z = hd C := ⟨_, rfl⟩
            obtain ⟨hdA, ddA⟩ : ∃ z, z = hd D := ⟨_, rfl⟩
            rw [← dcA] at hc0 hcl; rw [← ddA] at hd0 hdl
            have hclA : hcA < A.length := by rw [← HM.out]; exact hcl
            have hdlA : hdA < A.length := by rw [← HM.out]; exact hdl
            obtain ⟨ga, oa, rfl, a0, a1⟩ := HARC.out _ hXX.out hcA (by rw [zarc_len]; exact hclA)
            obtain ⟨ga2, oa2, haa, a2, a3⟩ := HARC.out _ hXX.out hdA (by rw [zarc_len]; exact hdlA)
            cases haa
            rw [zarc_at A hcA hclA] at a0 a1
            rw [zarc_at A hdA hdlA] at a2 a3
            have n1 : arcN A hcA = A[hcA] := by unfold arcN; rw [List.getD_eq_getElem?_getD, List.getElem?_eq_getElem hclA]; rfl
            have n2 : arcN A hdA = A[hdA] := by unfold arcN; rw [List.getD_eq_getElem?_getD, List.getElem?_eq_getElem hdlA]; rfl
            obtain ⟨x1, hx1⟩ : ∃ z, z = A[hcA].1 := ⟨_, rfl⟩
            obtain ⟨y1, hy1⟩ : ∃ z, z = A[hcA].2 := ⟨_, rfl⟩
            obtain ⟨x2, hx2⟩ : ∃ z, z = A[hdA].1 := ⟨_, rfl⟩
            obtain ⟨y2, hy2⟩ : ∃ z, z = A[hdA].2 := ⟨_, rfl⟩
            rw [← hx1] at a0; rw [← hy1] at a1; rw [← hx2] at a2; rw [← hy2] at a3
            have HLC : Hid (isLp A C = ((x1 : Int) == (y1 : Int))) := Lib.hid (isLp_eq (by rw [← dcA, n1, hx1, hy1]))
            have HLD : Hid (isLp A D = ((x2 : Int) == (y2 : Int))) := Lib.hid (isLp_eq (by rw [← ddA, n2, hx2, hy2]))
            have b4 : (0 : Int) ≤ (hcA : Int) := by omega
            have b5 : (hcA : Int) < (M : Int) := by omega
            have b6 : (0 : Int) ≤ (hdA : Int) := by omega
            have b7 : (hdA : Int) < (M : Int) := by omega
            have b8 : (0 : Int) ≤ (i : Int) := by omega
            have b9 : (i : Int) < (K : Int) := by omega
            have b12 : (0 : Int) < (cn : Int) := by omega
            have b13 : (0 : Int) < (dn : Int) := by omega
            clear n1 n2 hx1 hy1 hx2 hy2 dcA ddA hinC hinD hEC hED hvC hvD
            go_wp2_with fail
            go_cut [16] from 107 to 180 (fun s16 wx => s16 = .bool (isLp A C || isLp A D) ∧ Hid (Ext wr wx))
            case first =>
              by_cases l1 : (x1 : Int) = (y1 : Int)
              · obtain ⟨f1, f2⟩ := eq_facts l1
                clear l1
                go_quiet (fail)
                go_wp2
                go_meet
                exact ⟨congrArg Value.bool (by rw [HLC.out, HLD.out, f1]; simp), Lib.hid (by first | exact (Ext.refl _).drewN _ | exact (Ext.refl _).drew)⟩
              · obtain ⟨f1, f2⟩ := neq_facts l1
                clear l1
                by_cases l2 : (x2 : Int) = (y2 : Int)
                · obtain ⟨f3, f4⟩ := eq_facts l2
                  clear l2
                  go_quiet (fail)
                  go_wp2
                  go_meet
                  exact ⟨congrArg Value.bool (by rw [HLC.out, HLD.out, f1, f3]; rfl), Lib.hid (by first | exact (Ext.refl _).drewN _ | exact (Ext.refl _).drew)⟩
                · obtain ⟨f3, f4⟩ := neq_facts l2
                  clear l2
                  go_quiet (fail)
                  go_wp2
                  go_meet
                  exact ⟨congrArg Value.bool (by rw [HLC.out, HLD.out, f1, f3]; rfl), Lib.hid (by first | exact (Ext.refl _).drewN _ | exact (Ext.refl _).drew)⟩
            case rest =>
              obtain ⟨rfl, hxe⟩ := hcut
              have hx9 := hx.trans hxe.out
              have HXE := Lib.hid (hXX.out.trans hxe.out)
              clear a0 a1 a2 a3 hc0 hd0 ri rk b10 b11 m0 m1
              by_cases hl : (isLp A C || isLp A D) = true
              · rw [hl]
                go_wp2
                go_roundw
                case rel => exact ⟨v + 1, by omega, by rw [hE.out]; go_num, by go_num, hx9⟩
                case measure => simp [RowKit.intOf]; omega
              · have hlf : (isLp A C || isLp A D) = false := by simpa using hl
                rw [hlf]
                have hlC : isLp A C = false := by rw [Bool.or_eq_false_iff] at hlf; exact hlf.1
                have hlD : isLp A D = false := by rw [Bool.or_eq_false_iff] at hlf; exact hlf.2
                go_wp2_with (go_at_call 26; refine (HAS.out v hlv HVC.out HVD.out hlC hlD _ HXE.out).mono ?_; rintro e w8 ⟨rfl, x8⟩)
                go_roundw
                case rel => exact ⟨v + 1, by omega, by rw [hE.out]; go_num, by go_num, hx9.trans x8⟩
                case measure => simp [RowKit.intOf]; omega
      · have hvN : v = N := by omega
        rw [hvN]
        have hcm : (cmnK (endsT N A C) (endsT N A D) N).length ≤ 1 := HCM.out
        obtain ⟨cm, hcme⟩ : ∃ n, n = (cmnK (endsT N A C) (endsT N A D) N).length := ⟨_, rfl⟩
        rw [← hcme] at hcm ⊢
        have hn1 : ¬ (1 : Int) < (cm : Int) := by omega
        clear hcme hvN
        go_wp2
        exact HQ.out _ _ _ _ _ _ _ _ _ _ _ _ _ _ _ _ _ _ _ _ _ _ _ _ _ _ _ _ _ _ _ _ _ _ _ _ _ _ _ _ _ _ _ _ _ _ _ _ _ _ _ _ _ _ _ _ _ _ _ _ _ _ _ _ _ _ _ _ _ _ _ _ _ _ _ _ _ _ _ _ _ _ _ _ _ _ _ _ _ _ _ _ _ _ _ _ _ _ (by go_num) (Lib.hid (hxd.out.trans hx))
end Go.Proofs.Ytaipcpdncmnelaa.Pt
