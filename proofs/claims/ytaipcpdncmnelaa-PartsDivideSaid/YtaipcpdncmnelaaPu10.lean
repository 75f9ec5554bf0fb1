/- Packed texts: PrtVis6 -/
import Derived.Test.YtaipcpdncmnelaaPu07
import Derived.Test.YtaipcpdncmnelaaPu08
import Derived.Test.YtaipcpdncmnelaaPu09
import Derived.Deep.RegionLaw
set_option linter.unusedVariables false
set_option linter.unusedSimpArgs false
/- One arm of visit's round. -/
namespace Go.Proofs.Ytaipcpdncmnelaa.Pt
open Go.RowKit Go.Sort Go.Lib Fx Tp

set_option maxHeartbeats 16000000 in
set_option maxRecDepth 1000000 in
theorem arm_new {w0 : World} {a : Option Addr} {M cap N bs bi ba bn bl B : Nat} {A : Arcs} {f : Nat} {s cur : St} {g D : List Nat} {v : Nat} {via : Int} {stp : St → Nat → St} {rn k g9 o9 ec e u sc tn pu pv : Nat} {wr w4 : World} {fv1 : Value} {fs1 : List Value} {sa : Option Addr} {KK : Act → World → Prop} {PP : Ending → World → Prop}
    {c3 c4 c5 c6 c7 c8 c9 c10 c11 c12 c13 c14 c15 c16 c17 c18 c19 c20 c21 c22 c23 c24 c25 c26 c27 c28 c29 c30 c31 c32 c33 c34 c35 c36 c37 c38 c39 c40 c41 c45 c46 c47 c48 c49 c50 c51 c52 c53 c54 c55 c56 c57 c58 c59 c60 c61 c62 c63 c64 c65 c66 c67 c68 c69 c70 c71 c72 c73 c74 c75 c76 c77 c78 c79 c80 c81 c82 c83 c84 c85 c86 c87 c88 c89 c90 c91 c92 c93 c94 c95 c96 c97 c98 c99 c100 c101 c102 c103 c104 c105 c106 c107 c108 c109 c110 c111 c112 c113 c114 c115 c116 c117 c118 c119 c120 c121 c122 c123 c124 c125 c126 c127 c128 c129 c130 c131 c132 c133 c134 c135 c136 c137 c138 c139 c140 c141 c142 c143 c144 c145 c146 c147 c148 c149 c150 c151 c152 c153 c154 c155 c156 c157 c158 c159 c160 c161 c162 c163 c164 c165 c166 c167 c168 c169 c170 c171 c172 c173 c174 c175 c176 c177 c178 c179 c180 c181 c182 c183 c184 c185 c186 c187 c188 c189 c190 c191 c192 c193 c194 c195 c196 : Value}
    (hN : N ≤ 64) (hA : M ≤ 256) (LIE : Hid (SLie w0.heap.size bs bi ba bn bl B)) (IH : Hid (VisC w0 a M cap N A bs bi ba bn bl B f)) (HOK : Hid (Ok N A)) (HP : Hid (Pre N A g v via s)) (HM : Hid (M = A.length)) (hv : v < N) (hv0 : -1 ≤ via) (hv1 : via ≤ 1000) (hcn : s.num.count 0 ≤ f + 1)
    (HSTP : Hid (stp = stepV (fun w e s => visT A f w (e : Int) s) A v via)) (hrl : rn ≤ M) (hkr : k < rn) (hBA : Hid (wr.heap[ba]? = w4.heap[ba]?)) (hbal : ba < wr.heap.size) (q0 : wr.cell? ⟨g9, o9 + k, none⟩ = some (.int .i64 (e : Int))) (o3 : u ≠ v) (huN : u < N) (heM : e < M)
    (OT' : Hid (Calls Try.prog 30 #[.pointer (some ⟨bi, 0, none⟩), .int .i64 (e : Int), .int .i64 (v : Int)] wr fun r w' => r = .returned (.int .i64 (u : Int)) ∧ Ext wr w'))
    (HEI : Hid (e ∈ incT A v)) (HU : Hid (u = oth A e v)) (HL : Hid (LoopI N A v via s D cur)) (I1 : Inv N A cur) (hcn1 : cur.cnt ≤ N) (hbl : cur.blk.length ≤ M) (hsl : tn ≤ M) (hW : Hid (Wlk w0 a M cap N A bs bi ba bn bl B wr (.slice sa tn sc) fv1 fs1 cur)) (HTN : Hid (tn = cur.stk.length))
    (HNV : Hid (∀ w5 : World, Ext wr w5 → w5.cell? ⟨bn, u, none⟩ = some (.int .i64 (pu : Int)) ∧ w5.cell? ⟨bn, v, none⟩ = some (.int .i64 (pv : Int)))) (HPU : Hid (pu = nm cur u)) (HPV : Hid (pv = nm cur v)) (hnu : pu ≤ cur.cnt) (hnv : pv ≤ cur.cnt)
    (hvia : ¬ (e : Int) = via) (hz : pu = 0)
    (HQ : Hid (∀ (x7 x8 x9 x45 x46 x47 x48 x49 x50 x51 x52 x53 x54 x55 x56 x57 x58 x59 x60 x61 x62 x63 x64 x65 x66 x67 x68 x69 x70 x71 x72 x73 x74 x75 x76 x77 x78 x79 x80 x81 x82 x83 x84 x85 x86 x87 x88 x89 x90 x91 x92 x93 x94 x95 x96 x97 x98 x99 x100 x101 x102 x103 x104 x105 x106 x107 x108 x109 x110 x111 x112 x113 x114 x115 x116 x117 x118 x119 x120 x121 x122 x123 x124 x125 x126 x127 x128 x129 x130 x131 x132 x133 x134 x135 x136 x137 x138 x139 x140 x141 x142 x143 x144 x145 x146 x147 x148 x149 x150 x151 x152 x153 x154 x155 x156 x157 x158 x159 x160 x161 x162 x163 x164 x165 x166 x167 x168 x169 x170 x171 x172 x173 x174 x175 x176 x177 x178 x179 x180 x181 x182 x183 x184 x185 x186 x187 x188 x189 x190 x191 x192 x193 x194 x195 x196 : Value) (w' : World) (sv' fv' : Value) (fs' : List Value) (i' : Value), i' = .int .i64 ((k + 1 : Nat) : Int) → Hid (Wlk w0 a M cap N A bs bi ba bn bl B w' sv' fv' fs' (stp cur e)) → Hid (w'.heap[ba]? = w4.heap[ba]?) → KK ⟨(List.toArray (.pointer (some ⟨bs, 0, none⟩) :: .int .i64 (v : Int) :: .int .i64 via :: c3 :: c4 :: c5 :: c6 :: x7 :: x8 :: x9 :: c10 :: c11 :: c12 :: c13 :: c14 :: c15 :: c16 :: c17 :: c18 :: c19 :: c20 :: c21 :: c22 :: c23 :: c24 :: c25 :: c26 :: c27 :: c28 :: c29 :: c30 :: c31 :: c32 :: c33 :: c34 :: c35 :: c36 :: c37 :: c38 :: c39 :: c40 :: c41 :: .slice (some ⟨g9, o9, none⟩) rn ec :: .int .i64 (rn : Int) :: i' :: x45 :: x46 :: x47 :: x48 :: x49 :: x50 :: x51 :: x52 :: x53 :: x54 :: x55 :: x56 :: x57 :: x58 :: x59 :: x60 :: x61 :: x62 :: x63 :: x64 :: x65 :: x66 :: x67 :: x68 :: x69 :: x70 :: x71 :: x72 :: x73 :: x74 :: x75 :: x76 :: x77 :: x78 :: x79 :: x80 :: x81 :: x82 :: x83 :: x84 :: x85 :: x86 :: x87 :: x88 :: x89 :: x90 :: x91 :: x92 :: x93 :: x94 :: x95 :: x96 :: x97 :: x98 :: x99 :: x100 :: x101 :: x102 :: x103 :: x104 :: x105 :: x106 :: x107 :: x108 :: x109 :: x110 :: x111 :: x112 :: x113 :: x114 :: x115 :: x116 :: x117 :: x118 :: x119 :: x120 :: x121 :: x122 :: x123 :: x124 :: x125 :: x126 :: x127 :: x128 :: x129 :: x130 :: x131 :: x132 :: x133 :: x134 :: x135 :: x136 :: x137 :: x138 :: x139 :: x140 :: x141 :: x142 :: x143 :: x144 :: x145 :: x146 :: x147 :: x148 :: x149 :: x150 :: x151 :: x152 :: x153 :: x154 :: x155 :: x156 :: x157 :: x158 :: x159 :: x160 :: x161 :: x162 :: x163 :: x164 :: x165 :: x166 :: x167 :: x168 :: x169 :: x170 :: x171 :: x172 :: x173 :: x174 :: x175 :: x176 :: x177 :: x178 :: x179 :: x180 :: x181 :: x182 :: x183 :: x184 :: x185 :: x186 :: x187 :: x188 :: x189 :: x190 :: x191 :: x192 :: x193 :: x194 :: x195 :: x196 :: [])), []⟩ w')) :
    Code.wp Try.prog bodyV (Exit.then KK (Exit.inBlock 0 (bodyPost Try.prog Try.f35 PP))) ⟨(List.toArray (.pointer (some ⟨bs, 0, none⟩) :: .int .i64 (v : Int) :: .int .i64 via :: c3 :: c4 :: c5 :: c6 :: c7 :: c8 :: c9 :: c10 :: c11 :: c12 :: c13 :: c14 :: c15 :: c16 :: c17 :: c18 :: c19 :: c20 :: c21 :: c22 :: c23 :: c24 :: c25 :: c26 :: c27 :: c28 :: c29 :: c30 :: c31 :: c32 :: c33 :: c34 :: c35 :: c36 :: c37 :: c38 :: c39 :: c40 :: c41 :: .slice (some ⟨g9, o9, none⟩) rn ec :: .int .i64 (rn : Int) :: .int .i64 (k : Int) :: c45 :: c46 :: c47 :: c48 :: c49 :: c50 :: c51 :: c52 :: c53 :: c54 :: c55 :: c56 :: c57 :: c58 :: c59 :: c60 :: c61 :: c62 :: c63 :: c64 :: c65 :: c66 :: c67 :: c68 :: c69 :: c70 :: c71 :: c72 :: c73 :: c74 :: c75 :: c76 :: c77 :: c78 :: c79 :: c80 :: c81 :: c82 :: c83 :: c84 :: c85 :: c86 :: c87 :: c88 :: c89 :: c90 :: c91 :: c92 :: c93 :: c94 :: c95 :: c96 :: c97 :: c98 :: c99 :: c100 :: c101 :: c102 :: c103 :: c104 :: c105 :: c106 :: c107 :: c108 :: c109 :: c110 :: c111 :: c112 :: c113 :: c114 :: c115 :: c116 :: c117 :: c118 :: c119 :: c120 :: c121 :: c122 :: c123 :: c124 :: c125 :: c126 :: c127 :: c128 :: c129 :: c130 :: c131 :: c132 :: c133 :: c134 :: c135 :: c136 :: c137 :: c138 :: c139 :: c140 :: c141 :: c142 :: c143 :: c144 :: c145 :: c146 :: c147 :: c148 :: c149 :: c150 :: c151 :: c152 :: c153 :: c154 :: c155 :: c156 :: c157 :: c158 :: c159 :: c160 :: c161 :: c162 :: c163 :: c164 :: c165 :: c166 :: c167 :: c168 :: c169 :: c170 :: c171 :: c172 :: c173 :: c174 :: c175 :: c176 :: c177 :: c178 :: c179 :: c180 :: c181 :: c182 :: c183 :: c184 :: c185 :: c186 :: c187 :: c188 :: c189 :: c190 :: c191 :: c192 :: c193 :: c194 :: c195 :: c196 :: [])), []⟩ wr := by
  conv => arg 2; whnf
  have b0 : (0 : Int) ≤ (v : Int) := by omega
  have b1 : (v : Int) < (N : Int) := by omega
  have b2 : (0 : Int) ≤ (u : Int) := by omega
  have b3 : (u : Int) < (N : Int) := by omega
  have hcnt : s.cnt ≤ 64 := by have := HP.out.inv.cnt_le; omega
  obtain ⟨i0, hi0, hz0, hz1, hz2⟩ := info_parts info_int
  obtain ⟨f1, f2⟩ := neq_facts hvia
  have HVIA := Lib.hid hvia
  obtain ⟨k0, -, -, -, -, -, -, -⟩ := hW.out.cells
  clear hvia
  subst hz
  have f0 := (eq_facts (x := ((0 : Nat) : Int)) (k := 0) rfl).1
  have hzu : nm cur u = 0 := HPU.out.symm
  have CP : Pre N A (v :: g) u e (push e cur) := by
    have := child_pre HP.out HOK.out HL.out HEI.out HVIA.out (by rw [← HU.out]; exact hzu)
    rw [← HU.out] at this; exact this
  have hcf : cur.num.count 0 ≤ f := by
    have e1 := I1.cz; have e2 := HP.out.inv.cz; have e3 := HL.out.nv; have e4 := I1.le v
    omega
  have RL := visit_law HOK.out f (v :: g) u e (push e cur) CP hcf
  obtain ⟨s1, hs1⟩ : ∃ s1, s1 = visT A f u e (push e cur) := ⟨_, rfl⟩
  rw [← hs1] at RL
  have hS : Hid (stp cur e = tie v u tn s1) := Lib.hid (by
    rw [HSTP.out]; unfold stepV; rw [if_neg HVIA.out, ← HU.out, if_pos hzu, HTN.out, hs1]; rfl)
  have hpv0 : nm s1 v = pv := by rw [HPV.out]; exact RL.gw.old v (by rw [push_nm, HL.out.nv]; omega)
  have hseg : ∃ sg, s1.stk = cur.stk ++ (e :: sg) := by
    obtain ⟨sg, h1, -, -⟩ := RL.seg
    exact ⟨sg, by rw [h1]; show (cur.stk ++ [e]) ++ sg = _; rw [List.append_assoc]; rfl⟩
  have HCP := Lib.hid CP; have HRL := Lib.hid RL; have HS1 := Lib.hid hs1; have HP0 := Lib.hid hpv0; have HSEG := Lib.hid hseg
  clear CP RL hs1 hpv0 hseg hzu
  go_wp2_with (first
    | (go_at_call 35; have z7 := W7; refine (IH.out _ _ _ _ (push e cur) (v :: g) u e hcf W7.out HCP.out (by omega) (by omega)).mono ?_; rintro r w9 ⟨rfl, hba9, sv9, fv9, fs9, W9⟩)
    | (go_at_call 30; refine OT'.out.mono ?_; rintro r w5 ⟨rfl, x5⟩; have W5 := Lib.hid (hW.out.ext x5); obtain ⟨c0, c1, -, -, c4, -, -, -⟩ := W5.out.cells; obtain ⟨i1, i2⟩ := HNV.out w5 x5; have HT : Hid (w5.ownsRow B 3 1 (.slice sa tn sc) tn (iv (zl cur.stk))) := Lib.hid (by have := W5.out.T; rw [← HTN.out] at this; exact this))
    | (at_builtin; refine wpList_append_lies _ rfl _ _ 31 rfl B 3 i0 _ 1 8 Try.underlying31 hi0 hz0 hz1 hz2 rfl (by decide) _ _ _ rfl (HT.out.alloc _) ⟨w5.heap.size, 0, none⟩ 1 1 [.int .i64 e] rfl rfl (new_cells' _ [_] _ _ rfl) (by simp [Value.oneCell']) (by decide) (by unfold maxLen; omega) (by omega) (by have := W5.out.Z; simp; omega) _ rfl ?_; intro gg cc w7 hown7 hgrow7 hat7 _; have W7 := Lib.hid (Wlk.stkW (k := cur.stk ++ [e]) (n := tn + 1) (W5.out.ext ((Ext.refl _).alloc (.cells #[.int .i64 e] 3))) LIE.out (by rw [HTN.out]; simp) (by rw [zl_app, iv_app]; exact hown7) hgrow7 (hat7.elim .inl (fun e => .inr (by rw [e]; simp)))); have hb7 := heap_grown (heap_ext W5.out.S ((Ext.refl _).alloc (.cells #[.int .i64 e] 3))) hgrow7 (fun e => by have := (HT.out.lt bs e.symm).1; have := LIE.out.ls; omega); have s7 : w7.cell? ⟨bs, 4, none⟩ = some (.slice sa tn sc) := (by rw [Lib.cell_of_heap hb7]; rfl); have f7 := Lib.frozen_of_heap hb7 4; have B7 : Hid ((w7.setCell ⟨bs, 4, none⟩ (.slice (some ⟨gg, 0, none⟩) (tn + 1) cc)).heap[ba]? = w4.heap[ba]?) := Lib.hid (by rw [Below.heap_setCell _ _ _ _ (fun e => LIE.out.sa e.symm), ← hBA.out]; exact (hgrow7.block ba (by have := x5.size; simp; omega) (fun e => by have := (HT.out.lt ba e.symm).1; have := LIE.out.la; omega)).trans (((Ext.refl w5).alloc _).block ba (by have := x5.size; omega) |>.trans (x5.block ba hbal))); clear hown7 hgrow7 hat7 hb7 c0 c1 c4 i1 i2))
  have B9 : Hid (w9.heap[ba]? = w4.heap[ba]?) := Lib.hid (hba9.trans B7.out)
  rw [← HS1.out] at W9
  have HW9 := Lib.hid W9
  obtain ⟨d0, d1, d2, -, -, -, -, -⟩ := W9.cells
  have l1 := W9.l.cellD (j := v) (by rw [zl_len, HRL.out.inv.ll]; exact hv)
  have l2 := W9.l.cellD (j := u) (by rw [zl_len, HRL.out.inv.ll]; exact huN)
  have lf := W9.l.frozen v
  rw [zl_getD] at l1 l2
  obtain ⟨pl, hpl⟩ : ∃ pl, pl = lo s1 v := ⟨_, rfl⟩
  obtain ⟨pq, hpq⟩ : ∃ pq, pq = lo s1 u := ⟨_, rfl⟩
  have l1' : w9.cell? ⟨bl, v, none⟩ = some (.int .i64 pl) := by rw [hpl]; exact l1
  have l2' : w9.cell? ⟨bl, u, none⟩ = some (.int .i64 pq) := by rw [hpq]; exact l2
  have W10 := W9.setL LIE.out v (min pl pq)
  have m2 := W10.l.cellD (j := u) (by rw [zl_len]; show u < (s1.low.set v _).length; rw [List.length_set, HRL.out.inv.ll]; exact huN)
  have m1 := W10.n.cellD (j := v) (by rw [zl_len]; show v < s1.num.length; rw [HRL.out.inv.ln]; exact hv)
  rw [zl_getD] at m1 m2
  rw [show (s1.num.getD v 0 : Nat) = pv from HP0.out] at m1
  rw [show ((s1.low.set v (min pl pq)).getD u 0 : Nat) = pq by rw [getD_set, if_neg (fun z => o3 z.1.symm), hpq]; rfl] at m2
  have B10 : Hid ((w9.setCell ⟨bl, v, none⟩ (.int .i64 (min pl pq : Nat))).heap[ba]? = w4.heap[ba]?) := Lib.hid (by rw [Below.heap_setCell _ _ _ _ LIE.out.al]; exact B9.out)
  obtain ⟨c0, c1, c2, -, -, -, -, -⟩ := W10.cells
  rw [cast_min] at W10 m1 m2 B10 c0 c1 c2
  have HW10 := Lib.hid W10
  have HPL := Lib.hid hpl; have HPQ := Lib.hid hpq
  clear W9 W10 l1 l2 hba9 B7 W7 W5 HT s7 f7 hpl hpq B9
  go_cut [9] from 87 to 107 (fun s9 wx => s9 = .int .i64 tn ∧ Hid (Ext (w9.setCell ⟨bl, v, none⟩ (.int .i64 (min (pl : Int) (pq : Int)))) wx))
  case first =>
    by_cases hmin : pl ≤ pq
    · have hm : min (pl : Int) (pq : Int) = (pl : Int) := by omega
      have hmi : (pl : Int) ≤ (pq : Int) := by omega
      go_region
      all_goals go_wp2
      all_goals go_meet
      all_goals exact ⟨rfl, Lib.hid (by rw [hm]; first | exact (Ext.refl _).drew | exact Ext.refl _)⟩
    · have hm : min (pl : Int) (pq : Int) = (pq : Int) := by omega
      have hmi : ¬ (pl : Int) ≤ (pq : Int) := by omega
      go_region
      all_goals go_wp2
      all_goals go_meet
      all_goals exact ⟨rfl, Lib.hid (by rw [hm]; first | exact (Ext.refl _).drew | exact Ext.refl _)⟩
  case rest =>
    obtain ⟨rfl, hxc⟩ := hcut
    have W11 := Lib.hid (HW10.out.ext hxc.out)
    obtain ⟨aa1, aa2, ab, -, -⟩ := HW10.out.A v hv
    have hb10 := World.block_lt_of_cell? _ _ ab
    have B11 : Hid (wc.heap[ba]? = w4.heap[ba]?) := Lib.hid ((hxc.out.block ba hb10).trans B10.out)
    have hbl11 : Hid (ba < wc.heap.size) := Lib.hid (Nat.lt_of_lt_of_le hb10 hxc.out.size)
    have n5 := hxc.out.cell m1; have n6 := hxc.out.cell m2
    rename_i hKK
    refine hKK _ _ ?_
    by_cases hp : pv ≤ pq
    · refine tie_yes (cur := cur) (e := e) (pl := pl) (pq := pq) (pv := pv) hN hA LIE HM hv huN HTN (Lib.hid HRL.out.inv) HSEG W11 B11 hbl11 n5 n6 HPL HPQ HP0 hp (Lib.hid ?_)
      intro x108 x109 x110 x111 x112 x113 x114 x115 x116 x117 x118 x119 x120 x121 x122 x123 x124 x125 x126 x127 x128 x129 x130 x131 x132 x133 x134 x135 x136 x137 x138 x139 x140 x141 x142 x143 x144 x145 x146 x147 x148 w' sv' fv' fs' hw hb
      go_wp2
      exact HQ.out _ _ _ _ _ _ _ _ _ _ _ _ _ _ _ _ _ _ _ _ _ _ _ _ _ _ _ _ _ _ _ _ _ _ _ _ _ _ _ _ _ _ _ _ _ _ _ _ _ _ _ _ _ _ _ _ _ _ _ _ _ _ _ _ _ _ _ _ _ _ _ _ _ _ _ _ _ _ _ _ _ _ _ _ _ _ _ _ _ _ _ _ _ _ _ _ _ _ _ _ _ _ _ _ _ _ _ _ _ _ _ _ _ _ _ _ _ _ _ _ _ _ _ _ _ _ _ _ _ _ _ _ _ _ _ _ _ _ _ _ _ _ _ _ _ _ _ _ _ _ _ _ _ _ _ _ _ _ _ _ (by go_num) (Lib.hid (by rw [hS.out]; exact hw.out)) (hb)
    · refine tie_not (cur := cur) (e := e) (pl := pl) (pq := pq) (pv := pv) hN hA LIE HM hv huN HTN (Lib.hid HRL.out.inv) HSEG W11 B11 hbl11 n5 n6 HPL HPQ HP0 hp (Lib.hid ?_)
      intro x108 x109 x110 x111 x112 x113 x114 x115 x116 x117 x118 x119 x120 x121 x122 x123 x124 x125 x126 x127 x128 x129 x130 x131 x132 x133 x134 x135 x136 x137 x138 x139 x140 x141 x142 x143 x144 x145 x146 x147 x148 w' sv' fv' fs' hw hb
      go_wp2
      exact HQ.out _ _ _ _ _ _ _ _ _ _ _ _ _ _ _ _ _ _ _ _ _ _ _ _ _ _ _ _ _ _ _ _ _ _ _ _ _ _ _ _ _ _ _ _ _ _ _ _ _ _ _ _ _ _ _ _ _ _ _ _ _ _ _ _ _ _ _ _ _ _ _ _ _ _ _ _ _ _ _ _ _ _ _ _ _ _ _ _ _ _ _ _ _ _ _ _ _ _ _ _ _ _ _ _ _ _ _ _ _ _ _ _ _ _ _ _ _ _ _ _ _ _ _ _ _ _ _ _ _ _ _ _ _ _ _ _ _ _ _ _ _ _ _ _ _ _ _ _ _ _ _ _ _ _ _ _ _ _ _ _ (by go_num) (Lib.hid (by rw [hS.out]; exact hw.out)) (hb)
end Go.Proofs.Ytaipcpdncmnelaa.Pt
