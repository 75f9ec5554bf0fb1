/- Packed texts: PrtVis1, PrtVis2, PrtVis3, PrtVis4 -/
import Derived.Test.YtaipcpdncmnelaaPu07
import Derived.Deep.RegionLaw
set_option linter.unusedVariables false
set_option linter.unusedSimpArgs false
/- One arm of visit's round. -/
namespace Go.Proofs.Ytaipcpdncmnelaa.Pt
open Go.RowKit Go.Sort Go.Lib Fx Tp

set_option maxHeartbeats 16000000 in
set_option maxRecDepth 1000000 in
theorem arm_via {w0 : World} {a : Option Addr} {M cap N bs bi ba bn bl B : Nat} {A : Arcs} {f : Nat} {s cur : St} {g D : List Nat} {v : Nat} {via : Int} {stp : St → Nat → St} {rn k g9 o9 ec e u sc tn pu pv : Nat} {wr w4 : World} {fv1 : Value} {fs1 : List Value} {sa : Option Addr} {KK : Act → World → Prop} {PP : Ending → World → Prop}
    {c3 c4 c5 c6 c7 c8 c9 c10 c11 c12 c13 c14 c15 c16 c17 c18 c19 c20 c21 c22 c23 c24 c25 c26 c27 c28 c29 c30 c31 c32 c33 c34 c35 c36 c37 c38 c39 c40 c41 c45 c46 c47 c48 c49 c50 c51 c52 c53 c54 c55 c56 c57 c58 c59 c60 c61 c62 c63 c64 c65 c66 c67 c68 c69 c70 c71 c72 c73 c74 c75 c76 c77 c78 c79 c80 c81 c82 c83 c84 c85 c86 c87 c88 c89 c90 c91 c92 c93 c94 c95 c96 c97 c98 c99 c100 c101 c102 c103 c104 c105 c106 c107 c108 c109 c110 c111 c112 c113 c114 c115 c116 c117 c118 c119 c120 c121 c122 c123 c124 c125 c126 c127 c128 c129 c130 c131 c132 c133 c134 c135 c136 c137 c138 c139 c140 c141 c142 c143 c144 c145 c146 c147 c148 c149 c150 c151 c152 c153 c154 c155 c156 c157 c158 c159 c160 c161 c162 c163 c164 c165 c166 c167 c168 c169 c170 c171 c172 c173 c174 c175 c176 c177 c178 c179 c180 c181 c182 c183 c184 c185 c186 c187 c188 c189 c190 c191 c192 c193 c194 c195 c196 : Value}
    (hN : N ≤ 64) (hA : M ≤ 256) (LIE : Hid (SLie w0.heap.size bs bi ba bn bl B)) (IH : Hid (VisC w0 a M cap N A bs bi ba bn bl B f)) (HOK : Hid (Ok N A)) (HP : Hid (Pre N A g v via s)) (HM : Hid (M = A.length)) (hv : v < N) (hv0 : -1 ≤ via) (hv1 : via ≤ 1000) (hcn : s.num.count 0 ≤ f + 1)
    (HSTP : Hid (stp = stepV (fun w e s => visT A f w (e : Int) s) A v via)) (hrl : rn ≤ M) (hkr : k < rn) (hBA : Hid (wr.heap[ba]? = w4.heap[ba]?)) (hbal : ba < wr.heap.size) (q0 : wr.cell? ⟨g9, o9 + k, none⟩ = some (.int .i64 (e : Int))) (o3 : u ≠ v) (huN : u < N) (heM : e < M)
    (OT' : Hid (Calls Try.prog 30 #[.pointer (some ⟨bi, 0, none⟩), .int .i64 (e : Int), .int .i64 (v : Int)] wr fun r w' => r = .returned (.int .i64 (u : Int)) ∧ Ext wr w'))
    (HEI : Hid (e ∈ incT A v)) (HU : Hid (u = oth A e v)) (HL : Hid (LoopI N A v via s D cur)) (I1 : Inv N A cur) (hcn1 : cur.cnt ≤ N) (hbl : cur.blk.length ≤ M) (hsl : tn ≤ M) (hW : Hid (Wlk w0 a M cap N A bs bi ba bn bl B wr (.slice sa tn sc) fv1 fs1 cur)) (HTN : Hid (tn = cur.stk.length))
    (HNV : Hid (∀ w5 : World, Ext wr w5 → w5.cell? ⟨bn, u, none⟩ = some (.int .i64 (pu : Int)) ∧ w5.cell? ⟨bn, v, none⟩ = some (.int .i64 (pv : Int)))) (HPU : Hid (pu = nm cur u)) (HPV : Hid (pv = nm cur v)) (hnu : pu ≤ cur.cnt) (hnv : pv ≤ cur.cnt)
    (hvia : (e : Int) = via)
    (HQ : Hid (∀ (x7 x8 x9 x45 x46 x47 x48 x49 x50 x51 x52 x53 x54 x55 x56 x57 x58 x59 x60 x61 x62 x63 x64 x65 x66 x67 x68 x69 x70 x71 x72 x73 x74 x75 x76 x77 x78 x79 x80 x81 x82 x83 x84 x85 x86 x87 x88 x89 x90 x91 x92 x93 x94 x95 x96 x97 x98 x99 x100 x101 x102 x103 x104 x105 x106 x107 x108 x109 x110 x111 x112 x113 x114 x115 x116 x117 x118 x119 x120 x121 x122 x123 x124 x125 x126 x127 x128 x129 x130 x131 x132 x133 x134 x135 x136 x137 x138 x139 x140 x141 x142 x143 x144 x145 x146 x147 x148 x149 x150 x151 x152 x153 x154 x155 x156 x157 x158 x159 x160 x161 x162 x163 x164 x165 x166 x167 x168 x169 x170 x171 x172 x173 x174 x175 x176 x177 x178 x179 x180 x181 x182 x183 x184 x185 x186 x187 x188 x189 x190 x191 x192 x193 x194 x195 x196 : Value) (w' : World) (sv' fv' : Value) (fs' : List Value) (i' : Value), i' = .int .i64 ((k + 1 : Nat) : Int) → Hid (Wlk w0 a M cap N A bs bi ba bn bl B w' sv' fv' fs' (stp cur e)) → Hid (w'.heap[ba]? = w4.heap[ba]?) → KK ⟨(List.toArray (.pointer (some ⟨bs, 0, none⟩) :: .int .i64 (v : Int) :: .int .i64 via :: c3 :: c4 :: c5 :: c6 :: x7 :: x8 :: x9 :: c10 :: c11 :: c12 :: c13 :: c14 :: c15 :: c16 :: c17 :: c18 :: c19 :: c20 :: c21 :: c22 :: c23 :: c24 :: c25 :: c26 :: c27 :: c28 :: c29 :: c30 :: c31 :: c32 :: c33 :: c34 :: c35 :: c36 :: c37 :: c38 :: c39 :: c40 :: c41 :: .slice (some ⟨g9, o9, none⟩) rn ec :: .int .i64 (rn : Int) :: i' :: x45 :: x46 :: x47 :: x48 :: x49 :: x50 :: x51 :: x52 :: x53 :: x54 :: x55 :: x56 :: x57 :: x58 :: x59 :: x60 :: x61 :: x62 :: x63 :: x64 :: x65 :: x66 :: x67 :: x68 :: x69 :: x70 :: x71 :: x72 :: x73 :: x74 :: x75 :: x76 :: x77 :: x78 :: x79 :: x80 :: x81 :: x82 :: x83 :: x84 :: x85 :: x86 :: x87 :: x88 :: x89 :: x90 :: x91 :: x92 :: x93 :: x94 :: x95 :: x96 :: x97 :: x98 :: x99 :: x100 :: x101 :: x102 :: x103 :: x104 :: x105 :: x106 :: x107 :: x108 :: x109 :: x110 :: x111 :: x112 :: x113 :: x114 :: x115 :: x116 :: x117 :: x118 :: x119 :: x120 :: x121 :: x122 :: x123 :: x124 :: x125 :: x126 :: x127 :: x128 :: x129 :: x130 :: x131 :: x132 :: x133 :: x134 :: x135 :: x136 :: x137 :: x138 :: x139 :: x140 :: x141 :: x142 :: x143 :: x144 :: x145 :: x146 :: x147 :: x148 :: x149 :: x150 :: x151 :: x152 :: x153 :: x154 :: x155 :: x156 :: x157 :: x158 :: x159 :: x160 :: x161 :: x162 :: x163 :: x164 :: x165 :: x166 :: x167 :: x168 :: x169 :: x170 :: x171 :: x172 :: x173 :: x174 :: x175 :: x176 :: x177 :: x178 :: x179 :: x180 :: x181 :: x182 :: x183 :: x184 :: x185 :: x186 :: x187 :: x188 :: x189 :: x190 :: x191 :: x192 :: x193 :: x194 :: x195 :: x196 :: [])), []⟩ w')) :
    Code.wp Try.prog bodyV (Exit.then KK (Exit.inBlock 0 (bodyPost Try.prog Try.f35 PP))) ⟨(List.toArray (.pointer (some ⟨bs, 0, none⟩) :: .int .i64 (v : Int) :: .int .i64 via :: c3 :: c4 :: c5 :: c6 :: c7 :: c8 :: c9 :: c10 :: c11 :: c12 :: c13 :: c14 :: c15 :: c16 :: c17 :: c18 :: c19 :: c20 :: c21 :: c22 :: c23 :: c24 :: c25 :: c26 :: c27 :: c28 :: c29 :: c30 :: c31 :: c32 :: c33 :: c34 :: c35 :: c36 :: c37 :: c38 :: c39 :: c40 :: c41 :: .slice (some ⟨g9, o9, none⟩) rn ec :: .int .i64 (rn : Int) :: .int .i64 (k : Int) :: c45 :: c46 :: c47 :: c48 :: c49 :: c50 :: c51 :: c52 :: c53 :: c54 :: c55 :: c56 :: c57 :: c58 :: c59 :: c60 :: c61 :: c62 :: c63 :: c64 :: c65 :: c66 :: c67 :: c68 :: c69 :: c70 :: c71 :: c72 :: c73 :: c74 :: c75 :: c76 :: c77 :: c78 :: c79 :: c80 :: c81 :: c82 :: c83 :: c84 :: c85 :: c86 :: c87 :: c88 :: c89 :: c90 :: c91 :: c92 :: c93 :: c94 :: c95 :: c96 :: c97 :: c98 :: c99 :: c100 :: c101 :: c102 :: c103 :: c104 :: c105 :: c106 :: c107 :: c108 :: c109 :: c110 :: c111 :: c112 :: c113 :: c114 :: c115 :: c116 :: c117 :: c118 :: c119 :: c120 :: c121 :: c122 :: c123 :: c124 :: c125 :: c126 :: c127 :: c128 :: c129 :: c130 :: c131 :: c132 :: c133 :: c134 :: c135 :: c136 :: c137 :: c138 :: c139 :: c140 :: c141 :: c142 :: c143 :: c144 :: c145 :: c146 :: c147 :: c148 :: c149 :: c150 :: c151 :: c152 :: c153 :: c154 :: c155 :: c156 :: c157 :: c158 :: c159 :: c160 :: c161 :: c162 :: c163 :: c164 :: c165 :: c166 :: c167 :: c168 :: c169 :: c170 :: c171 :: c172 :: c173 :: c174 :: c175 :: c176 :: c177 :: c178 :: c179 :: c180 :: c181 :: c182 :: c183 :: c184 :: c185 :: c186 :: c187 :: c188 :: c189 :: c190 :: c191 :: c192 :: c193 :: c194 :: c195 :: c196 :: [])), []⟩ wr := by
  conv => arg 2; whnf
  have b0 : (0 : Int) ≤ (v : Int) := by omega
  have b1 : (v : Int) < (N : Int) := by omega
  have b2 : (0 : Int) ≤ (u : Int) := by omega
  have b3 : (u : Int) < (N : Int) := by omega
  have hcnt : s.cnt ≤ 64 := by have := HP.out.inv.cnt_le; omega
  have hS : Hid (stp cur e = cur) := Lib.hid (by rw [HSTP.out]; unfold stepV; rw [if_pos hvia])
  obtain ⟨f1, f2⟩ := eq_facts hvia
  obtain ⟨c0, -, -, -, -, -, -, -⟩ := hW.out.cells
  clear hvia
  go_wp2_with (go_at_call 30; refine OT'.out.mono ?_; rintro r w5 ⟨rfl, x5⟩)
  exact HQ.out _ _ _ _ _ _ _ _ _ _ _ _ _ _ _ _ _ _ _ _ _ _ _ _ _ _ _ _ _ _ _ _ _ _ _ _ _ _ _ _ _ _ _ _ _ _ _ _ _ _ _ _ _ _ _ _ _ _ _ _ _ _ _ _ _ _ _ _ _ _ _ _ _ _ _ _ _ _ _ _ _ _ _ _ _ _ _ _ _ _ _ _ _ _ _ _ _ _ _ _ _ _ _ _ _ _ _ _ _ _ _ _ _ _ _ _ _ _ _ _ _ _ _ _ _ _ _ _ _ _ _ _ _ _ _ _ _ _ _ _ _ _ _ _ _ _ _ _ _ _ _ _ _ _ _ _ _ _ _ _ (by go_num) (Lib.hid (by rw [hS.out]; exact hW.out.ext x5)) (Lib.hid (by rw [← hBA.out]; exact x5.block ba hbal))
end Go.Proofs.Ytaipcpdncmnelaa.Pt

/- One arm of visit's round. -/
namespace Go.Proofs.Ytaipcpdncmnelaa.Pt
open Go.RowKit Go.Sort Go.Lib Fx Tp

set_option maxHeartbeats 16000000 in
set_option maxRecDepth 1000000 in
theorem arm_back {w0 : World} {a : Option Addr} {M cap N bs bi ba bn bl B : Nat} {A : Arcs} {f : Nat} {s cur : St} {g D : List Nat} {v : Nat} {via : Int} {stp : St → Nat → St} {rn k g9 o9 ec e u sc tn pu pv : Nat} {wr w4 : World} {fv1 : Value} {fs1 : List Value} {sa : Option Addr} {KK : Act → World → Prop} {PP : Ending → World → Prop}
    {c3 c4 c5 c6 c7 c8 c9 c10 c11 c12 c13 c14 c15 c16 c17 c18 c19 c20 c21 c22 c23 c24 c25 c26 c27 c28 c29 c30 c31 c32 c33 c34 c35 c36 c37 c38 c39 c40 c41 c45 c46 c47 c48 c49 c50 c51 c52 c53 c54 c55 c56 c57 c58 c59 c60 c61 c62 c63 c64 c65 c66 c67 c68 c69 c70 c71 c72 c73 c74 c75 c76 c77 c78 c79 c80 c81 c82 c83 c84 c85 c86 c87 c88 c89 c90 c91 c92 c93 c94 c95 c96 c97 c98 c99 c100 c101 c102 c103 c104 c105 c106 c107 c108 c109 c110 c111 c112 c113 c114 c115 c116 c117 c118 c119 c120 c121 c122 c123 c124 c125 c126 c127 c128 c129 c130 c131 c132 c133 c134 c135 c136 c137 c138 c139 c140 c141 c142 c143 c144 c145 c146 c147 c148 c149 c150 c151 c152 c153 c154 c155 c156 c157 c158 c159 c160 c161 c162 c163 c164 c165 c166 c167 c168 c169 c170 c171 c172 c173 c174 c175 c176 c177 c178 c179 c180 c181 c182 c183 c184 c185 c186 c187 c188 c189 c190 c191 c192 c193 c194 c195 c196 : Value}
    (hN : N ≤ 64) (hA : M ≤ 256) (LIE : Hid (SLie w0.heap.size bs bi ba bn bl B)) (IH : Hid (VisC w0 a M cap N A bs bi ba bn bl B f)) (HOK : Hid (Ok N A)) (HP : Hid (Pre N A g v via s)) (HM : Hid (M = A.length)) (hv : v < N) (hv0 : -1 ≤ via) (hv1 : via ≤ 1000) (hcn : s.num.count 0 ≤ f + 1)
    (HSTP : Hid (stp = stepV (fun w e s => visT A f w (e : Int) s) A v via)) (hrl : rn ≤ M) (hkr : k < rn) (hBA : Hid (wr.heap[ba]? = w4.heap[ba]?)) (hbal : ba < wr.heap.size) (q0 : wr.cell? ⟨g9, o9 + k, none⟩ = some (.int .i64 (e : Int))) (o3 : u ≠ v) (huN : u < N) (heM : e < M)
    (OT' : Hid (Calls Try.prog 30 #[.pointer (some ⟨bi, 0, none⟩), .int .i64 (e : Int), .int .i64 (v : Int)] wr fun r w' => r = .returned (.int .i64 (u : Int)) ∧ Ext wr w'))
    (HEI : Hid (e ∈ incT A v)) (HU : Hid (u = oth A e v)) (HL : Hid (LoopI N A v via s D cur)) (I1 : Inv N A cur) (hcn1 : cur.cnt ≤ N) (hbl : cur.blk.length ≤ M) (hsl : tn ≤ M) (hW : Hid (Wlk w0 a M cap N A bs bi ba bn bl B wr (.slice sa tn sc) fv1 fs1 cur)) (HTN : Hid (tn = cur.stk.length))
    (HNV : Hid (∀ w5 : World, Ext wr w5 → w5.cell? ⟨bn, u, none⟩ = some (.int .i64 (pu : Int)) ∧ w5.cell? ⟨bn, v, none⟩ = some (.int .i64 (pv : Int)))) (HPU : Hid (pu = nm cur u)) (HPV : Hid (pv = nm cur v)) (hnu : pu ≤ cur.cnt) (hnv : pv ≤ cur.cnt)
    (hvia : ¬ (e : Int) = via) (hz : ¬ pu = 0) (hlt : pu < pv)
    (HQ : Hid (∀ (x7 x8 x9 x45 x46 x47 x48 x49 x50 x51 x52 x53 x54 x55 x56 x57 x58 x59 x60 x61 x62 x63 x64 x65 x66 x67 x68 x69 x70 x71 x72 x73 x74 x75 x76 x77 x78 x79 x80 x81 x82 x83 x84 x85 x86 x87 x88 x89 x90 x91 x92 x93 x94 x95 x96 x97 x98 x99 x100 x101 x102 x103 x104 x105 x106 x107 x108 x109 x110 x111 x112 x113 x114 x115 x116 x117 x118 x119 x120 x121 x122 x123 x124 x125 x126 x127 x128 x129 x130 x131 x132 x133 x134 x135 x136 x137 x138 x139 x140 x141 x142 x143 x144 x145 x146 x147 x148 x149 x150 x151 x152 x153 x154 x155 x156 x157 x158 x159 x160 x161 x162 x163 x164 x165 x166 x167 x168 x169 x170 x171 x172 x173 x174 x175 x176 x177 x178 x179 x180 x181 x182 x183 x184 x185 x186 x187 x188 x189 x190 x191 x192 x193 x194 x195 x196 : Value) (w' : World) (sv' fv' : Value) (fs' : List Value) (i' : Value), i' = .int .i64 ((k + 1 : Nat) : Int) → Hid (Wlk w0 a M cap N A bs bi ba bn bl B w' sv' fv' fs' (stp cur e)) → Hid (w'.heap[ba]? = w4.heap[ba]?) → KK ⟨(List.toArray (.pointer (some ⟨bs, 0, none⟩) :: .int .i64 (v : Int) :: .int .i64 via :: c3 :: c4 :: c5 :: c6 :: x7 :: x8 :: x9 :: c10 :: c11 :: c12 :: c13 :: c14 :: c15 :: c16 :: c17 :: c18 :: c19 :: c20 :: c21 :: c22 :: c23 :: c24 :: c25 :: c26 :: c27 :: c28 :: c29 :: c30 :: c31 :: c32 :: c33 :: c34 :: c35 :: c36 :: c37 :: c38 :: c39 :: c40 :: c41 :: .slice (some ⟨g9, o9, none⟩) rn ec :: .int .i64 (rn : Int) :: i' :: x45 :: x46 :: x47 :: x48 :: x49 :: x50 :: x51 :: x52 :: x53 :: x54 :: x55 :: x56 :: x57 :: x58 :: x59 :: x60 :: x61 :: x62 :: x63 :: x64 :: x65 :: x66 :: x67 :: x68 :: x69 :: x70 :: x71 :: x72 :: x73 :: x74 :: x75 :: x76 :: x77 :: x78 :: x79 :: x80 :: x81 :: x82 :: x83 :: x84 :: x85 :: x86 :: x87 :: x88 :: x89 :: x90 :: x91 :: x92 :: x93 :: x94 :: x95 :: x96 :: x97 :: x98 :: x99 :: x100 :: x101 :: x102 :: x103 :: x104 :: x105 :: x106 :: x107 :: x108 :: x109 :: x110 :: x111 :: x112 :: x113 :: x114 :: x115 :: x116 :: x117 :: x118 :: x119 :: x120 :: x121 :: x122 :: x123 :: x124 :: x125 :: x126 :: x127 :: x128 :: x129 :: x130 :: x131 :: x132 :: x133 :: x134 :: x135 :: x136 :: x137 :: x138 :: x139 :: x140 :: x141 :: x142 :: x143 :: x144 :: x145 :: x146 :: x147 :: x148 :: x149 :: x150 :: x151 :: x152 :: x153 :: x154 :: x155 :: x156 :: x157 :: x158 :: x159 :: x160 :: x161 :: x162 :: x163 :: x164 :: x165 :: x166 :: x167 :: x168 :: x169 :: x170 :: x171 :: x172 :: x173 :: x174 :: x175 :: x176 :: x177 :: x178 :: x179 :: x180 :: x181 :: x182 :: x183 :: x184 :: x185 :: x186 :: x187 :: x188 :: x189 :: x190 :: x191 :: x192 :: x193 :: x194 :: x195 :: x196 :: [])), []⟩ w')) :
    Code.wp Try.prog bodyV (Exit.then KK (Exit.inBlock 0 (bodyPost Try.prog Try.f35 PP))) ⟨(List.toArray (.pointer (some ⟨bs, 0, none⟩) :: .int .i64 (v : Int) :: .int .i64 via :: c3 :: c4 :: c5 :: c6 :: c7 :: c8 :: c9 :: c10 :: c11 :: c12 :: c13 :: c14 :: c15 :: c16 :: c17 :: c18 :: c19 :: c20 :: c21 :: c22 :: c23 :: c24 :: c25 :: c26 :: c27 :: c28 :: c29 :: c30 :: c31 :: c32 :: c33 :: c34 :: c35 :: c36 :: c37 :: c38 :: c39 :: c40 :: c41 :: .slice (some ⟨g9, o9, none⟩) rn ec :: .int .i64 (rn : Int) :: .int .i64 (k : Int) :: c45 :: c46 :: c47 :: c48 :: c49 :: c50 :: c51 :: c52 :: c53 :: c54 :: c55 :: c56 :: c57 :: c58 :: c59 :: c60 :: c61 :: c62 :: c63 :: c64 :: c65 :: c66 :: c67 :: c68 :: c69 :: c70 :: c71 :: c72 :: c73 :: c74 :: c75 :: c76 :: c77 :: c78 :: c79 :: c80 :: c81 :: c82 :: c83 :: c84 :: c85 :: c86 :: c87 :: c88 :: c89 :: c90 :: c91 :: c92 :: c93 :: c94 :: c95 :: c96 :: c97 :: c98 :: c99 :: c100 :: c101 :: c102 :: c103 :: c104 :: c105 :: c106 :: c107 :: c108 :: c109 :: c110 :: c111 :: c112 :: c113 :: c114 :: c115 :: c116 :: c117 :: c118 :: c119 :: c120 :: c121 :: c122 :: c123 :: c124 :: c125 :: c126 :: c127 :: c128 :: c129 :: c130 :: c131 :: c132 :: c133 :: c134 :: c135 :: c136 :: c137 :: c138 :: c139 :: c140 :: c141 :: c142 :: c143 :: c144 :: c145 :: c146 :: c147 :: c148 :: c149 :: c150 :: c151 :: c152 :: c153 :: c154 :: c155 :: c156 :: c157 :: c158 :: c159 :: c160 :: c161 :: c162 :: c163 :: c164 :: c165 :: c166 :: c167 :: c168 :: c169 :: c170 :: c171 :: c172 :: c173 :: c174 :: c175 :: c176 :: c177 :: c178 :: c179 :: c180 :: c181 :: c182 :: c183 :: c184 :: c185 :: c186 :: c187 :: c188 :: c189 :: c190 :: c191 :: c192 :: c193 :: c194 :: c195 :: c196 :: [])), []⟩ wr := by
  conv => arg 2; whnf
  have b0 : (0 : Int) ≤ (v : Int) := by omega
  have b1 : (v : Int) < (N : Int) := by omega
  have b2 : (0 : Int) ≤ (u : Int) := by omega
  have b3 : (u : Int) < (N : Int) := by omega
  have hcnt : s.cnt ≤ 64 := by have := HP.out.inv.cnt_le; omega
  obtain ⟨i0, hi0, hz0, hz1, hz2⟩ := info_parts info_int
  obtain ⟨f1, f2⟩ := neq_facts hvia
  have HVIA := Lib.hid hvia
  obtain ⟨k0, -, -, -, -, -, -, -⟩ := hW.out.cells
  clear hvia
  have f0 := (neq_facts (x := ((pu : Nat) : Int)) (k := 0) (by omega)).1
  have hS : Hid (stp cur e = { cur with stk := cur.stk ++ [e], low := cur.low.set v (min (lo cur v) pu) }) := Lib.hid (by
    rw [HSTP.out]; unfold stepV; rw [if_neg HVIA.out, ← HU.out, ← HPU.out, ← HPV.out, if_neg hz, if_pos hlt])
  have g0 : decide (pu < pv) = true := decide_eq_true hlt
  have hlt2 : (pu : Int) < (pv : Int) := by omega
  go_wp2_with (go_at_call 30; refine OT'.out.mono ?_; rintro r w5 ⟨rfl, x5⟩; have W5 := Lib.hid (hW.out.ext x5); obtain ⟨c0, c1, -, -, c4, -, -, -⟩ := W5.out.cells; obtain ⟨i1, i2⟩ := HNV.out w5 x5)
  go_quiet (fail)
  have x6 : Ext w5 (w5.drewN nq) := (Ext.refl _).drewN _
  obtain ⟨w6, hw6⟩ : ∃ w6, w6 = w5.drewN nq := ⟨_, rfl⟩
  rw [← hw6] at x6 ⊢
  have W6 := Lib.hid (W5.out.ext x6)
  have B6 : Hid (w6.heap[ba]? = w4.heap[ba]?) := Lib.hid (by rw [← hBA.out]; exact (x5.trans x6).block ba hbal)
  have bal6 : Hid (ba < w6.heap.size) := Lib.hid (Nat.lt_of_lt_of_le hbal (x5.trans x6).size)
  have d4 := x6.cell c4; have d0 := x6.cell c0
  have u6 := x6.cell i1
  clear hw6 c0 c1 c4 i1 i2 W5 g0 f1 f2 f0 k0
  have hT : w6.ownsRow B 3 1 (.slice sa tn sc) tn (iv (zl cur.stk)) := by have := W6.out.T; rw [← HTN.out] at this; exact this
  have HT := Lib.hid hT
  clear hT
  go_wp2_with (at_builtin; refine wpList_append_lies _ rfl _ _ 31 rfl B 3 i0 _ 1 8 Try.underlying31 hi0 hz0 hz1 hz2 rfl (by decide) _ _ _ rfl (HT.out.alloc _) ⟨w6.heap.size, 0, none⟩ 1 1 [.int .i64 e] rfl rfl ?c1 ?c2 (by decide) ?c3 ?c4 ?c5 _ rfl ?_)
  case c1 => exact new_cells' _ [_] _ _ rfl
  case c2 => simp [Value.oneCell']
  case c3 => unfold maxLen; omega
  case c4 => omega
  case c5 => have := W6.out.Z; simp; omega
  intro gg cc w7 hown7 hgrow7 hat7 _
  have W7 := Wlk.stkW (k := cur.stk ++ [e]) (n := tn + 1) (W6.out.ext ((Ext.refl _).alloc (.cells #[.int .i64 e] 3))) LIE.out (by rw [HTN.out]; simp) (by rw [zl_app, iv_app]; exact hown7) hgrow7 (hat7.elim .inl (fun e => .inr (by rw [e]; simp)))
  have hb7 := heap_grown (heap_ext W6.out.S ((Ext.refl _).alloc (.cells #[.int .i64 e] 3))) hgrow7 (fun e => by have := (HT.out.lt bs e.symm).1; have := LIE.out.ls; omega)
  have s7 : w7.cell? ⟨bs, 4, none⟩ = some (.slice sa tn sc) := by rw [Lib.cell_of_heap hb7]; rfl
  have f7 := Lib.frozen_of_heap hb7 4
  obtain ⟨g0, g1, g2, -, -, -, -, -⟩ := W7.cells
  have l1 := W7.l.cellD (j := v) (by rw [zl_len]; show v < cur.low.length; rw [I1.ll]; exact hv)
  have l2 := W7.l.frozen v
  have n1 := W7.n.cellD (j := u) (by rw [zl_len]; show u < cur.num.length; rw [I1.ln]; exact huN)
  rw [zl_getD] at l1 n1
  have n1' : (w7.setCell ⟨bs, 4, none⟩ (.slice (some ⟨gg, 0, none⟩) (tn + 1) cc)).cell? ⟨bn, u, none⟩ = some (.int .i64 pu) := by rw [HPU.out]; exact n1
  obtain ⟨pl, hpl⟩ : ∃ pl, pl = lo cur v := ⟨_, rfl⟩
  have l1' : (w7.setCell ⟨bs, 4, none⟩ (.slice (some ⟨gg, 0, none⟩) (tn + 1) cc)).cell? ⟨bl, v, none⟩ = some (.int .i64 pl) := by rw [hpl]; exact l1
  have W8 := W7.setL LIE.out v (min pl pu)
  have HB8 : Hid (((w7.setCell ⟨bs, 4, none⟩ (.slice (some ⟨gg, 0, none⟩) (tn + 1) cc)).setCell ⟨bl, v, none⟩ (.int .i64 (min pl pu : Nat))).heap[ba]? = w4.heap[ba]?) := Lib.hid (by
    rw [Below.heap_setCell _ _ _ _ LIE.out.al, Below.heap_setCell _ _ _ _ (fun e => LIE.out.sa e.symm)]
    refine (hgrow7.block ba (by simp; have := bal6.out; omega) (fun e => ?_)).trans (((Ext.refl w6).alloc _).block ba bal6.out |>.trans B6.out)
    have := (HT.out.lt ba e.symm).1; have := LIE.out.la; omega)
  rw [cast_min] at W8 HB8
  have HW8 : Hid (Wlk w0 a M cap N A bs bi ba bn bl B ((w7.setCell ⟨bs, 4, none⟩ (.slice (some ⟨gg, 0, none⟩) (tn + 1) cc)).setCell ⟨bl, v, none⟩ (.int .i64 (min (pl : Int) (pu : Int)))) (.slice (some ⟨gg, 0, none⟩) (tn + 1) cc) fv1 fs1 { cur with stk := cur.stk ++ [e], low := cur.low.set v (min (lo cur v) pu) }) := Lib.hid (by
    rw [← hpl]; exact ⟨W8.S, W8.I, W8.n, W8.l, W8.T, W8.R, W8.ne, W8.A, W8.X, W8.Z⟩)
  clear W7 W8 hown7 hgrow7 hat7 hb7 l1 n1 u6 d0 d4 hpl
  go_wp2_with fail
  obtain ⟨w8, hw8⟩ : ∃ w8, w8 = w7.setCell ⟨bs, 4, none⟩ (.slice (some ⟨gg, 0, none⟩) (tn + 1) cc) := ⟨_, rfl⟩
  rw [← hw8] at g0 g1 g2 l1' l2 n1' HB8 HW8 ⊢
  clear hw8 s7 f7
  by_cases hmin : pl ≤ pu
  · have hm : min (pl : Int) (pu : Int) = (pl : Int) := by omega
    rw [hm] at HW8 HB8
    have hmi : (pl : Int) ≤ (pu : Int) := by omega
    clear W6 B6 bal6 HT x6 hlt2 hlt hz hnu hnv hcn1 hbl hsl hcn hcnt
    go_region
    all_goals go_wp2
    all_goals exact HQ.out _ _ _ _ _ _ _ _ _ _ _ _ _ _ _ _ _ _ _ _ _ _ _ _ _ _ _ _ _ _ _ _ _ _ _ _ _ _ _ _ _ _ _ _ _ _ _ _ _ _ _ _ _ _ _ _ _ _ _ _ _ _ _ _ _ _ _ _ _ _ _ _ _ _ _ _ _ _ _ _ _ _ _ _ _ _ _ _ _ _ _ _ _ _ _ _ _ _ _ _ _ _ _ _ _ _ _ _ _ _ _ _ _ _ _ _ _ _ _ _ _ _ _ _ _ _ _ _ _ _ _ _ _ _ _ _ _ _ _ _ _ _ _ _ _ _ _ _ _ _ _ _ _ _ _ _ _ _ _ _ (by go_num) (Lib.hid (by rw [hS.out]; exact HW8.out.ext ((Ext.refl _).drew))) (HB8)
  · have hm : min (pl : Int) (pu : Int) = (pu : Int) := by omega
    rw [hm] at HW8 HB8
    have hmi : ¬ (pl : Int) ≤ (pu : Int) := by omega
    clear W6 B6 bal6 HT x6 hlt2 hlt hz hnu hnv hcn1 hbl hsl hcn hcnt
    go_region
    all_goals go_wp2
    all_goals exact HQ.out _ _ _ _ _ _ _ _ _ _ _ _ _ _ _ _ _ _ _ _ _ _ _ _ _ _ _ _ _ _ _ _ _ _ _ _ _ _ _ _ _ _ _ _ _ _ _ _ _ _ _ _ _ _ _ _ _ _ _ _ _ _ _ _ _ _ _ _ _ _ _ _ _ _ _ _ _ _ _ _ _ _ _ _ _ _ _ _ _ _ _ _ _ _ _ _ _ _ _ _ _ _ _ _ _ _ _ _ _ _ _ _ _ _ _ _ _ _ _ _ _ _ _ _ _ _ _ _ _ _ _ _ _ _ _ _ _ _ _ _ _ _ _ _ _ _ _ _ _ _ _ _ _ _ _ _ _ _ _ _ (by go_num) (Lib.hid (by rw [hS.out]; exact HW8.out.ext ((Ext.refl _).drew))) (HB8)
end Go.Proofs.Ytaipcpdncmnelaa.Pt

/- One arm of visit's round. -/
namespace Go.Proofs.Ytaipcpdncmnelaa.Pt
open Go.RowKit Go.Sort Go.Lib Fx Tp

set_option maxHeartbeats 16000000 in
set_option maxRecDepth 1000000 in
theorem arm_down {w0 : World} {a : Option Addr} {M cap N bs bi ba bn bl B : Nat} {A : Arcs} {f : Nat} {s cur : St} {g D : List Nat} {v : Nat} {via : Int} {stp : St → Nat → St} {rn k g9 o9 ec e u sc tn pu pv : Nat} {wr w4 : World} {fv1 : Value} {fs1 : List Value} {sa : Option Addr} {KK : Act → World → Prop} {PP : Ending → World → Prop}
    {c3 c4 c5 c6 c7 c8 c9 c10 c11 c12 c13 c14 c15 c16 c17 c18 c19 c20 c21 c22 c23 c24 c25 c26 c27 c28 c29 c30 c31 c32 c33 c34 c35 c36 c37 c38 c39 c40 c41 c45 c46 c47 c48 c49 c50 c51 c52 c53 c54 c55 c56 c57 c58 c59 c60 c61 c62 c63 c64 c65 c66 c67 c68 c69 c70 c71 c72 c73 c74 c75 c76 c77 c78 c79 c80 c81 c82 c83 c84 c85 c86 c87 c88 c89 c90 c91 c92 c93 c94 c95 c96 c97 c98 c99 c100 c101 c102 c103 c104 c105 c106 c107 c108 c109 c110 c111 c112 c113 c114 c115 c116 c117 c118 c119 c120 c121 c122 c123 c124 c125 c126 c127 c128 c129 c130 c131 c132 c133 c134 c135 c136 c137 c138 c139 c140 c141 c142 c143 c144 c145 c146 c147 c148 c149 c150 c151 c152 c153 c154 c155 c156 c157 c158 c159 c160 c161 c162 c163 c164 c165 c166 c167 c168 c169 c170 c171 c172 c173 c174 c175 c176 c177 c178 c179 c180 c181 c182 c183 c184 c185 c186 c187 c188 c189 c190 c191 c192 c193 c194 c195 c196 : Value}
    (hN : N ≤ 64) (hA : M ≤ 256) (LIE : Hid (SLie w0.heap.size bs bi ba bn bl B)) (IH : Hid (VisC w0 a M cap N A bs bi ba bn bl B f)) (HOK : Hid (Ok N A)) (HP : Hid (Pre N A g v via s)) (HM : Hid (M = A.length)) (hv : v < N) (hv0 : -1 ≤ via) (hv1 : via ≤ 1000) (hcn : s.num.count 0 ≤ f + 1)
    (HSTP : Hid (stp = stepV (fun w e s => visT A f w (e : Int) s) A v via)) (hrl : rn ≤ M) (hkr : k < rn) (hBA : Hid (wr.heap[ba]? = w4.heap[ba]?)) (hbal : ba < wr.heap.size) (q0 : wr.cell? ⟨g9, o9 + k, none⟩ = some (.int .i64 (e : Int))) (o3 : u ≠ v) (huN : u < N) (heM : e < M)
    (OT' : Hid (Calls Try.prog 30 #[.pointer (some ⟨bi, 0, none⟩), .int .i64 (e : Int), .int .i64 (v : Int)] wr fun r w' => r = .returned (.int .i64 (u : Int)) ∧ Ext wr w'))
    (HEI : Hid (e ∈ incT A v)) (HU : Hid (u = oth A e v)) (HL : Hid (LoopI N A v via s D cur)) (I1 : Inv N A cur) (hcn1 : cur.cnt ≤ N) (hbl : cur.blk.length ≤ M) (hsl : tn ≤ M) (hW : Hid (Wlk w0 a M cap N A bs bi ba bn bl B wr (.slice sa tn sc) fv1 fs1 cur)) (HTN : Hid (tn = cur.stk.length))
    (HNV : Hid (∀ w5 : World, Ext wr w5 → w5.cell? ⟨bn, u, none⟩ = some (.int .i64 (pu : Int)) ∧ w5.cell? ⟨bn, v, none⟩ = some (.int .i64 (pv : Int)))) (HPU : Hid (pu = nm cur u)) (HPV : Hid (pv = nm cur v)) (hnu : pu ≤ cur.cnt) (hnv : pv ≤ cur.cnt)
    (hvia : ¬ (e : Int) = via) (hz : ¬ pu = 0) (hlt : ¬ pu < pv)
    (HQ : Hid (∀ (x7 x8 x9 x45 x46 x47 x48 x49 x50 x51 x52 x53 x54 x55 x56 x57 x58 x59 x60 x61 x62 x63 x64 x65 x66 x67 x68 x69 x70 x71 x72 x73 x74 x75 x76 x77 x78 x79 x80 x81 x82 x83 x84 x85 x86 x87 x88 x89 x90 x91 x92 x93 x94 x95 x96 x97 x98 x99 x100 x101 x102 x103 x104 x105 x106 x107 x108 x109 x110 x111 x112 x113 x114 x115 x116 x117 x118 x119 x120 x121 x122 x123 x124 x125 x126 x127 x128 x129 x130 x131 x132 x133 x134 x135 x136 x137 x138 x139 x140 x141 x142 x143 x144 x145 x146 x147 x148 x149 x150 x151 x152 x153 x154 x155 x156 x157 x158 x159 x160 x161 x162 x163 x164 x165 x166 x167 x168 x169 x170 x171 x172 x173 x174 x175 x176 x177 x178 x179 x180 x181 x182 x183 x184 x185 x186 x187 x188 x189 x190 x191 x192 x193 x194 x195 x196 : Value) (w' : World) (sv' fv' : Value) (fs' : List Value) (i' : Value), i' = .int .i64 ((k + 1 : Nat) : Int) → Hid (Wlk w0 a M cap N A bs bi ba bn bl B w' sv' fv' fs' (stp cur e)) → Hid (w'.heap[ba]? = w4.heap[ba]?) → KK ⟨(List.toArray (.pointer (some ⟨bs, 0, none⟩) :: .int .i64 (v : Int) :: .int .i64 via :: c3 :: c4 :: c5 :: c6 :: x7 :: x8 :: x9 :: c10 :: c11 :: c12 :: c13 :: c14 :: c15 :: c16 :: c17 :: c18 :: c19 :: c20 :: c21 :: c22 :: c23 :: c24 :: c25 :: c26 :: c27 :: c28 :: c29 :: c30 :: c31 :: c32 :: c33 :: c34 :: c35 :: c36 :: c37 :: c38 :: c39 :: c40 :: c41 :: .slice (some ⟨g9, o9, none⟩) rn ec :: .int .i64 (rn : Int) :: i' :: x45 :: x46 :: x47 :: x48 :: x49 :: x50 :: x51 :: x52 :: x53 :: x54 :: x55 :: x56 :: x57 :: x58 :: x59 :: x60 :: x61 :: x62 :: x63 :: x64 :: x65 :: x66 :: x67 :: x68 :: x69 :: x70 :: x71 :: x72 :: x73 :: x74 :: x75 :: x76 :: x77 :: x78 :: x79 :: x80 :: x81 :: x82 :: x83 :: x84 :: x85 :: x86 :: x87 :: x88 :: x89 :: x90 :: x91 :: x92 :: x93 :: x94 :: x95 :: x96 :: x97 :: x98 :: x99 :: x100 :: x101 :: x102 :: x103 :: x104 :: x105 :: x106 :: x107 :: x108 :: x109 :: x110 :: x111 :: x112 :: x113 :: x114 :: x115 :: x116 :: x117 :: x118 :: x119 :: x120 :: x121 :: x122 :: x123 :: x124 :: x125 :: x126 :: x127 :: x128 :: x129 :: x130 :: x131 :: x132 :: x133 :: x134 :: x135 :: x136 :: x137 :: x138 :: x139 :: x140 :: x141 :: x142 :: x143 :: x144 :: x145 :: x146 :: x147 :: x148 :: x149 :: x150 :: x151 :: x152 :: x153 :: x154 :: x155 :: x156 :: x157 :: x158 :: x159 :: x160 :: x161 :: x162 :: x163 :: x164 :: x165 :: x166 :: x167 :: x168 :: x169 :: x170 :: x171 :: x172 :: x173 :: x174 :: x175 :: x176 :: x177 :: x178 :: x179 :: x180 :: x181 :: x182 :: x183 :: x184 :: x185 :: x186 :: x187 :: x188 :: x189 :: x190 :: x191 :: x192 :: x193 :: x194 :: x195 :: x196 :: [])), []⟩ w')) :
    Code.wp Try.prog bodyV (Exit.then KK (Exit.inBlock 0 (bodyPost Try.prog Try.f35 PP))) ⟨(List.toArray (.pointer (some ⟨bs, 0, none⟩) :: .int .i64 (v : Int) :: .int .i64 via :: c3 :: c4 :: c5 :: c6 :: c7 :: c8 :: c9 :: c10 :: c11 :: c12 :: c13 :: c14 :: c15 :: c16 :: c17 :: c18 :: c19 :: c20 :: c21 :: c22 :: c23 :: c24 :: c25 :: c26 :: c27 :: c28 :: c29 :: c30 :: c31 :: c32 :: c33 :: c34 :: c35 :: c36 :: c37 :: c38 :: c39 :: c40 :: c41 :: .slice (some ⟨g9, o9, none⟩) rn ec :: .int .i64 (rn : Int) :: .int .i64 (k : Int) :: c45 :: c46 :: c47 :: c48 :: c49 :: c50 :: c51 :: c52 :: c53 :: c54 :: c55 :: c56 :: c57 :: c58 :: c59 :: c60 :: c61 :: c62 :: c63 :: c64 :: c65 :: c66 :: c67 :: c68 :: c69 :: c70 :: c71 :: c72 :: c73 :: c74 :: c75 :: c76 :: c77 :: c78 :: c79 :: c80 :: c81 :: c82 :: c83 :: c84 :: c85 :: c86 :: c87 :: c88 :: c89 :: c90 :: c91 :: c92 :: c93 :: c94 :: c95 :: c96 :: c97 :: c98 :: c99 :: c100 :: c101 :: c102 :: c103 :: c104 :: c105 :: c106 :: c107 :: c108 :: c109 :: c110 :: c111 :: c112 :: c113 :: c114 :: c115 :: c116 :: c117 :: c118 :: c119 :: c120 :: c121 :: c122 :: c123 :: c124 :: c125 :: c126 :: c127 :: c128 :: c129 :: c130 :: c131 :: c132 :: c133 :: c134 :: c135 :: c136 :: c137 :: c138 :: c139 :: c140 :: c141 :: c142 :: c143 :: c144 :: c145 :: c146 :: c147 :: c148 :: c149 :: c150 :: c151 :: c152 :: c153 :: c154 :: c155 :: c156 :: c157 :: c158 :: c159 :: c160 :: c161 :: c162 :: c163 :: c164 :: c165 :: c166 :: c167 :: c168 :: c169 :: c170 :: c171 :: c172 :: c173 :: c174 :: c175 :: c176 :: c177 :: c178 :: c179 :: c180 :: c181 :: c182 :: c183 :: c184 :: c185 :: c186 :: c187 :: c188 :: c189 :: c190 :: c191 :: c192 :: c193 :: c194 :: c195 :: c196 :: [])), []⟩ wr := by
  conv => arg 2; whnf
  have b0 : (0 : Int) ≤ (v : Int) := by omega
  have b1 : (v : Int) < (N : Int) := by omega
  have b2 : (0 : Int) ≤ (u : Int) := by omega
  have b3 : (u : Int) < (N : Int) := by omega
  have hcnt : s.cnt ≤ 64 := by have := HP.out.inv.cnt_le; omega
  obtain ⟨f1, f2⟩ := neq_facts hvia
  have HVIA := Lib.hid hvia
  obtain ⟨k0, -, -, -, -, -, -, -⟩ := hW.out.cells
  clear hvia
  have f0 := (neq_facts (x := ((pu : Nat) : Int)) (k := 0) (by omega)).1
  have hS : Hid (stp cur e = cur) := Lib.hid (by
    rw [HSTP.out]; unfold stepV; rw [if_neg HVIA.out, ← HU.out, ← HPU.out, ← HPV.out, if_neg hz, if_neg hlt])
  have g0 : decide (pu < pv) = false := decide_eq_false hlt
  have hlt2 : ¬ (pu : Int) < (pv : Int) := by omega
  go_wp2_with (go_at_call 30; refine OT'.out.mono ?_; rintro r w5 ⟨rfl, x5⟩; have W5 := Lib.hid (hW.out.ext x5); obtain ⟨c0, c1, -, -, -, -, -, -⟩ := W5.out.cells; obtain ⟨i1, i2⟩ := HNV.out w5 x5)
  go_quiet (fail)
  have x6 : Ext w5 (w5.drewN nq) := (Ext.refl _).drewN _
  go_wp2
  exact HQ.out _ _ _ _ _ _ _ _ _ _ _ _ _ _ _ _ _ _ _ _ _ _ _ _ _ _ _ _ _ _ _ _ _ _ _ _ _ _ _ _ _ _ _ _ _ _ _ _ _ _ _ _ _ _ _ _ _ _ _ _ _ _ _ _ _ _ _ _ _ _ _ _ _ _ _ _ _ _ _ _ _ _ _ _ _ _ _ _ _ _ _ _ _ _ _ _ _ _ _ _ _ _ _ _ _ _ _ _ _ _ _ _ _ _ _ _ _ _ _ _ _ _ _ _ _ _ _ _ _ _ _ _ _ _ _ _ _ _ _ _ _ _ _ _ _ _ _ _ _ _ _ _ _ _ _ _ _ _ _ _ (by go_num) (Lib.hid (by rw [hS.out]; exact W5.out.ext x6)) (Lib.hid (by rw [← hBA.out]; exact (x5.trans x6).block ba hbal))
end Go.Proofs.Ytaipcpdncmnelaa.Pt

/- The rest of the arm that visits: what was found is tied. -/
namespace Go.Proofs.Ytaipcpdncmnelaa.Pt
open Go.RowKit Go.Sort Go.Lib Fx Tp

set_option maxHeartbeats 16000000 in
set_option maxRecDepth 1000000 in
theorem tie_not {w0 : World} {a : Option Addr} {M cap N bs bi ba bn bl B : Nat} {A : Arcs} {s1 cur : St} {v u e tn pv pl pq : Nat} {w4 wc : World} {sv9 fv9 : Value} {fs9 : List Value} {Q : Exit → Act → World → Prop}
    {c2 c3 c4 c5 c6 c7 c10 c11 c12 c13 c14 c15 c16 c17 c18 c19 c20 c21 c22 c23 c24 c25 c26 c27 c28 c29 c30 c31 c32 c33 c34 c35 c36 c37 c38 c39 c40 c41 c42 c43 c44 c45 c46 c47 c48 c49 c50 c51 c52 c53 c54 c55 c56 c57 c58 c59 c60 c61 c62 c63 c64 c65 c66 c67 c68 c69 c70 c71 c72 c73 c74 c75 c76 c77 c78 c79 c80 c81 c82 c83 c84 c85 c86 c87 c88 c89 c90 c91 c92 c93 c94 c95 c96 c97 c98 c99 c100 c101 c102 c103 c104 c105 c106 c107 c108 c109 c110 c111 c112 c113 c114 c115 c116 c117 c118 c119 c120 c121 c122 c123 c124 c125 c126 c127 c128 c129 c130 c131 c132 c133 c134 c135 c136 c137 c138 c139 c140 c141 c142 c143 c144 c145 c146 c147 c148 c149 c150 c151 c152 c153 c154 c155 c156 c157 c158 c159 c160 c161 c162 c163 c164 c165 c166 c167 c168 c169 c170 c171 c172 c173 c174 c175 c176 c177 c178 c179 c180 c181 c182 c183 c184 c185 c186 c187 c188 c189 c190 c191 c192 c193 c194 c195 c196 : Value}
    (hN : N ≤ 64) (hA : M ≤ 256) (LIE : Hid (SLie w0.heap.size bs bi ba bn bl B)) (HM : Hid (M = A.length)) (hv : v < N) (huN : u < N) (HTN : Hid (tn = cur.stk.length)) (HI : Hid (Inv N A s1)) (HSEG : Hid (∃ sg, s1.stk = cur.stk ++ (e :: sg)))
    (W11 : Hid (Wlk w0 a M cap N A bs bi ba bn bl B wc sv9 fv9 fs9 { s1 with low := s1.low.set v (min pl pq) })) (B11 : Hid (wc.heap[ba]? = w4.heap[ba]?)) (hbl11 : Hid (ba < wc.heap.size)) (n5 : wc.cell? ⟨bn, v, none⟩ = some (.int .i64 (pv : Int))) (n6 : wc.cell? ⟨bl, u, none⟩ = some (.int .i64 (pq : Int)))
    (HPL : Hid (pl = lo s1 v)) (HPQ : Hid (pq = lo s1 u)) (HP0 : Hid (nm s1 v = pv))
    (hp : ¬ pv ≤ pq)
    (HQ : Hid (∀ (x108 x109 x110 x111 x112 x113 x114 x115 x116 x117 x118 x119 x120 x121 x122 x123 x124 x125 x126 x127 x128 x129 x130 x131 x132 x133 x134 x135 x136 x137 x138 x139 x140 x141 x142 x143 x144 x145 x146 x147 x148 : Value) (w' : World) (sv' fv' : Value) (fs' : List Value), Hid (Wlk w0 a M cap N A bs bi ba bn bl B w' sv' fv' fs' (tie v u tn s1)) → Hid (w'.heap[ba]? = w4.heap[ba]?) → Q .normal ⟨(List.toArray (.pointer (some ⟨bs, 0, none⟩) :: .int .i64 (v : Int) :: c2 :: c3 :: c4 :: c5 :: c6 :: c7 :: .int .i64 (u : Int) :: .int .i64 (tn : Int) :: c10 :: c11 :: c12 :: c13 :: c14 :: c15 :: c16 :: c17 :: c18 :: c19 :: c20 :: c21 :: c22 :: c23 :: c24 :: c25 :: c26 :: c27 :: c28 :: c29 :: c30 :: c31 :: c32 :: c33 :: c34 :: c35 :: c36 :: c37 :: c38 :: c39 :: c40 :: c41 :: c42 :: c43 :: c44 :: c45 :: c46 :: c47 :: c48 :: c49 :: c50 :: c51 :: c52 :: c53 :: c54 :: c55 :: c56 :: c57 :: c58 :: c59 :: c60 :: c61 :: c62 :: c63 :: c64 :: c65 :: c66 :: c67 :: c68 :: c69 :: c70 :: c71 :: c72 :: c73 :: c74 :: c75 :: c76 :: c77 :: c78 :: c79 :: c80 :: c81 :: c82 :: c83 :: c84 :: c85 :: c86 :: c87 :: c88 :: c89 :: c90 :: c91 :: c92 :: c93 :: c94 :: c95 :: c96 :: c97 :: c98 :: c99 :: c100 :: c101 :: c102 :: c103 :: c104 :: c105 :: c106 :: c107 :: x108 :: x109 :: x110 :: x111 :: x112 :: x113 :: x114 :: x115 :: x116 :: x117 :: x118 :: x119 :: x120 :: x121 :: x122 :: x123 :: x124 :: x125 :: x126 :: x127 :: x128 :: x129 :: x130 :: x131 :: x132 :: x133 :: x134 :: x135 :: x136 :: x137 :: x138 :: x139 :: x140 :: x141 :: x142 :: x143 :: x144 :: x145 :: x146 :: x147 :: x148 :: c149 :: c150 :: c151 :: c152 :: c153 :: c154 :: c155 :: c156 :: c157 :: c158 :: c159 :: c160 :: c161 :: c162 :: c163 :: c164 :: c165 :: c166 :: c167 :: c168 :: c169 :: c170 :: c171 :: c172 :: c173 :: c174 :: c175 :: c176 :: c177 :: c178 :: c179 :: c180 :: c181 :: c182 :: c183 :: c184 :: c185 :: c186 :: c187 :: c188 :: c189 :: c190 :: c191 :: c192 :: c193 :: c194 :: c195 :: c196 :: [])), []⟩ w')) :
    Code.wp Try.prog restB Q ⟨(List.toArray (.pointer (some ⟨bs, 0, none⟩) :: .int .i64 (v : Int) :: c2 :: c3 :: c4 :: c5 :: c6 :: c7 :: .int .i64 (u : Int) :: .int .i64 (tn : Int) :: c10 :: c11 :: c12 :: c13 :: c14 :: c15 :: c16 :: c17 :: c18 :: c19 :: c20 :: c21 :: c22 :: c23 :: c24 :: c25 :: c26 :: c27 :: c28 :: c29 :: c30 :: c31 :: c32 :: c33 :: c34 :: c35 :: c36 :: c37 :: c38 :: c39 :: c40 :: c41 :: c42 :: c43 :: c44 :: c45 :: c46 :: c47 :: c48 :: c49 :: c50 :: c51 :: c52 :: c53 :: c54 :: c55 :: c56 :: c57 :: c58 :: c59 :: c60 :: c61 :: c62 :: c63 :: c64 :: c65 :: c66 :: c67 :: c68 :: c69 :: c70 :: c71 :: c72 :: c73 :: c74 :: c75 :: c76 :: c77 :: c78 :: c79 :: c80 :: c81 :: c82 :: c83 :: c84 :: c85 :: c86 :: c87 :: c88 :: c89 :: c90 :: c91 :: c92 :: c93 :: c94 :: c95 :: c96 :: c97 :: c98 :: c99 :: c100 :: c101 :: c102 :: c103 :: c104 :: c105 :: c106 :: c107 :: c108 :: c109 :: c110 :: c111 :: c112 :: c113 :: c114 :: c115 :: c116 :: c117 :: c118 :: c119 :: c120 :: c121 :: c122 :: c123 :: c124 :: c125 :: c126 :: c127 :: c128 :: c129 :: c130 :: c131 :: c132 :: c133 :: c134 :: c135 :: c136 :: c137 :: c138 :: c139 :: c140 :: c141 :: c142 :: c143 :: c144 :: c145 :: c146 :: c147 :: c148 :: c149 :: c150 :: c151 :: c152 :: c153 :: c154 :: c155 :: c156 :: c157 :: c158 :: c159 :: c160 :: c161 :: c162 :: c163 :: c164 :: c165 :: c166 :: c167 :: c168 :: c169 :: c170 :: c171 :: c172 :: c173 :: c174 :: c175 :: c176 :: c177 :: c178 :: c179 :: c180 :: c181 :: c182 :: c183 :: c184 :: c185 :: c186 :: c187 :: c188 :: c189 :: c190 :: c191 :: c192 :: c193 :: c194 :: c195 :: c196 :: [])), []⟩ wc := by
  conv => arg 2; whnf
  obtain ⟨j0, hj, hjz0, hjz1, hjz2⟩ := info_parts info_row
  have b0 : (0 : Int) ≤ (v : Int) := by omega
  have b1 : (v : Int) < (N : Int) := by omega
  have b2 : (0 : Int) ≤ (u : Int) := by omega
  have b3 : (u : Int) < (N : Int) := by omega
  obtain ⟨a0, a1, a2, -, a4, a5, -, -⟩ := W11.out.cells
  obtain ⟨sg, hsg⟩ := HSEG.out
  obtain ⟨pn, hpn⟩ : ∃ pn, pn = sg.length + 1 := ⟨_, rfl⟩
  have hlen : s1.stk.length = tn + pn := by rw [hsg, List.length_append, List.length_cons, HTN.out, hpn]
  have hdrop : s1.stk.drop tn = e :: sg := by rw [hsg, HTN.out]; exact List.drop_left
  have hT9 := W11.out.T
  rw [show ({ s1 with low := s1.low.set v (min pl pq) } : St).stk = s1.stk from rfl] at hT9
  obtain ⟨g8, c8, hsv9, hg8⟩ := own_form hT9 (by omega)
  rw [hlen] at hsv9 hT9
  subst hsv9
  have hcap := sl_cap hT9
  have hbk := HI.out.blk_le
  have hsl1 := HI.out.stk_le
  rw [hlen] at hsl1
  rw [← HM.out] at hbk hsl1
  obtain ⟨bk, hbkn⟩ : ∃ bk, bk = s1.blk.length := ⟨_, rfl⟩
  rw [← hbkn] at hbk
  have HSG := Lib.hid hsg; have HPN := Lib.hid hpn; have HDR := Lib.hid hdrop; have HT9 := Lib.hid hT9; have HLEN := Lib.hid hlen; have HBK := Lib.hid hbkn
  obtain ⟨hc1, hc2⟩ := hcap
  have hc3 : c8 ≤ 9223372036854775807 := by unfold maxLen at hc2; omega
  have hpn0 : 0 < pn := by omega
  clear hsg hpn hdrop hT9 hlen hc2 hbkn
  go_wp2_with fail
  have g3 : decide (pv ≤ pq) = false := decide_eq_false hp
  have hp2 : ¬ (pv : Int) ≤ (pq : Int) := by omega
  have hS2 : Hid (tie v u tn s1 = { s1 with low := s1.low.set v (min pl pq) }) := Lib.hid (by
    unfold tie; rw [if_neg (by rw [HP0.out, ← HPQ.out]; exact hp), HPL.out, HPQ.out])
  go_quiet (fail)
  have x12 : Ext wc (wc.drewN nq) := (Ext.refl _).drewN _
  go_wp2
  exact HQ.out _ _ _ _ _ _ _ _ _ _ _ _ _ _ _ _ _ _ _ _ _ _ _ _ _ _ _ _ _ _ _ _ _ _ _ _ _ _ _ _ _ _ _ _ _ (Lib.hid (by rw [hS2.out]; exact W11.out.ext x12)) (Lib.hid ((x12.block ba hbl11.out).trans B11.out))
end Go.Proofs.Ytaipcpdncmnelaa.Pt
