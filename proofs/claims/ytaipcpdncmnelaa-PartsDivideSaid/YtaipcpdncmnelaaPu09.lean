/- Packed texts: PrtVis5 -/
import Derived.Test.YtaipcpdncmnelaaPu07
import Derived.Deep.RegionLaw
set_option linter.unusedVariables false
set_option linter.unusedSimpArgs false
/- The rest of the arm that visits: what was found is tied. -/
namespace Go.Proofs.Ytaipcpdncmnelaa.Pt
open Go.RowKit Go.Sort Go.Lib Fx Tp

set_option maxHeartbeats 16000000 in
set_option maxRecDepth 1000000 in
theorem tie_yes {w0 : World} {a : Option Addr} {M cap N bs bi ba bn bl B : Nat} {A : Arcs} {s1 cur : St} {v u e tn pv pl pq : Nat} {w4 wc : World} {sv9 fv9 : Value} {fs9 : List Value} {KK K2 : Act → World → Prop} {PP : Ending → World → Prop}
    {c2 c3 c4 c5 c6 c7 c10 c11 c12 c13 c14 c15 c16 c17 c18 c19 c20 c21 c22 c23 c24 c25 c26 c27 c28 c29 c30 c31 c32 c33 c34 c35 c36 c37 c38 c39 c40 c41 c42 c43 c44 c45 c46 c47 c48 c49 c50 c51 c52 c53 c54 c55 c56 c57 c58 c59 c60 c61 c62 c63 c64 c65 c66 c67 c68 c69 c70 c71 c72 c73 c74 c75 c76 c77 c78 c79 c80 c81 c82 c83 c84 c85 c86 c87 c88 c89 c90 c91 c92 c93 c94 c95 c96 c97 c98 c99 c100 c101 c102 c103 c104 c105 c106 c107 c108 c109 c110 c111 c112 c113 c114 c115 c116 c117 c118 c119 c120 c121 c122 c123 c124 c125 c126 c127 c128 c129 c130 c131 c132 c133 c134 c135 c136 c137 c138 c139 c140 c141 c142 c143 c144 c145 c146 c147 c148 c149 c150 c151 c152 c153 c154 c155 c156 c157 c158 c159 c160 c161 c162 c163 c164 c165 c166 c167 c168 c169 c170 c171 c172 c173 c174 c175 c176 c177 c178 c179 c180 c181 c182 c183 c184 c185 c186 c187 c188 c189 c190 c191 c192 c193 c194 c195 c196 : Value}
    (hN : N ≤ 64) (hA : M ≤ 256) (LIE : Hid (SLie w0.heap.size bs bi ba bn bl B)) (HM : Hid (M = A.length)) (hv : v < N) (huN : u < N) (HTN : Hid (tn = cur.stk.length)) (HI : Hid (Inv N A s1)) (HSEG : Hid (∃ sg, s1.stk = cur.stk ++ (e :: sg)))
    (W11 : Hid (Wlk w0 a M cap N A bs bi ba bn bl B wc sv9 fv9 fs9 { s1 with low := s1.low.set v (min pl pq) })) (B11 : Hid (wc.heap[ba]? = w4.heap[ba]?)) (hbl11 : Hid (ba < wc.heap.size)) (n5 : wc.cell? ⟨bn, v, none⟩ = some (.int .i64 (pv : Int))) (n6 : wc.cell? ⟨bl, u, none⟩ = some (.int .i64 (pq : Int)))
    (HPL : Hid (pl = lo s1 v)) (HPQ : Hid (pq = lo s1 u)) (HP0 : Hid (nm s1 v = pv))
    (hp : pv ≤ pq)
    (HQ : Hid (∀ (x108 x109 x110 x111 x112 x113 x114 x115 x116 x117 x118 x119 x120 x121 x122 x123 x124 x125 x126 x127 x128 x129 x130 x131 x132 x133 x134 x135 x136 x137 x138 x139 x140 x141 x142 x143 x144 x145 x146 x147 x148 : Value) (w' : World) (sv' fv' : Value) (fs' : List Value), Hid (Wlk w0 a M cap N A bs bi ba bn bl B w' sv' fv' fs' (tie v u tn s1)) → Hid (w'.heap[ba]? = w4.heap[ba]?) → K2 ⟨(List.toArray (.pointer (some ⟨bs, 0, none⟩) :: .int .i64 (v : Int) :: c2 :: c3 :: c4 :: c5 :: c6 :: c7 :: .int .i64 (u : Int) :: .int .i64 (tn : Int) :: c10 :: c11 :: c12 :: c13 :: c14 :: c15 :: c16 :: c17 :: c18 :: c19 :: c20 :: c21 :: c22 :: c23 :: c24 :: c25 :: c26 :: c27 :: c28 :: c29 :: c30 :: c31 :: c32 :: c33 :: c34 :: c35 :: c36 :: c37 :: c38 :: c39 :: c40 :: c41 :: c42 :: c43 :: c44 :: c45 :: c46 :: c47 :: c48 :: c49 :: c50 :: c51 :: c52 :: c53 :: c54 :: c55 :: c56 :: c57 :: c58 :: c59 :: c60 :: c61 :: c62 :: c63 :: c64 :: c65 :: c66 :: c67 :: c68 :: c69 :: c70 :: c71 :: c72 :: c73 :: c74 :: c75 :: c76 :: c77 :: c78 :: c79 :: c80 :: c81 :: c82 :: c83 :: c84 :: c85 :: c86 :: c87 :: c88 :: c89 :: c90 :: c91 :: c92 :: c93 :: c94 :: c95 :: c96 :: c97 :: c98 :: c99 :: c100 :: c101 :: c102 :: c103 :: c104 :: c105 :: c106 :: c107 :: x108 :: x109 :: x110 :: x111 :: x112 :: x113 :: x114 :: x115 :: x116 :: x117 :: x118 :: x119 :: x120 :: x121 :: x122 :: x123 :: x124 :: x125 :: x126 :: x127 :: x128 :: x129 :: x130 :: x131 :: x132 :: x133 :: x134 :: x135 :: x136 :: x137 :: x138 :: x139 :: x140 :: x141 :: x142 :: x143 :: x144 :: x145 :: x146 :: x147 :: x148 :: c149 :: c150 :: c151 :: c152 :: c153 :: c154 :: c155 :: c156 :: c157 :: c158 :: c159 :: c160 :: c161 :: c162 :: c163 :: c164 :: c165 :: c166 :: c167 :: c168 :: c169 :: c170 :: c171 :: c172 :: c173 :: c174 :: c175 :: c176 :: c177 :: c178 :: c179 :: c180 :: c181 :: c182 :: c183 :: c184 :: c185 :: c186 :: c187 :: c188 :: c189 :: c190 :: c191 :: c192 :: c193 :: c194 :: c195 :: c196 :: [])), []⟩ w')) :
    Code.wp Try.prog restB (Exit.inBlock 2 (Exit.inBlock 1 (Exit.then K2 (Exit.then KK (Exit.inBlock 0 (bodyPost Try.prog Try.f35 PP)))))) ⟨(List.toArray (.pointer (some ⟨bs, 0, none⟩) :: .int .i64 (v : Int) :: c2 :: c3 :: c4 :: c5 :: c6 :: c7 :: .int .i64 (u : Int) :: .int .i64 (tn : Int) :: c10 :: c11 :: c12 :: c13 :: c14 :: c15 :: c16 :: c17 :: c18 :: c19 :: c20 :: c21 :: c22 :: c23 :: c24 :: c25 :: c26 :: c27 :: c28 :: c29 :: c30 :: c31 :: c32 :: c33 :: c34 :: c35 :: c36 :: c37 :: c38 :: c39 :: c40 :: c41 :: c42 :: c43 :: c44 :: c45 :: c46 :: c47 :: c48 :: c49 :: c50 :: c51 :: c52 :: c53 :: c54 :: c55 :: c56 :: c57 :: c58 :: c59 :: c60 :: c61 :: c62 :: c63 :: c64 :: c65 :: c66 :: c67 :: c68 :: c69 :: c70 :: c71 :: c72 :: c73 :: c74 :: c75 :: c76 :: c77 :: c78 :: c79 :: c80 :: c81 :: c82 :: c83 :: c84 :: c85 :: c86 :: c87 :: c88 :: c89 :: c90 :: c91 :: c92 :: c93 :: c94 :: c95 :: c96 :: c97 :: c98 :: c99 :: c100 :: c101 :: c102 :: c103 :: c104 :: c105 :: c106 :: c107 :: c108 :: c109 :: c110 :: c111 :: c112 :: c113 :: c114 :: c115 :: c116 :: c117 :: c118 :: c119 :: c120 :: c121 :: c122 :: c123 :: c124 :: c125 :: c126 :: c127 :: c128 :: c129 :: c130 :: c131 :: c132 :: c133 :: c134 :: c135 :: c136 :: c137 :: c138 :: c139 :: c140 :: c141 :: c142 :: c143 :: c144 :: c145 :: c146 :: c147 :: c148 :: c149 :: c150 :: c151 :: c152 :: c153 :: c154 :: c155 :: c156 :: c157 :: c158 :: c159 :: c160 :: c161 :: c162 :: c163 :: c164 :: c165 :: c166 :: c167 :: c168 :: c169 :: c170 :: c171 :: c172 :: c173 :: c174 :: c175 :: c176 :: c177 :: c178 :: c179 :: c180 :: c181 :: c182 :: c183 :: c184 :: c185 :: c186 :: c187 :: c188 :: c189 :: c190 :: c191 :: c192 :: c193 :: c194 :: c195 :: c196 :: [])), []⟩ wc := by
  conv => arg 2; whnf
  obtain ⟨j0, hj, hjz0, hjz1, hjz2⟩ := info_parts info_row
  have b0 : (0 : Int) ≤ (v : Int) := by omega
  have b1 : (v : Int) < (N : Int) := by omega
  have b2 : (0 : Int) ≤ (u : Int) := by omega
  have b3 : (u : Int) < (N : Int) := by omega
  obtain ⟨a0, a1, a2, -, a4, a5, -, -⟩ := W11.out.cells
  obtain ⟨sg, hsg⟩ := HSEG.out
  obtain ⟨pn, hpn⟩ : ∃ pn, pn = sg.length + 1 := ⟨_, rfl⟩
  have hlen : s1.stk.length = tn + pn := by rw [hsg, List.length_append, List.length_cons, HTN.out, hpn]
  have hdrop : s1.stk.drop tn = e :: sg := by rw [hsg, HTN.out]; exact List.drop_left
  have hT9 := W11.out.T
  rw [show ({ s1 with low := s1.low.set v (min pl pq) } : St).stk = s1.stk from rfl] at hT9
  obtain ⟨g8, c8, hsv9, hg8⟩ := own_form hT9 (by omega)
  rw [hlen] at hsv9 hT9
  subst hsv9
  have hcap := sl_cap hT9
  have hbk := HI.out.blk_le
  have hsl1 := HI.out.stk_le
  rw [hlen] at hsl1
  rw [← HM.out] at hbk hsl1
  obtain ⟨bk, hbkn⟩ : ∃ bk, bk = s1.blk.length := ⟨_, rfl⟩
  rw [← hbkn] at hbk
  have HSG := Lib.hid hsg; have HPN := Lib.hid hpn; have HDR := Lib.hid hdrop; have HT9 := Lib.hid hT9; have HLEN := Lib.hid hlen; have HBK := Lib.hid hbkn
  obtain ⟨hc1, hc2⟩ := hcap
  have hc3 : c8 ≤ 9223372036854775807 := by unfold maxLen at hc2; omega
  have hpn0 : 0 < pn := by omega
  clear hsg hpn hdrop hT9 hlen hc2 hbkn
  go_wp2_with fail
  have g3 : decide (pv ≤ pq) = true := decide_eq_true hp
  have hp2 : (pv : Int) ≤ (pq : Int) := by omega
  have hS2 : Hid (tie v u tn s1 = { s1 with low := s1.low.set v (min pl pq), stk := s1.stk.take tn, blk := s1.blk ++ [sortN (e :: sg)] }) := Lib.hid (by
    unfold tie; rw [if_pos (by rw [HP0.out, ← HPQ.out]; exact hp), HDR.out, HPL.out, HPQ.out])
  go_quiet (fail)
  have x12 : Ext wc (wc.drewN nq) := (Ext.refl _).drewN _
  obtain ⟨w12, hw12⟩ : ∃ w12, w12 = wc.drewN nq := ⟨_, rfl⟩
  rw [← hw12] at x12 ⊢
  have W12 := Lib.hid (W11.out.ext x12)
  have B12 : Hid (w12.heap[ba]? = w4.heap[ba]?) := Lib.hid ((x12.block ba hbl11.out).trans B11.out)
  have hbl12 : Hid (ba < w12.heap.size) := Lib.hid (Nat.lt_of_lt_of_le hbl11.out x12.size)
  have s4 := x12.cell a4; have s5 := x12.cell a5
  have fz5 := W12.out.fz 5
  have hZ12 := W12.out.Z
  have T12 : Hid (IntIn w12 (some ⟨g8, tn, none⟩) (zl (e :: sg))) := Lib.hid (fun j hj => by
    rw [zl_len, List.length_cons, ← HPN.out] at hj
    obtain ⟨a', c', he', hin', -⟩ := own_ints (HT9.out) (by rw [zl_len, HLEN.out])
    have he2 : a' = some ⟨g8, 0, none⟩ := by injection he' with h1; exact h1.symm
    subst he2
    obtain ⟨q, o, hq, hc⟩ := hin' (tn + j) (by rw [zl_len, HLEN.out]; omega)
    cases hq
    refine ⟨g8, tn, rfl, ?_⟩
    have := x12.cell hc
    rw [Nat.zero_add] at this
    rw [this]
    have e1 : ∀ (L : List Nat) (i : Nat) (h : i < (zl L).length), (zl L)[i] = ((L.getD i 0 : Nat) : Int) := fun L i h => by rw [← zl_getD, List.getD_eq_getElem?_getD, List.getElem?_eq_getElem h]; rfl
    rw [e1, e1, HSG.out, List.getD_eq_getElem?_getD, List.getD_eq_getElem?_getD, HTN.out, List.getElem?_append_right (by omega), Nat.add_sub_cancel_left])
  have SRT : Hid (∀ w13, Ext (w12.alloc (.cells #[.slice (some ⟨g8, tn, none⟩) pn (c8 - tn)] 31)) w13 → Calls Try.prog 41 #[.func (.func 56) #[] #[.pointer (some ⟨w12.heap.size, 0, none⟩)]] w13 fun r w' => (∃ pg pc, r = .returned (.slice (some ⟨pg, 0, none⟩) pn pc) ∧ IntIn w' (some ⟨pg, 0, none⟩) (zl (sortN (e :: sg))) ∧ w13.heap.size ≤ pg ∧ pg < w'.heap.size) ∧ Ext w13 w') := Lib.hid (fun w13 x13 => by
    have x1 : Ext w12 w13 := ((Ext.refl w12).alloc _).trans x13
    have h1 := sorted_any (some ⟨g8, tn, none⟩) (e :: sg) (c8 - tn) w12.heap.size w13 (T12.out.ext x1) (by rw [List.length_cons, ← HPN.out]; omega) (by simp) (by have := x13.size; simp at this; omega) (by
      rw [List.length_cons, ← HPN.out]
      exact x13.cell (by rw [Lib.cell_of_heap (heap_alloc_new w12 _)]; rfl))
    rw [List.length_cons, ← HPN.out] at h1
    exact h1)
  have hnc : ¬ c8 = tn := by omega
  have q4 : ∀ ob, (w12.alloc ob).cell? ⟨bs, 4, none⟩ = some (.slice (some ⟨g8, 0, none⟩) (tn + pn) c8) := fun ob => ((Ext.refl _).alloc ob).cell s4
  have q5 : ∀ ob, (w12.alloc ob).cell? ⟨bs, 5, none⟩ = some fv9 := fun ob => ((Ext.refl _).alloc ob).cell s5
  have b5 : (0 : Int) ≤ (tn : Int) := by omega
  have b6 : (tn : Int) ≤ ((tn + pn : Nat) : Int) := by omega
  have b7 : (tn : Int) ≤ (tn : Int) + (pn : Int) := by omega
  clear a0 a1 a2 a4 a5 n5 n6 hw12 g3
  go_wp2_with fail
  go_cut [9] from 123 to 139 (fun s9 wx => s9 = .int .i64 tn ∧ ∃ (fv' : Value) (fs' : List Value), Hid (Wlk w0 a M cap N A bs bi ba bn bl B wx (.slice (some ⟨g8, 0, none⟩) (tn + pn) c8) fv' fs' { s1 with low := s1.low.set v (min pl pq), blk := s1.blk ++ [sortN (e :: sg)] }) ∧ Hid (wx.heap[ba]? = w4.heap[ba]?))
  case first =>
    go_region_law (first
      | (refine step_append_lies _ (by rfl) _ _ 28 (by rfl) B 31 j0 _ 1 24 Try.underlying28 hj hjz0 hjz1 hjz2 rfl (by decide) _ _ _ (by rfl) (own_ext' (W13.out.R.own) ((Ext.refl w13).alloc _)) ⟨w13.heap.size, 0, none⟩ 1 1 [.slice (some ⟨pg, 0, none⟩) pn pc] (by rfl) (by rfl) (World.news_of_block (cs := #[.slice (some ⟨pg, 0, none⟩) pn pc]) (t := 31) (fr := (0, 0)) (heap_alloc_new w13 _)) (by simp [Value.oneCell']) (by omega) (by show s1.blk.length + 1 ≤ maxLen; unfold maxLen; have := HBK.out; omega) (by show (s1.blk.length + 1) * 24 ≤ _; have := HBK.out; omega) (Nat.le_trans hZ12 (Nat.le_trans x13'.size (by simp))) _ rfl ?_
         intro gg cp w15 hown1 hgrow hat2 hlt2
         have WE := Lib.hid (W13.out.ext ((Ext.refl w13).alloc (.cells #[.slice (some ⟨pg, 0, none⟩) pn pc] 31)))
         have hpn' : pn = (sortN (e :: sg)).length := by rw [(sortN_perm _).length_eq, List.length_cons, HPN.out]
         have hnb : some bs ≠ fv9.ownBlock := fun z => by have := (W13.out.R.own.lt bs z.symm).1; have := LIE.out.ls; omega
         have hna : some ba ≠ fv9.ownBlock := fun z => by have := (W13.out.R.own.lt ba z.symm).1; have := LIE.out.la; omega
         have hb15 := heap_grown WE.out.S hgrow hnb
         have c15 : w15.cell? ⟨bs, 5, none⟩ = some fv9 := by rw [Lib.cell_of_heap hb15]; rfl
         have f15 := Lib.frozen_of_heap hb15 5
         have FIN : Hid (Wlk w0 a M cap N A bs bi ba bn bl B (w15.setCell ⟨bs, 5, none⟩ (.slice (some ⟨gg, 0, none⟩) (s1.blk.length + 1) cp)) (.slice (some ⟨g8, 0, none⟩) (tn + pn) c8) (.slice (some ⟨gg, 0, none⟩) (s1.blk.length + 1) cp) (fs9 ++ [.slice (some ⟨pg, 0, none⟩) (sortN (e :: sg)).length pc]) { s1 with low := s1.low.set v (min pl pq), blk := s1.blk ++ [sortN (e :: sg)] }) := Lib.hid (by
           refine Wlk.blkW (pc := pc) WE.out LIE.out (hpin.ext ((Ext.refl w13).alloc _)) ⟨?_, ?_, ?_⟩ ?_ ?_ ?_ rfl hgrow (hat2.elim .inl (fun z => .inr (by rw [z]; exact Nat.le_refl _)))
           · have := hpg'.out; omega
           · simp; omega
           · intro z; have := (W12.out.R.own.lt pg z).2; have := hpg'.out; omega
           · intro z; have := (W12.out.T.lt pg z).2; have := hpg'.out; omega
           · intro v' hv' bb cc hcc
             obtain ⟨bb2, cc2, k1, k2, k3⟩ := W12.out.A v' hv'
             have k4 := (x13'.trans ((Ext.refl w13).alloc (.cells #[.slice (some ⟨pg, 0, none⟩) pn pc] 31))).cell k1
             rw [hcc] at k4
             injection k4 with k4
             injection k4 with k5 k6 k7
             intro z
             have := (k3 bb k5.symm).2.1
             have := hpg'.out
             omega
           · rw [← hpn']; exact hown1)
         have FBA : Hid ((w15.setCell ⟨bs, 5, none⟩ (.slice (some ⟨gg, 0, none⟩) (s1.blk.length + 1) cp)).heap[ba]? = w4.heap[ba]?) := Lib.hid (by
           rw [Below.heap_setCell _ _ _ _ (fun e => LIE.out.sa e.symm)]
           exact (hgrow.block ba (Nat.lt_of_lt_of_le hbl12.out (x13'.trans ((Ext.refl w13).alloc _)).size) hna).trans (((x13'.trans ((Ext.refl w13).alloc _)).block ba hbl12.out).trans B12.out))
         clear WE hpn' hnb hna hb15 hown1 hgrow hat2 hlt2)
      | (go_simp; go_at_call 42; refine (values_any _ _ _ _).mono ?_; rintro r w13 ⟨rfl, rfl⟩)
      | (go_simp; go_at_call 41; refine (SRT.out _ (by first | exact (Ext.refl _).drew | exact Ext.refl _)).mono ?_; rintro r w13 ⟨⟨pg, pc, rfl, hpin, hpg, hpl2⟩, x13⟩; have x13' : Ext w12 w13 := Ext.trans (by first | exact ((Ext.refl _).alloc _).drew | exact (Ext.refl _).alloc _) x13; have hpg' : Hid (w12.heap.size ≤ pg) := Lib.hid (Nat.le_trans (Below.size (show Ext w12 _ from by first | exact ((Ext.refl w12).alloc _).drew | exact (Ext.refl w12).alloc _)) hpg); have W13 := Lib.hid (W12.out.ext x13'); have t4 := x13'.cell s4; have t5 := x13'.cell s5; have u5 : ∀ ob, (w13.alloc ob).cell? ⟨bs, 5, none⟩ = some fv9 := fun ob => ((Ext.refl _).alloc ob).cell t5))
    all_goals go_wp2
    all_goals go_meet
    all_goals first
      | exact ⟨rfl, _, _, FIN, FBA⟩
      | exact ⟨rfl, _, _, Lib.hid (FIN.out.ext ((Ext.refl _).drew)), FBA⟩
  case rest =>
    obtain ⟨rfl, fv', fs', W16, B16⟩ := hcut
    obtain ⟨-, -, -, -, p4, -, -, -⟩ := W16.out.cells
    have fz4 := W16.out.fz 4
    have HF : Hid (Wlk w0 a M cap N A bs bi ba bn bl B (wc.setCell ⟨bs, 4, none⟩ (.slice (some ⟨g8, 0, none⟩) tn c8)) (.slice (some ⟨g8, 0, none⟩) tn c8) fv' fs' { s1 with low := s1.low.set v (min pl pq), stk := s1.stk.take tn, blk := s1.blk ++ [sortN (e :: sg)] }) := Lib.hid (by
      have h1 := W16.out.T
      have h2 := own_trunc (k := tn) h1 (by show tn ≤ s1.stk.length; rw [HLEN.out]; omega)
      have h3 : (iv (zl s1.stk)).take tn = iv (zl (s1.stk.take tn)) := by unfold iv zl; rw [← List.map_take, ← List.map_take]
      have h4 := Wlk.stkW (k := s1.stk.take tn) (n := tn) (w2 := wc) W16.out LIE.out (by rw [List.length_take, HLEN.out]; omega) (by rw [← h3]; exact h2) (grown_refl _ _) (.inl rfl)
      exact ⟨h4.S, h4.I, h4.n, h4.l, h4.T, h4.R, h4.ne, h4.A, h4.X, h4.Z⟩)
    have BF : Hid ((wc.setCell ⟨bs, 4, none⟩ (.slice (some ⟨g8, 0, none⟩) tn c8)).heap[ba]? = w4.heap[ba]?) := Lib.hid (by rw [Below.heap_setCell _ _ _ _ (fun e => LIE.out.sa e.symm)]; exact B16.out)
    have hle4 : tn ≤ tn + pn := by omega
    clear s4 s5 fz5 q4 q5 hnc
    go_wp2
    exact HQ.out _ _ _ _ _ _ _ _ _ _ _ _ _ _ _ _ _ _ _ _ _ _ _ _ _ _ _ _ _ _ _ _ _ _ _ _ _ _ _ _ _ _ _ _ _ (Lib.hid (by rw [hS2.out]; exact HF.out)) (BF)
end Go.Proofs.Ytaipcpdncmnelaa.Pt
