/- Packed texts: PrtVist -/
import Derived.Test.YtaipcpdncmnelaaPu07
import Derived.Test.YtaipcpdncmnelaaPu08
import Derived.Test.YtaipcpdncmnelaaPu10
set_option linter.unusedVariables false
set_option linter.unusedSimpArgs false
/- What visit leaves: visT's state behind it. -/
namespace Go.Proofs.Ytaipcpdncmnelaa.Pt
open Go.RowKit Go.Sort Go.Lib Fx Tp

set_option maxHeartbeats 16000000 in
set_option maxRecDepth 100000 in
theorem visit_step (w0 : World) (a : Option Addr) (cap N bs bi ba bn bl B : Nat) (A : Arcs) (lie : SLie w0.heap.size bs bi ba bn bl B) (hN : N ≤ 64) (hA : A.length ≤ 256) (ok : Ok N A) (harc : ArcIn w0 a (zarc A)) (f : Nat)
    (ih : VisC w0 a A.length cap N A bs bi ba bn bl B f) : VisC w0 a A.length cap N A bs bi ba bn bl B (f + 1) := by
  intro w sv fv fs s g v via hcn hw hp hv0 hv1
  obtain ⟨i0, hi0, hz0, hz1, hz2⟩ := info_parts info_int
  obtain ⟨j0, hj, hjz0, hjz1, hjz2⟩ := info_parts info_row
  obtain ⟨M, hM⟩ : ∃ M, M = A.length := ⟨_, rfl⟩
  rw [← hM] at ih hw hA
  have LIE := Lib.hid lie; have IH := Lib.hid ih; have HOK := Lib.hid ok; have HP := Lib.hid hp; have HM := Lib.hid hM; have HARC := Lib.hid harc
  have hv := hp.hv
  have hcnt : s.cnt ≤ 64 := by have := hp.inv.cnt_le; omega
  have W1 := hw.setC lie (s.cnt + 1)
  have W2 := W1.setN lie v (s.cnt + 1)
  have W3 := W2.setL lie v (s.cnt + 1)
  have W3' : Hid (Wlk w0 a M cap N A bs bi ba bn bl B (((w.setCell ⟨bs, 3, none⟩ (.int .i64 (s.cnt + 1 : Nat))).setCell ⟨bn, v, none⟩ (.int .i64 (s.cnt + 1 : Nat))).setCell ⟨bl, v, none⟩ (.int .i64 (s.cnt + 1 : Nat))) sv fv fs (entr v s)) := Lib.hid W3
  obtain ⟨c0, c1, c2, c3, -, -, -, -⟩ := hw.cells
  obtain ⟨d0, d1, d2, d3, -, -, -, -⟩ := W1.cells
  have fz := hw.fz 3
  have n1 := W1.n.cellD (j := v) (by rw [zl_len]; show v < s.num.length; rw [hp.inv.ln]; exact hv)
  have n2 := W1.n.frozen v
  have l0 := W1.l.cellD (j := v) (by rw [zl_len]; show v < s.low.length; rw [hp.inv.ll]; exact hv)
  have l1 := W2.l.cellD (j := v) (by rw [zl_len]; show v < s.low.length; rw [hp.inv.ll]; exact hv)
  have l2 := W2.l.frozen v
  have l3 := W1.l.frozen v
  have e1 : ((s.cnt + 1 : Nat) : Int) = (s.cnt : Int) + 1 := by omega
  have ws := wrap_in (x := (s.cnt : Int) + 1) (by omega) (by omega)
  rw [e1] at W3' d0 d1 d2 d3 n1 n2 l0 l1 l2 l3
  have HBA : Hid ((((w.setCell ⟨bs, 3, none⟩ (.int .i64 ((s.cnt : Int) + 1))).setCell ⟨bn, v, none⟩ (.int .i64 ((s.cnt : Int) + 1))).setCell ⟨bl, v, none⟩ (.int .i64 ((s.cnt : Int) + 1))).heap[ba]? = w.heap[ba]?) := Lib.hid (by
    rw [Below.heap_setCell _ _ _ _ lie.al, Below.heap_setCell _ _ _ _ lie.an, Below.heap_setCell _ _ _ _ (fun e => lie.sa e.symm)])
  clear lie ih ok hw W1 W2 W3 hp hM harc e1
  go_enter Try.func35, Try.ntmps35
  go_wp2_with fail
  go_region
  have X3 := W3'.out.ext ((Ext.refl _).drew)
  obtain ⟨wv, hwv⟩ : ∃ wv, wv = (((w.setCell ⟨bs, 3, none⟩ (.int .i64 ((s.cnt : Int) + 1))).setCell ⟨bn, v, none⟩ (.int .i64 ((s.cnt : Int) + 1))).setCell ⟨bl, v, none⟩ (.int .i64 ((s.cnt : Int) + 1))).drew := ⟨_, rfl⟩
  have HBV : Hid (wv.heap[ba]? = w.heap[ba]?) := Lib.hid (by rw [hwv]; exact HBA.out)
  rw [← hwv] at X3 ⊢
  clear c0 c1 c2 c3 d0 d1 d2 d3 fz n1 n2 l0 l1 l2 l3 ws hwv HBA W3'
  obtain ⟨eb, ec, h1, h2, h3⟩ := X3.A v hv
  obtain ⟨x0, x1, x2, x3, -, -, y0, y1⟩ := X3.cells
  have E := edges_any bi ba N v _ eb ec wv y1 h1 hv
  have hst := loop_law HOK.out f HP.out hcn
  have hrl : (incT A v).length ≤ A.length := incK_len A A.length v
  obtain ⟨stp, hstp⟩ : ∃ stp, stp = stepV (fun w e s => visT A f w (e : Int) s) A v via := ⟨_, rfl⟩
  obtain ⟨s0, hs0⟩ : ∃ s0, s0 = entr v s := ⟨_, rfl⟩
  rw [← hstp, ← hs0] at hst
  rw [← hs0] at X3
  have hfin : visT A (f + 1) v via s = (incT A v).foldl stp s0 := by rw [hstp, hs0]; rfl
  have HSTP := Lib.hid hstp; have HS0 := Lib.hid hs0; have HFIN := Lib.hid hfin
  clear hstp hs0 hfin
  obtain ⟨R, hR⟩ : ∃ R, R = incT A v := ⟨_, rfl⟩
  obtain ⟨rn, hrn⟩ : ∃ rn, rn = R.length := ⟨_, rfl⟩
  have HR : Hid (∀ e, e ∈ R → e ∈ incT A v) := Lib.hid (fun e he => by rw [← hR]; exact he)
  have HRR := Lib.hid hR
  rw [← hR] at h1 h2 E hst hrl
  rw [← hrn] at h1 E hrl
  rw [← HM.out] at hrl
  have HRN := Lib.hid hrn; have HST := Lib.hid hst; have E' := Lib.hid E; have X3' := Lib.hid X3
  have HC1 : Hid (∀ w2 : World, w2.heap[ba]? = wv.heap[ba]? → w2.cell? ⟨ba, v, none⟩ = some (.slice eb rn ec)) := Lib.hid (fun w2 e => by rw [World.cell?_of_block (w := wv) e]; exact h1)
  clear h2 h3 E hst hrn hR X3 y0 y1 x1 x2 x3
  go_wp2_with (go_at_call 29; refine E'.out.mono ?_; rintro e w4 ⟨rfl, rfl⟩)
  clear x0 h1 E'
  go_loopw [44] (fun i' wr => ∃ (k : Nat) (sv1 fv1 : Value) (fs1 : List Value), k ≤ rn ∧ i' = .int .i64 k ∧ Hid (Wlk w0 a M cap N A bs bi ba bn bl B wr sv1 fv1 fs1 ((R.take k).foldl stp s0)) ∧ Hid (wr.heap[ba]? = w4.heap[ba]?)) (fun i' _ => rn - (RowKit.intOf i').toNat)
  case atStart => exact ⟨0, sv, fv, fs, Nat.zero_le _, rfl, X3', Lib.hid rfl⟩
  case round =>
    obtain ⟨k, sv1, fv1, fs1, hk, rfl, hW, hBA⟩ := hrel
    have L := HST.out k (by rw [← HRN.out]; exact hk)
    obtain ⟨cur, hcur⟩ : ∃ cur, cur = (R.take k).foldl stp s0 := ⟨_, rfl⟩
    rw [← hcur] at L hW
    obtain ⟨c0, c1, c2, c3, c4, c5, y0, y1⟩ := hW.out.cells
    by_cases hkr : k < rn
    · have hkR : k < R.length := by rw [← HRN.out]; exact hkr
      have hstep := foldl_take stp s0 R k hkR
      rw [← hcur] at hstep
      clear hcur
      obtain ⟨eb2, ec2, r1, r2, r3⟩ := hW.out.A v hv
      have r4 := HC1.out wr hBA.out
      have hbal : ba < wr.heap.size := World.block_lt_of_cell? _ _ r4
      rw [r4] at r1
      injection r1 with r1
      injection r1 with e1 e2 e3
      subst e1
      rw [← HRR.out] at r2
      obtain ⟨g9, o9, hra, q0⟩ := r2 k (by rw [zl_len]; exact hkR)
      subst hra
      rw [zl_at _ _ hkR] at q0
      have hei := HR.out _ (List.getElem_mem hkR)
      have heD : R[k] ∉ R.take k := fun hm => by
        have hnd := incT_nodup A v
        rw [← HRR.out, ← List.take_append_drop k R] at hnd
        refine (List.nodup_append.1 hnd).2.2 _ hm _ ?_ rfl
        rw [List.drop_eq_getElem_cons hkR]; exact List.mem_cons_self ..
      obtain ⟨e, he⟩ : ∃ e, e = R[k] := ⟨_, rfl⟩
      rw [← he] at q0 hei hstep heD
      obtain ⟨o1, o2, o3⟩ := oth_inc hei
      have hm := mem_incT.1 hei
      have hak := arcN_ok HOK.out hm.1
      have OT := other_any bi a A M cap e v (.int .i64 0) wr HM.out (HARC.out.ext hW.out.X) y0 hei (by omega)
      obtain ⟨u, hu⟩ : ∃ u, u = oth A e v := ⟨_, rfl⟩
      rw [← hu] at OT o1 o2 o3
      have huN : u < N := inc_lt HOK.out o1
      have heM : e < M := by rw [HM.out]; exact hm.1
      have OT' := Lib.hid OT
      have HSTEP := Lib.hid hstep; have HEI := Lib.hid hei; have HU := Lib.hid hu; have HED := Lib.hid heD
      have HL := Lib.hid L
      have I1 := L.inv
      have hcn1 := I1.cnt_le
      have hsl := I1.stk_le
      have hbl := I1.blk_le
      rw [← HM.out] at hsl hbl
      have hnu := I1.le u
      have hnv := I1.le v
      have b0 : (0 : Int) ≤ (v : Int) := by omega
      have b1 : (v : Int) < (N : Int) := by omega
      have b2 : (0 : Int) ≤ (u : Int) := by omega
      have b3 : (u : Int) < (N : Int) := by omega
      clear OT hstep hei hm hak hu he r2 r3 r4 e2 e3 L heD o1 o2
      have i1 := hW.out.n.cellD (j := u) (by rw [zl_len, I1.ln]; exact huN)
      have i2 := hW.out.n.cellD (j := v) (by rw [zl_len, I1.ln]; exact hv)
      rw [zl_getD] at i1 i2
      rw [show cur.num.getD u 0 = nm cur u from rfl] at i1
      rw [show cur.num.getD v 0 = nm cur v from rfl] at i2
      obtain ⟨sa, sc, hsv, -, -⟩ := own_ints hW.out.T (by rw [zl_len])
      rw [zl_len] at hsv
      subst hsv
      obtain ⟨tn, htn⟩ : ∃ tn, tn = cur.stk.length := ⟨_, rfl⟩
      rw [← htn] at hW c4 hsl
      have HTN := Lib.hid htn
      have NVU := fun (w5 : World) (x5 : Ext wr w5) => (show w5.cell? ⟨bn, u, none⟩ = some (.int .i64 (nm cur u)) ∧ w5.cell? ⟨bn, v, none⟩ = some (.int .i64 (nm cur v)) from ⟨x5.cell i1, x5.cell i2⟩)
      have HNV := Lib.hid NVU
      clear htn i1 i2 c0 c1 c2 c3 c4 c5 y0 y1 NVU
      obtain ⟨pu, hpu⟩ : ∃ pu, pu = nm cur u := ⟨_, rfl⟩
      obtain ⟨pv, hpv⟩ : ∃ pv, pv = nm cur v := ⟨_, rfl⟩
      have HPU := Lib.hid hpu; have HPV := Lib.hid hpv
      rw [← hpu, ← hpv] at HNV
      rw [← hpu] at hnu
      rw [← hpv] at hnv
      clear hpu hpv b0 b1 b2 b3
      by_cases hvia : (e : Int) = via
      · refine arm_via hN hA LIE IH HOK HP HM hv hv0 hv1 hcn HSTP hrl hkr hBA hbal q0 o3 huN heM OT' HEI HU HL I1 hcn1 hbl hsl hW HTN HNV HPU HPV hnu hnv hvia (Lib.hid ?_)
        intro x7 x8 x9 x45 x46 x47 x48 x49 x50 x51 x52 x53 x54 x55 x56 x57 x58 x59 x60 x61 x62 x63 x64 x65 x66 x67 x68 x69 x70 x71 x72 x73 x74 x75 x76 x77 x78 x79 x80 x81 x82 x83 x84 x85 x86 x87 x88 x89 x90 x91 x92 x93 x94 x95 x96 x97 x98 x99 x100 x101 x102 x103 x104 x105 x106 x107 x108 x109 x110 x111 x112 x113 x114 x115 x116 x117 x118 x119 x120 x121 x122 x123 x124 x125 x126 x127 x128 x129 x130 x131 x132 x133 x134 x135 x136 x137 x138 x139 x140 x141 x142 x143 x144 x145 x146 x147 x148 x149 x150 x151 x152 x153 x154 x155 x156 x157 x158 x159 x160 x161 x162 x163 x164 x165 x166 x167 x168 x169 x170 x171 x172 x173 x174 x175 x176 x177 x178 x179 x180 x181 x182 x183 x184 x185 x186 x187 x188 x189 x190 x191 x192 x193 x194 x195 x196 w' sv' fv' fs' i' hi' hw' hb'
        subst hi'
        go_roundw
        case rel => exact ⟨k + 1, _, fv', fs', by omega, rfl, by rw [HSTEP.out]; exact hw', hb'⟩
        case measure => simp [RowKit.intOf]; omega
      · by_cases hz : pu = 0
        · refine arm_new hN hA LIE IH HOK HP HM hv hv0 hv1 hcn HSTP hrl hkr hBA hbal q0 o3 huN heM OT' HEI HU HL I1 hcn1 hbl hsl hW HTN HNV HPU HPV hnu hnv hvia hz (Lib.hid ?_)
          intro x7 x8 x9 x45 x46 x47 x48 x49 x50 x51 x52 x53 x54 x55 x56 x57 x58 x59 x60 x61 x62 x63 x64 x65 x66 x67 x68 x69 x70 x71 x72 x73 x74 x75 x76 x77 x78 x79 x80 x81 x82 x83 x84 x85 x86 x87 x88 x89 x90 x91 x92 x93 x94 x95 x96 x97 x98 x99 x100 x101 x102 x103 x104 x105 x106 x107 x108 x109 x110 x111 x112 x113 x114 x115 x116 x117 x118 x119 x120 x121 x122 x123 x124 x125 x126 x127 x128 x129 x130 x131 x132 x133 x134 x135 x136 x137 x138 x139 x140 x141 x142 x143 x144 x145 x146 x147 x148 x149 x150 x151 x152 x153 x154 x155 x156 x157 x158 x159 x160 x161 x162 x163 x164 x165 x166 x167 x168 x169 x170 x171 x172 x173 x174 x175 x176 x177 x178 x179 x180 x181 x182 x183 x184 x185 x186 x187 x188 x189 x190 x191 x192 x193 x194 x195 x196 w' sv' fv' fs' i' hi' hw' hb'
          subst hi'
          go_roundw
          case rel => exact ⟨k + 1, _, fv', fs', by omega, rfl, by rw [HSTEP.out]; exact hw', hb'⟩
          case measure => simp [RowKit.intOf]; omega
        · by_cases hlt : pu < pv
          · refine arm_back hN hA LIE IH HOK HP HM hv hv0 hv1 hcn HSTP hrl hkr hBA hbal q0 o3 huN heM OT' HEI HU HL I1 hcn1 hbl hsl hW HTN HNV HPU HPV hnu hnv hvia hz hlt (Lib.hid ?_)
            intro x7 x8 x9 x45 x46 x47 x48 x49 x50 x51 x52 x53 x54 x55 x56 x57 x58 x59 x60 x61 x62 x63 x64 x65 x66 x67 x68 x69 x70 x71 x72 x73 x74 x75 x76 x77 x78 x79 x80 x81 x82 x83 x84 x85 x86 x87 x88 x89 x90 x91 x92 x93 x94 x95 x96 x97 x98 x99 x100 x101 x102 x103 x104 x105 x106 x107 x108 x109 x110 x111 x112 x113 x114 x115 x116 x117 x118 x119 x120 x121 x122 x123 x124 x125 x126 x127 x128 x129 x130 x131 x132 x133 x134 x135 x136 x137 x138 x139 x140 x141 x142 x143 x144 x145 x146 x147 x148 x149 x150 x151 x152 x153 x154 x155 x156 x157 x158 x159 x160 x161 x162 x163 x164 x165 x166 x167 x168 x169 x170 x171 x172 x173 x174 x175 x176 x177 x178 x179 x180 x181 x182 x183 x184 x185 x186 x187 x188 x189 x190 x191 x192 x193 x194 x195 x196 w' sv' fv' fs' i' hi' hw' hb'
            subst hi'
            go_roundw
            case rel => exact ⟨k + 1, _, fv', fs', by omega, rfl, by rw [HSTEP.out]; exact hw', hb'⟩
            case measure => simp [RowKit.intOf]; omega
          · refine arm_down hN hA LIE IH HOK HP HM hv hv0 hv1 hcn HSTP hrl hkr hBA hbal q0 o3 huN heM OT' HEI HU HL I1 hcn1 hbl hsl hW HTN HNV HPU HPV hnu hnv hvia hz hlt (Lib.hid ?_)
            intro x7 x8 x9 x45 x46 x47 x48 x49 x50 x51 x52 x53 x54 x55 x56 x57 x58 x59 x60 x61 x62 x63 x64 x65 x66 x67 x68 x69 x70 x71 x72 x73 x74 x75 x76 x77 x78 x79 x80 x81 x82 x83 x84 x85 x86 x87 x88 x89 x90 x91 x92 x93 x94 x95 x96 x97 x98 x99 x100 x101 x102 x103 x104 x105 x106 x107 x108 x109 x110 x111 x112 x113 x114 x115 x116 x117 x118 x119 x120 x121 x122 x123 x124 x125 x126 x127 x128 x129 x130 x131 x132 x133 x134 x135 x136 x137 x138 x139 x140 x141 x142 x143 x144 x145 x146 x147 x148 x149 x150 x151 x152 x153 x154 x155 x156 x157 x158 x159 x160 x161 x162 x163 x164 x165 x166 x167 x168 x169 x170 x171 x172 x173 x174 x175 x176 x177 x178 x179 x180 x181 x182 x183 x184 x185 x186 x187 x188 x189 x190 x191 x192 x193 x194 x195 x196 w' sv' fv' fs' i' hi' hw' hb'
            subst hi'
            go_roundw
            case rel => exact ⟨k + 1, _, fv', fs', by omega, rfl, by rw [HSTEP.out]; exact hw', hb'⟩
            case measure => simp [RowKit.intOf]; omega
    · have hkn : R.take k = R := List.take_of_length_le (by rw [← HRN.out]; omega)
      have hres : cur = visT A (f + 1) v via s := by rw [hcur, hkn, HFIN.out, HRR.out]
      rw [hres] at hW
      clear hres hkn hcur
      go_wp2
      go_end0
      exact ⟨rfl, hBA.out.trans HBV.out, _, _, _, by rw [← HM.out]; exact hW.out⟩
end Go.Proofs.Ytaipcpdncmnelaa.Pt
