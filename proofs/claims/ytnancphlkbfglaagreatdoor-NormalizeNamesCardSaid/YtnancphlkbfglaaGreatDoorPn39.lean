/- Packed texts: NorClsR, NorLawN -/
import Derived.Test.YtnancphlkbfglaaGreatDoorPn38
import Derived.Test.YtnancphlkbfglaaGreatDoorPn36
set_option linter.unusedVariables false
set_option linter.unusedSimpArgs false
/- The document's Clusters. -/
namespace Go.Proofs.YtnancphlkbfglaaGreatDoor.Nm
open Go.RowKit Go.Sort Go.Lib Go.Shelf Fx Lx Tr At

/-- The clusters' names of one statement. -/
def clus1 (p : Stm × Nat) : List ByteArray := clusG [p]
theorem clusG_cons (p : Stm × Nat) (F : List (Stm × Nat)) : clusG (p :: F) = clus1 p ++ clusG F := by
  unfold clus1 clusG
  rw [List.filter_cons, List.filter_cons]
  split <;> simp
theorem clus1_5 {p : Stm × Nat} (h : p.1.kind = 5) : clus1 p = [p.1.name] := by unfold clus1 clusG; rw [List.filter_cons, if_pos (by simpa using h)]; rfl
theorem clus1_n {p : Stm × Nat} (h : p.1.kind ≠ 5) : clus1 p = [] := by unfold clus1 clusG; rw [List.filter_cons, if_neg (by simpa using h)]; rfl
set_option maxHeartbeats 8000000 in
set_option maxRecDepth 100000 in
theorem clus_any (nm : ByteArray) (dir : Bool) (b : Option Addr) (L : List Stm) (cap n : Nat) (w : World) (hn : n ≤ w.heap.size) (h : StmsAt n w b L) (hs : (flatL 0 L).length ≤ 1099511627776) (hbig : BigL L) (hnm : nm.size ≤ 9223372036854775807) (hfw : ∀ p ∈ flatL 0 L, p.1.refs.length ≤ 10 ∧ p.1.attrs.length ≤ 20) (hv : validE nm L = 0) :
    Calls Tryz.prog 16 #[.agg #[.string nm, .bool dir, .slice b L.length cap]] w fun e w' => (∃ a c, e = .returned (.slice a (clusG (flatL 0 L)).length c) ∧ StrIn w' a (clusG (flatL 0 L))) ∧ Ext w w' := by
  have hx0 : Ext w (w.alloc (.cells #[.string nm, .bool dir, .slice b L.length cap] 24)) := (Ext.refl _).alloc _
  have hx1 : Ext w ((w.alloc (.cells #[.string nm, .bool dir, .slice b L.length cap] 24)).alloc (.cells #[] 9)) := hx0.alloc _
  have hcl := tree_cells w nm dir b L.length cap
  have hpre := fun w1 (x : Ext w w1) => preR_cnt 1099511627776 L b cap 0 n w1 hs (Nat.le_refl _) (by decide) (StmsAt.below (Below.mono x hn) L h) (by have h := x.size; omega)
  have hval := fun w1 (x : Ext w w1) => validR_big nm dir b L cap n w1 (by have h := x.size; omega) (StmsAt.below (Below.mono x hn) L h) hs hbig hnm
  rw [hv] at hval
  have hl5 : (flatL 0 L).length ≤ 512 := by
    unfold validE at hv
    split at hv
    · exact absurd hv (by decide)
    split at hv
    · exact absurd hv (by decide)
    omega
  have ho0 : ((w.alloc (.cells #[.string nm, .bool dir, .slice b L.length cap] 24)).alloc (.cells #[] 9)).ownsRow w.heap.size 9 1 (.slice (some ⟨w.heap.size + 1, 0, none⟩) 0 0) 0 [] := by
    have := World.ownsRow_made (base := w.heap.size) (size := 1) (e := 9) (w.alloc (.cells #[.string nm, .bool dir, .slice b L.length cap] 24)) #[] 0 (by rw [World.size_alloc]; omega) (by unfold maxLen; omega) rfl
    rw [World.size_alloc] at this
    exact this
  generalize flatL 0 L = F at *
  generalize L.length = N at *
  obtain ⟨V, hV⟩ : ∃ V, V = clusG F := ⟨_, rfl⟩
  rw [← hV]
  have HF : Hid (V = [] ++ clusG (F.drop 0)) := Lib.hid (by rw [hV, List.drop_zero, List.nil_append])
  obtain ⟨i0, hi, hz0, hz1, hz2⟩ := info_parts Tr.info_str
  have HPRE := Lib.hid hpre; have HVAL := Lib.hid hval; have HCL := Lib.hid hcl; have HO := Lib.hid ho0; have HN := Lib.hid hn; have HFW := Lib.hid hfw; have HL5 := Lib.hid hl5
  obtain ⟨k0, k1, k2⟩ := hcl _ ((Ext.refl _).alloc (.cells #[] 9))
  clear hpre hval hcl ho0 h hs hn hnm hv hV hfw hbig hl5
  go_enter Tryz.func16, Tryz.ntmps16
  go_wp2_with (first | (go_at_call 31; refine (HVAL.out _ hx1).mono ?_; rintro e w3 ⟨rfl, x3⟩; obtain ⟨k0, k1, k2⟩ := HCL.out _ (((Ext.refl _).alloc (.cells #[] 9)).trans x3)) | (go_at_call 39; refine (HPRE.out _ (hx1.trans x3)).mono ?_; rintro e w4 ⟨⟨g, c, C, rfl, ho, hsx⟩, x4⟩))
  have hC : Hid (NamAt w n w3.heap.size C F g c [] (.slice (some ⟨w.heap.size + 1, 0, none⟩) 0 0) w4) := Lib.hid ⟨own_ext' (own_ext' HO.out x3) x4, ho, hsx, (hx1.trans x3).trans x4⟩
  obtain ⟨B2, hB2⟩ : ∃ B2, B2 = w3.heap.size := ⟨_, rfl⟩
  rw [← hB2] at hC
  clear ho hsx k0 k1 k2 x4 x3 HO HPRE HVAL HCL hx0 hx1 hB2
  go_loopw [3, 5] (fun ov i' wr => ∃ (k : Nat) (O : List ByteArray) (oa : Option Addr) (oc ON : Nat), k ≤ F.length ∧ i' = .int .i64 k ∧ ov = .slice oa ON oc ∧ Hid (ON = O.length) ∧ Hid (ON ≤ k) ∧ Hid (V = O ++ clusG (F.drop k)) ∧ Hid (NamAt w n B2 C F g c O (.slice oa ON oc) wr)) (fun _ i' _ => F.length - (RowKit.intOf i').toNat)
  case atStart => exact ⟨0, [], _, _, 0, by omega, rfl, rfl, Lib.hid rfl, Lib.hid (by omega), HF, hC⟩
  case round =>
    clear HF hC
    obtain ⟨k, O, oa, oc, ON, hk, rfl, rfl, HON, HLE, HB, hC⟩ := hrel
    by_cases hlt : k < F.length
    · obtain ⟨r, a, b', rc, ac, bc, -, c0, c1, -, -, -, -⟩ := six_cells hC.out.fl hC.out.sx k hlt
      have hst := HB.out
      rw [List.drop_eq_getElem_cons hlt, clusG_cons] at hst
      obtain ⟨p, hp⟩ : ∃ p, p = F[k] := ⟨_, rfl⟩
      rw [← hp] at hst c0 c1
      clear hp HB
      obtain ⟨⟨kind, sn, rs, al, body⟩, lev⟩ := p
      have hv1 : kind = 5 → V = (O ++ [sn]) ++ clusG (F.drop (k + 1)) := fun h => by rw [hst, clus1_5 (p := (Stm.mk kind sn rs al body, lev)) h, List.append_assoc]; rfl
      have hvn : kind ≠ 5 → V = O ++ clusG (F.drop (k + 1)) := fun h => by rw [hst, clus1_n (p := (Stm.mk kind sn rs al body, lev)) h, List.nil_append]
      simp only [Stm.kind, Stm.name] at c0 c1
      have hk5 := HL5.out
      have HV1 := Lib.hid hv1; have HVN := Lib.hid hvn
      have OW : Hid (wr.ownsRow w.heap.size 9 1 (.slice oa ON oc) ON (strC O)) := Lib.hid (by have h := hC.out.own; rw [← HON.out] at h; exact h)
      have hle := HLE.out
      have b0 : (0 : Int) ≤ (k : Int) := by omega
      have b1 : (k : Int) < (F.length : Int) := by omega
      clear hst hv1 hvn
      by_cases h5 : kind = 5
      · subst h5
        have HV := Lib.hid (HV1.out rfl)
        go_wp2_with (at_builtin; refine wpList_append_lies _ rfl _ _ 37 rfl w.heap.size 9 i0 _ 1 16 Tryz.underlying37 hi hz0 hz1 hz2 rfl (by decide) _ _ _ rfl (At.own_ext OW.out ((Ext.refl _).alloc _)) ⟨wr.heap.size, 0, none⟩ 1 1 [.string sn] rfl rfl ?c1 ?c2 (by decide) ?c3 ?c4 ?c5 _ rfl ?_)
        case c2 => first | rfl | (intro u hu; simp at hu; subst hu; rfl)
        case c3 => unfold maxLen; omega
        case c4 => omega
        case c5 => have := hC.out.x.size; simp; omega
        intro g7 c7 w7 hown1 hgrow _ _
        have HQ : Hid (NamAt w n B2 C F g c (O ++ [sn]) (.slice (some ⟨g7, 0, none⟩) (ON + 1) c7) w7) := Lib.hid (by have h := hC.out; rw [HON.out] at h hgrow hown1 ⊢; exact h.add HN.out ((Ext.refl wr).alloc _) hgrow hown1)
        have HONQ : Hid (ON + 1 = (O ++ [sn]).length) := Lib.hid (by rw [List.length_append, HON.out]; rfl)
        clear hown1 hgrow
        go_wp2_with fail
        go_roundw
        case rel => exact ⟨k + 1, O ++ [sn], _, _, ON + 1, by omega, by go_num, rfl, HONQ, Lib.hid (by omega), HV, HQ⟩
        case measure => simp [RowKit.intOf]; omega
      · have f1 : (kind == 5) = false := by rw [beq_eq_false_iff_ne]; exact h5
        have f1' : (kind != 5) = true := by rw [bne, f1]; rfl
        have HV := Lib.hid (HVN.out h5)
        go_wp2_with fail
        go_roundw
        case rel => exact ⟨k + 1, O, oa, oc, ON, by omega, by go_num, rfl, HON, Lib.hid (by omega), HV, hC⟩
        case measure => simp [RowKit.intOf]; omega
    · have hf : Hid (V = O) := Lib.hid (by rw [HB.out, List.drop_eq_nil_of_le (by omega)]; exact List.append_nil _)
      clear HB
      obtain ⟨oa', oc', hov, hsi⟩ := own_strs hC.out.own
      have hsi2 : StrIn wr oa O := by injection hov with e1 e2 e3; rw [e1]; exact hsi
      have hon := HON.out
      subst hon
      go_wp2_with fail
      go_returns
      rw [hf.out]
      exact ⟨⟨oa, ⟨oc, rfl⟩, hsi2⟩, hC.out.x⟩
end Go.Proofs.YtnancphlkbfglaaGreatDoor.Nm

/- NormalizeNames, walked. -/
namespace Go.Proofs.YtnancphlkbfglaaGreatDoor.Nm
open Go.RowKit Go.Sort Go.Lib Go.Shelf Fx Lx Tr At Pa

theorem nd_names {w : World} {g : Gr} {s : ByteArray} {d : Bool} {n e c : Option Addr} {l1 l2 l3 nc ec cc : Nat} (h : GrIn w (.agg #[.string s, .bool d, .slice n l1 nc, .slice e l2 ec, .slice c l3 cc]) g) :
    (∀ i (hi : i < (g.N.map Nd.name).length), ∃ g' o, n = some ⟨g', o, none⟩ ∧ w.cell? ⟨g', o + i * 6, none⟩ = some (.string (g.N.map Nd.name)[i])) ∧ (∀ i (hi : i < (g.C.map Prod.fst).length), ∃ g' o, c = some ⟨g', o, none⟩ ∧ w.cell? ⟨g', o + i * 2, none⟩ = some (.string (g.C.map Prod.fst)[i])) := by
  obtain ⟨n', nc', e', ec', c', cc', hv, h1, -, h3⟩ := h
  injection hv with hv
  injection hv with hv
  injection hv with _ hv
  injection hv with _ hv
  injection hv with hn hv
  injection hv with _ hv
  injection hv with hc _
  injection hn with hn _ _
  injection hc with hc _ _
  subst hn; subst hc
  refine ⟨fun i hi => ?_, fun i hi => ?_⟩
  · obtain ⟨g', o, p, c'', ha, k0, -⟩ := h1 i (by simpa using hi)
    exact ⟨g', o, ha, by rw [List.getElem_map]; exact k0⟩
  · obtain ⟨g', o, ha, k0, -⟩ := h3 i (by simpa using hi)
    exact ⟨g', o, ha, by rw [List.getElem_map]; exact k0⟩
theorem gr0_sm : GrSm gr0 := by
  unfold GrSm
  refine ⟨by decide, by decide, by decide, by decide, ?_, ?_, ?_⟩ <;> (intro x hx; cases hx)
theorem cells3t {w : World} {g : Nat} {T : TypeId} {c0 c1 c2 : Value} (h : w.heap[g]? = some (.cells #[c0, c1, c2] T (0, 0))) : w.cell? ⟨g, 0, none⟩ = some c0 ∧ w.cell? ⟨g, 1, none⟩ = some c1 ∧ w.cell? ⟨g, 2, none⟩ = some c2 := by
  refine ⟨?_, ?_, ?_⟩ <;> (rw [Lib.cell_of_heap h]; rfl)
/-- A row that holds the first names. -/
def RowN (B : Nat) (L : List ByteArray) (i : Nat) (v : Value) (w : World) : Prop := w.ownsRow B 9 1 v i (strC (L.take i))
theorem RowN.next {B i g7 c7 : Nat} {L : List ByteArray} {w7 : World} (hi : i < L.length) (ho : w7.ownsRow B 9 1 (.slice (some ⟨g7, 0, none⟩) (i + 1) c7) (i + 1) (strC (L.take i) ++ [.string L[i]])) : RowN B L (i + 1) (.slice (some ⟨g7, 0, none⟩) (i + 1) c7) w7 := by
  unfold RowN
  rw [List.take_succ_eq_append_getElem hi, strC_snoc]
  exact ho
theorem RowN.all {B : Nat} {L : List ByteArray} {oa : Option Addr} {oc N : Nat} {w : World} (hN : N = L.length) (h : RowN B L N (.slice oa N oc) w) : StrIn w oa L := by
  unfold RowN at h
  rw [hN, List.take_length] at h
  obtain ⟨a, c, e, hs⟩ := own_strs h
  injection e with e _ _
  rw [e]; exact hs
set_option maxHeartbeats 8000000 in
set_option maxRecDepth 100000 in
theorem nam_walk (nm : ByteArray) (dir : Bool) (b : Option Addr) (L : List Stm) (cap : Nat) (w : World) (h : StmsAt w.heap.size w b L) (hlen : L.length ≤ maxLen) (hbig : BigL L) (hnm : nm.size ≤ 9223372036854775807) (he : Env w) :
    Calls Tryz.prog 4 #[.agg #[.string nm, .bool dir, .slice b L.length cap]] w fun e w' => e = .returned (.bool true) ∧ Ext w w' := by
  have hfw := fun (w5 : World) (x : Ext w w5) => few_any (sizeL L) L b cap w.heap.size 0 w5 (Nat.le_refl _) hlen (by omega) x.size (StmsAt.below x L h)
  have hawk := fun (w5 : World) (x : Ext w w5) => awake_any w5 (he.ext x)
  have hbd := fun (hf : fewB 0 L = true) (w5 : World) (x : Ext w w5) => build_any nm dir b L cap w.heap.size w5 x.size (StmsAt.below x L h) hlen (few_bounds hf).1 hbig hnm (few_bounds hf).2 (he.ext x)
  have hns := fun (hf : fewB 0 L = true) (g : Gr) (hg : buildT nm dir L = .ok g) =>
    show g.name = nm ∧ g.dir = dir ∧ grE g = 0 ∧ (∀ (w5 : World), Ext w w5 → Calls Tryz.prog 15 #[.agg #[.string nm, .bool dir, .slice b L.length cap]] w5 fun e w' => (∃ a c, e = .returned (.slice a (g.N.map Nd.name).length c) ∧ StrIn w' a (g.N.map Nd.name)) ∧ Ext w5 w') ∧ (∀ (w5 : World), Ext w w5 → Calls Tryz.prog 16 #[.agg #[.string nm, .bool dir, .slice b L.length cap]] w5 fun e w' => (∃ a c, e = .returned (.slice a (g.C.map Prod.fst).length c) ∧ StrIn w' a (g.C.map Prod.fst)) ∧ Ext w5 w') by
      have hv := build_valid hg
      have hok := ok_valid hv (few_bounds hf).2
      obtain ⟨e1, e2, e3, e4, e5, -⟩ := build_names hok.2.2 hg
      have hc : (flatL 0 L).length ≤ 1099511627776 := by rw [cntL_flat]; exact (few_bounds hf).1
      rw [e1, e2]
      exact ⟨e3, e4, e5, fun w5 x => names_any nm dir b L cap w.heap.size w5 x.size (StmsAt.below x L h) hc hbig hnm (few_bounds hf).2 hv, fun w5 x => clus_any nm dir b L cap w.heap.size w5 x.size (StmsAt.below x L h) hc hbig hnm (few_bounds hf).2 hv⟩
  obtain ⟨F, hF⟩ : ∃ F, F = fewB 0 L := ⟨_, rfl⟩
  obtain ⟨R, hR⟩ : ∃ R, R = buildT nm dir L := ⟨_, rfl⟩
  rw [← hF] at hbd hns
  simp only [← hF] at hfw
  simp only [← hR] at hbd hns
  obtain ⟨N, hN⟩ : ∃ N, N = L.length := ⟨_, rfl⟩
  simp only [← hN] at hfw hbd hns
  rw [← hN]
  have HFW := Lib.hid hfw; have HAWK := Lib.hid hawk; have HBD := Lib.hid hbd; have HNS := Lib.hid hns
  have X0 : Hid (Ext w (w.alloc (.cells #[.string nm, .bool dir, .slice b N cap] 24))) := Lib.hid ((Ext.refl _).alloc _)
  clear hfw hawk hbd hns hF hR hN h hlen hbig hnm he
  cases F with
  | false =>
    go_enter Tryz.func4, Tryz.ntmps4
    go_wp2_with (first
      | (go_at_call 8; refine Calls.mono (by exact HFW.out _ X0.out) ?_; rintro e w1 ⟨rfl, x1⟩; have X1 := Lib.hid (X0.out.trans x1))
      | (go_at_call 9; refine Calls.mono (by with_reducible exact HAWK.out _ X1.out) ?_; rintro e w2 ⟨rfl, x2⟩))
    go_returns
    exact ⟨rfl, X1.out.trans x2⟩
  | true =>
    have HP := Lib.hid (HBD.out rfl)
    cases R with
    | error er =>
      clear HNS HBD
      have hse := fun (w5 : World) => same_true' gr0 gr0V gr0V w5 (gr0_in w5) (gr0_in w5) gr0_sm
      unfold gr0V at hse
      have HSE := Lib.hid hse
      clear hse
      go_enter Tryz.func4, Tryz.ntmps4
      go_wp2_with (first
        | (go_at_call 8; refine Calls.mono (by exact HFW.out _ X0.out) ?_; rintro e w1 ⟨rfl, x1⟩; have X1 := Lib.hid (X0.out.trans x1); have HB1 := Lib.hid (At.heap_ext (heap_alloc_new w _) x1); have t0 : w1.cell? ⟨w.heap.size, 0, none⟩ = some (.string nm) := (by rw [Lib.cell_of_heap HB1.out]; rfl); have t1 : w1.cell? ⟨w.heap.size, 1, none⟩ = some (.bool dir) := (by rw [Lib.cell_of_heap HB1.out]; rfl); have t2 : w1.cell? ⟨w.heap.size, 2, none⟩ = some (.slice b N cap) := (by rw [Lib.cell_of_heap HB1.out]; rfl))
        | (go_at_call 10; refine Calls.mono (by with_reducible exact HP.out _ X1.out) ?_; rintro e w2 ⟨⟨rfl, her⟩, x2⟩; obtain ⟨g1, g2⟩ := nfacts her; have X2 := Lib.hid (X1.out.trans x2); unfold gr0V)
        | (go_at_call 12; refine Calls.mono (by with_reducible exact HSE.out _) ?_; rintro e w3 ⟨rfl, x3⟩; have X3 := Lib.hid ((X2.out.alloc _).trans x3))
        | (go_at_call 9; refine Calls.mono (by with_reducible exact HAWK.out _ X3.out) ?_; rintro e w4 ⟨rfl, x4⟩))
      go_returns
      exact ⟨rfl, X3.out.trans x4⟩
    | ok g =>
      obtain ⟨e1, e2, e3, hnn, hcc⟩ := HNS.out rfl g rfl
      have HP1 := Lib.hid (fun (w5 : World) (x : Ext w w5) => (HP.out w5 x).mono (fun e w' h => And.intro (buildR_ok h.1) h.2))
      have hvg := fun (va : Value) (w5 : World) (hg : GrIn w5 va g) (hs : GrSm g) => validGR_any g va w5 hg hs
      rw [e3] at hvg
      rw [e1, e2] at HP1
      have hnr := fun (a b : Option Addr) (ca cb : Nat) (w5 : World) => same_rows (g.N.map Nd.name) a b ca cb w5
      have hcr := fun (a b : Option Addr) (ca cb : Nat) (w5 : World) => same_rows (g.C.map Prod.fst) a b ca cb w5
      have hndn := fun (w5 : World) (s : ByteArray) (d : Bool) (n e c : Option Addr) (l1 l2 l3 nc ec cc : Nat) => @nd_names w5 g s d n e c l1 l2 l3 nc ec cc
      have hl1 : g.N.length = (g.N.map Nd.name).length := by rw [List.length_map]
      have hl2 : g.C.length = (g.C.map Prod.fst).length := by rw [List.length_map]
      generalize g.N.map Nd.name = GN at hnn hnr hndn hl1
      generalize g.C.map Prod.fst = GC at hcc hcr hndn hl2
      have HS1 := Lib.hid (fun (hs : GrSm g) => (show GN.length ≤ 1000000 by rw [← hl1]; exact hs.2.1))
      have HS2 := Lib.hid (fun (hs : GrSm g) => (show GC.length ≤ 1000000 by rw [← hl2]; exact hs.2.2.2.1))
      simp only [hl1, hl2] at HP1
      obtain ⟨NL, hNL⟩ : ∃ n, n = GN.length := ⟨_, rfl⟩
      obtain ⟨NE, hNE⟩ : ∃ n, n = g.E.length := ⟨_, rfl⟩
      obtain ⟨NC, hNC⟩ : ∃ n, n = GC.length := ⟨_, rfl⟩
      simp only [← hNL, ← hNE, ← hNC] at HP1 hnn hcc hnr hcr HS1 HS2
      have HVG := Lib.hid hvg; have HNN := Lib.hid hnn; have HCC := Lib.hid hcc; have HNR := Lib.hid hnr; have HCR := Lib.hid hcr; have HNDN := Lib.hid hndn; have HNL := Lib.hid hNL; have HNC := Lib.hid hNC
      obtain ⟨i0, hi0, hz0, hz1, hz2⟩ := info_parts Tr.info_str
      clear hvg hnn hcc hnr hcr hndn hl1 hl2 hNL hNE hNC HNS HBD HP e1 e2 e3
      go_enter Tryz.func4, Tryz.ntmps4
      go_wp2_with (first
        | (go_at_call 8; refine Calls.mono (by exact HFW.out _ X0.out) ?_; rintro e w1 ⟨rfl, x1⟩; have X1 := Lib.hid (X0.out.trans x1); have HB1 := Lib.hid (At.heap_ext (heap_alloc_new w _) x1); have t0 : w1.cell? ⟨w.heap.size, 0, none⟩ = some (.string nm) := (by rw [Lib.cell_of_heap HB1.out]; rfl); have t1 : w1.cell? ⟨w.heap.size, 1, none⟩ = some (.bool dir) := (by rw [Lib.cell_of_heap HB1.out]; rfl); have t2 : w1.cell? ⟨w.heap.size, 2, none⟩ = some (.slice b N cap) := (by rw [Lib.cell_of_heap HB1.out]; rfl))
        | (go_at_call 10; refine Calls.mono (by with_reducible exact HP1.out _ X1.out) ?_; rintro e w2 ⟨⟨n1, nc1, e1, ec1, c1, cc1, rfl, hgi, hgs⟩, x2⟩; have X2 := Lib.hid (X1.out.trans x2); have HGI := Lib.hid hgi; have HGS := Lib.hid hgs; have HB2 := Lib.hid (At.heap_ext HB1.out x2); clear hgi hgs x2))
      obtain ⟨w3, hw3⟩ : ∃ w3, w3 = w2.alloc (.cells #[.string nm, .bool dir, .slice n1 NL nc1, .slice e1 NE ec1, .slice c1 NC cc1] 31) := ⟨_, rfl⟩
      have X3 : Hid (Ext w w3) := Lib.hid (by rw [hw3]; exact X2.out.alloc _)
      have G3 : Hid (w3.heap[w2.heap.size]? = some (.cells #[.string nm, .bool dir, .slice n1 NL nc1, .slice e1 NE ec1, .slice c1 NC cc1] 31 (0, 0))) := Lib.hid (by rw [hw3]; exact heap_alloc_new _ _)
      have GI3 : Hid (GrIn w3 (.agg #[.string nm, .bool dir, .slice n1 NL nc1, .slice e1 NE ec1, .slice c1 NC cc1]) g) := Lib.hid (by rw [hw3]; exact HGI.out.ext ((Ext.refl _).alloc _))
      have T3 : Hid (w3.heap[w.heap.size]? = some (.cells #[.string nm, .bool dir, .slice b N cap] 24 (0, 0))) := Lib.hid (by rw [hw3]; exact At.heap_ext HB2.out ((Ext.refl _).alloc _))
      rw [← hw3]
      obtain ⟨gb, hgb⟩ : ∃ gb, gb = w2.heap.size := ⟨_, rfl⟩
      rw [← hgb] at G3 ⊢
      have hnl := HS1.out HGS.out
      have hncl := HS2.out HGS.out
      obtain ⟨nn3, nc3⟩ := HNDN.out w3 nm dir n1 e1 c1 NL NE NC nc1 ec1 cc1 GI3.out
      have NN3 := Lib.hid nn3; have NC3 := Lib.hid nc3
      clear hw3 hgb t0 t1 t2 HGI HB2 HB1 nn3 nc3 HNDN HP1 HFW X0 X1 X2 HS1 HS2
      go_loopw [5, 7] (fun ov i' wr => ∃ (i : Nat) (oa : Option Addr) (oc : Nat), i ≤ NL ∧ i' = .int .i64 i ∧ ov = .slice oa i oc ∧ Hid (RowN w3.heap.size GN i (.slice oa i oc) wr) ∧ Hid (Ext w3 wr)) (fun _ i' _ => NL - (RowKit.intOf i').toNat)
      case atStart => exact ⟨0, none, 0, Nat.zero_le _, rfl, rfl, Lib.hid (World.ownsRow_nil _ _ _ _), Lib.hid (Ext.refl _)⟩
      case round =>
        obtain ⟨i, oa, oc, hi, rfl, rfl, HR, HX⟩ := hrel
        obtain ⟨m0, m1, m2, m3, m4⟩ := cells5g (At.heap_ext G3.out HX.out)
        by_cases hlt : i < NL
        · have hig : i < GN.length := by rw [← HNL.out]; exact hlt
          obtain ⟨g1, o1, rfl, d0'⟩ := NN3.out i hig
          have d0 := HX.out.cell d0'
          obtain ⟨s, hs⟩ : ∃ s, s = GN[i] := ⟨_, rfl⟩
          rw [← hs] at d0
          have b0 : (0 : Int) ≤ (i : Int) := by omega
          have b1 : (i : Int) < (NL : Int) := by omega
          have HS := Lib.hid hs
          have OWR := Lib.hid (show wr.ownsRow w3.heap.size 9 1 (.slice oa i oc) i (strC (GN.take i)) from HR.out)
          clear hs d0' m0 m1 m3
          go_wp2_with (at_builtin; refine wpList_append_lies _ rfl _ _ 37 rfl w3.heap.size 9 i0 _ 1 16 Tryz.underlying37 hi0 hz0 hz1 hz2 rfl (by decide) _ _ _ rfl (At.own_ext OWR.out ((Ext.refl _).alloc _)) ⟨wr.heap.size, 0, none⟩ 1 1 [.string s] rfl rfl (fun j u hj => cell_new6 wr [.string s] 9 j u hj) (by intro u hu; simp at hu; subst hu; rfl) (by decide) ?c3 ?c4 ?c5 _ rfl ?_)
          case c3 => unfold maxLen; omega
          case c4 => omega
          case c5 => have := HX.out.size; simp; omega
          intro g7 c7 w7 hown1 hgrow _ _
          have HX7 := Lib.hid (ext_grown (HX.out.alloc (.cells #[.string s] 9)) hgrow (fun k e => (OWR.out.lt k e).1))
          have HR7 : Hid (RowN w3.heap.size GN (i + 1) (.slice (some ⟨g7, 0, none⟩) (i + 1) c7) w7) := Lib.hid (RowN.next hig (by rw [← HS.out]; exact hown1))
          clear hown1 hgrow
          go_wp2_with fail
          go_roundw
          case rel => exact ⟨i + 1, some ⟨g7, 0, none⟩, c7, by omega, by go_num, rfl, HR7, HX7⟩
          case measure => simp [RowKit.intOf]; omega
        · obtain rfl : i = NL := by omega
          have b1 : ¬ (i : Int) < (i : Int) := by omega
          have HN1 := Lib.hid (RowN.all HNL.out HR.out)
          obtain ⟨w4, hw4⟩ : ∃ w4 : World, w4 = wr := ⟨_, rfl⟩
          subst hw4
          have HX4 := HX
          have G4 := Lib.hid (At.heap_ext G3.out HX.out)
          have NC4 := Lib.hid (fun j (hj : j < GC.length) => (NC3.out j hj).imp fun g' h => h.imp fun o h => And.intro h.1 (HX4.out.cell h.2))
          clear HR HX NC3 NN3 m3
          go_wp2_with fail
          clear m0 m1 m2 m4
          go_loopw [6, 8] (fun ov i' wr => ∃ (i : Nat) (oa : Option Addr) (oc : Nat), i ≤ NC ∧ i' = .int .i64 i ∧ ov = .slice oa i oc ∧ Hid (RowN w4.heap.size GC i (.slice oa i oc) wr) ∧ Hid (Ext w4 wr)) (fun _ i' _ => NC - (RowKit.intOf i').toNat)
          case atStart => exact ⟨0, none, 0, Nat.zero_le _, rfl, rfl, Lib.hid (World.ownsRow_nil _ _ _ _), Lib.hid (Ext.refl _)⟩
          case round =>
            obtain ⟨i, oa, oc, hi, rfl, rfl, HR, HX⟩ := hrel
            obtain ⟨m0, m1, m2, m3, m4⟩ := cells5g (At.heap_ext G4.out HX.out)
            by_cases hlt : i < NC
            · have hig : i < GC.length := by rw [← HNC.out]; exact hlt
              obtain ⟨g1, o1, rfl, d0'⟩ := NC4.out i hig
              have d0 := HX.out.cell d0'
              obtain ⟨s, hs⟩ : ∃ s, s = GC[i] := ⟨_, rfl⟩
              rw [← hs] at d0
              have b0 : (0 : Int) ≤ (i : Int) := by omega
              have b1 : (i : Int) < (NC : Int) := by omega
              have HS := Lib.hid hs
              have OWR := Lib.hid (show wr.ownsRow w4.heap.size 9 1 (.slice oa i oc) i (strC (GC.take i)) from HR.out)
              clear hs d0' m0 m1 m3
              go_wp2_with (at_builtin; refine wpList_append_lies _ rfl _ _ 37 rfl w4.heap.size 9 i0 _ 1 16 Tryz.underlying37 hi0 hz0 hz1 hz2 rfl (by decide) _ _ _ rfl (At.own_ext OWR.out ((Ext.refl _).alloc _)) ⟨wr.heap.size, 0, none⟩ 1 1 [.string s] rfl rfl (fun j u hj => cell_new6 wr [.string s] 9 j u hj) (by intro u hu; simp at hu; subst hu; rfl) (by decide) ?c3 ?c4 ?c5 _ rfl ?_)
              case c3 => unfold maxLen; omega
              case c4 => omega
              case c5 => have := HX.out.size; simp; omega
              intro g7 c7 w7 hown1 hgrow _ _
              have HX7 := Lib.hid (ext_grown (HX.out.alloc (.cells #[.string s] 9)) hgrow (fun k e => (OWR.out.lt k e).1))
              have HR7 : Hid (RowN w4.heap.size GC (i + 1) (.slice (some ⟨g7, 0, none⟩) (i + 1) c7) w7) := Lib.hid (RowN.next hig (by rw [← HS.out]; exact hown1))
              clear hown1 hgrow
              go_wp2_with fail
              go_roundw
              case rel => exact ⟨i + 1, some ⟨g7, 0, none⟩, c7, by omega, by go_num, rfl, HR7, HX7⟩
              case measure => simp [RowKit.intOf]; omega
            · obtain rfl : i = NC := by omega
              have b1 : ¬ (i : Int) < (i : Int) := by omega
              have HC1 := Lib.hid (RowN.all HNC.out HR.out)
              have XW := Lib.hid (HX4.out.trans HX.out)
              have T5 := Lib.hid (At.heap_ext T3.out XW.out)
              have G5 := Lib.hid (At.heap_ext G4.out HX.out)
              have HN5 := Lib.hid (HN1.out.ext HX.out)
              have XT := Lib.hid (X3.out.trans XW.out)
              have GI5 := Lib.hid (GI3.out.ext XW.out)
              clear HR HX
              go_wp2_with (first
                | (go_at_call 13; refine Calls.mono (by with_reducible exact HVG.out _ _ GI5.out HGS.out) ?_; rintro e w6 ⟨rfl, x6⟩; have X6 := Lib.hid x6; obtain ⟨t0, t1, t2⟩ := cells3t (At.heap_ext T5.out x6))
                | (go_at_call 15; refine Calls.mono (by with_reducible exact HNN.out _ (XT.out.trans X6.out)) ?_; rintro e w7 ⟨⟨a7, c7, rfl, hs7⟩, x7⟩; have X7 := Lib.hid (X6.out.trans x7))
                | (go_at_call 14; refine Calls.mono (by with_reducible exact HNR.out _ _ _ _ _ (HN5.out.ext X7.out) hs7 (Nat.le_trans hnl (by decide))) ?_; rintro e w8 ⟨rfl, x8⟩; have X8 := Lib.hid (X7.out.trans x8); obtain ⟨t0, t1, t2⟩ := cells3t (At.heap_ext T5.out X8.out))
                | (go_at_call 16; refine Calls.mono (by with_reducible exact HCC.out _ (XT.out.trans X8.out)) ?_; rintro e w9 ⟨⟨a9, c9, rfl, hs9⟩, x9⟩; have X9 := Lib.hid (X8.out.trans x9))
                | (go_at_call 14; refine Calls.mono (by with_reducible exact HCR.out _ _ _ _ _ (HC1.out.ext X9.out) hs9 (Nat.le_trans hncl (by decide))) ?_; rintro e w10 ⟨rfl, x10⟩; have X10 := Lib.hid (X9.out.trans x10); obtain ⟨t0, t1, t2⟩ := cells3t (At.heap_ext T5.out X10.out); obtain ⟨m0, m1, m2, m3, m4⟩ := cells5g (At.heap_ext G5.out X10.out))
                | (go_at_call 9; refine Calls.mono (by with_reducible exact HAWK.out _ (XT.out.trans X10.out)) ?_; rintro e w11 ⟨rfl, x11⟩))
              go_returns
              exact ⟨rfl, (XT.out.trans X10.out).trans x11⟩
theorem nam_card (v : Value) (w : World) (hv : TreeArg w v) (he : Env w) : Calls Tryz.prog 4 #[v] w fun e w' => e = .returned (.bool true) ∧ Ext w w' := by
  obtain ⟨nm, dir, b, L, cap, rfl, h1, h2, h3, h4⟩ := hv
  exact nam_walk nm dir b L cap w h1 h2 h3 (by unfold reachN at h4; omega) he
end Go.Proofs.YtnancphlkbfglaaGreatDoor.Nm
