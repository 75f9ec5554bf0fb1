/- Packed texts: NorCnt, NorGrL, NorHas, NorNmR -/
import Derived.Test.YtnancphlkbfglaaGreatDoorPn37
import Derived.Test.YtnancphlkbfglaaGreatDoorPn31
import Derived.Test.YtnancphlkbfglaaGreatDoorPn34
import Derived.Test.YtnancphlkbfglaaGreatDoorPn15
import Derived.BigQuiet
import Derived.Test.YtnancphlkbfglaaGreatDoorPn30
set_option linter.unusedVariables false
set_option linter.unusedSimpArgs false
/- How many statements a tree of few statements has; no program in sight. -/
namespace Go.Proofs.YtnancphlkbfglaaGreatDoor.Nm
open Go.Lib Fx Lx Tr

def cntF : Nat → Nat
  | 0 => 0
  | k + 1 => 20 * (1 + cntF k)
theorem fewB_parts {dep : Nat} {L : List Stm} (h : fewB dep L = true) : L.length ≤ 20 ∧ dep ≤ 8 ∧ fewA dep L = true := by
  unfold fewB at h
  rw [Bool.and_eq_true, Bool.and_eq_true, decide_eq_true_eq, decide_eq_true_eq] at h
  exact ⟨h.1.1, h.1.2, h.2⟩
theorem fewS_parts {dep : Nat} {x : Stm} (h : fewS dep x = true) : x.refs.length ≤ 10 ∧ x.attrs.length ≤ 20 ∧ fewB (dep + 1) x.body = true := by
  obtain ⟨k, n, rs, al, b⟩ := x
  rw [fewS_mk, Bool.and_eq_true, Bool.and_eq_true, decide_eq_true_eq, decide_eq_true_eq] at h
  exact ⟨h.1.1, h.1.2, h.2⟩
/-- The statements of few statements, in number, and what each holds. -/
theorem few_count : ∀ (k : Nat) (L : List Stm) (dep lev : Nat), dep + k = 9 → fewB dep L = true → (flatL lev L).length ≤ cntF k ∧ ∀ p ∈ flatL lev L, p.1.refs.length ≤ 10 ∧ p.1.attrs.length ≤ 20
  | 0, L, dep, lev, hk, h => by have := (fewB_parts h).2.1; omega
  | k + 1, L, dep, lev, hk, h => by
    obtain ⟨h20, _, hA⟩ := fewB_parts h
    have H : ∀ M : List Stm, fewA dep M = true → (flatL lev M).length ≤ M.length * (1 + cntF k) ∧ ∀ p ∈ flatL lev M, p.1.refs.length ≤ 10 ∧ p.1.attrs.length ≤ 20 := by
      intro M
      induction M with
      | nil => intro _; rw [flatL_nil]; exact ⟨by simp, fun p hp => by cases hp⟩
      | cons x r ih =>
        intro hM
        rw [fewA_cons, Bool.and_eq_true] at hM
        obtain ⟨g1, g2, g3⟩ := fewS_parts hM.1
        obtain ⟨i1, i2⟩ := ih hM.2
        obtain ⟨j1, j2⟩ := few_count k x.body (dep + 1) (if x.kind = 5 then lev + 1 else lev) (by omega) g3
        rw [flatL_cons, flatS_eq]
        refine ⟨?_, fun p hp => ?_⟩
        · rw [List.length_append, List.length_cons, List.length_cons, Nat.add_mul]
          omega
        · rcases List.mem_append.1 hp with hp | hp
          · rcases List.mem_cons.1 hp with rfl | hp
            · exact ⟨g1, g2⟩
            · exact j2 p hp
          · exact i2 p hp
    obtain ⟨h1, h2⟩ := H L hA
    refine ⟨Nat.le_trans h1 ?_, h2⟩
    exact Nat.mul_le_mul_right _ h20
theorem few_flat {L : List Stm} (h : fewB 0 L = true) : (flatL 0 L).length ≤ 1099511627776 ∧ ∀ p ∈ flatL 0 L, p.1.refs.length ≤ 10 ∧ p.1.attrs.length ≤ 20 := by
  obtain ⟨h1, h2⟩ := few_count 9 L 0 0 rfl h
  exact ⟨Nat.le_trans h1 (by decide), h2⟩
end Go.Proofs.YtnancphlkbfglaaGreatDoor.Nm

/- What the laws on graphs share. -/
namespace Go.Proofs.YtnancphlkbfglaaGreatDoor.Nm
open Go.RowKit Go.Sort Go.Lib Go.Shelf Fx Lx Tr At

theorem cells5a {w : World} {g : Nat} {T : TypeId} {c0 c1 c2 c3 c4 : Value} (h : w.heap[g]? = some (.cells #[c0, c1, c2, c3, c4] T (0, 0))) (ob : Obj) :
    (w.alloc ob).cell? ⟨g, 0, none⟩ = some c0 ∧ (w.alloc ob).cell? ⟨g, 1, none⟩ = some c1 ∧ (w.alloc ob).cell? ⟨g, 2, none⟩ = some c2 ∧ (w.alloc ob).cell? ⟨g, 3, none⟩ = some c3 ∧ (w.alloc ob).cell? ⟨g, 4, none⟩ = some c4 := cells5g (At.heap_ext h ((Ext.refl w).alloc ob))
theorem few_bounds {L : List Stm} (h : fewB 0 L = true) : cntL L ≤ 1099511627776 ∧ ∀ p ∈ flatL 0 L, p.1.refs.length ≤ 10 ∧ p.1.attrs.length ≤ 20 := by
  have := few_flat h
  rw [cntL_flat] at this
  exact this
theorem buildR_ok {g : Gr} {e : Ending} {w : World} (h : BuildR (.ok g) e w) : ∃ n nc ed ec c cc, e = .returned (.tuple #[.agg #[.string g.name, .bool g.dir, .slice n g.N.length nc, .slice ed g.E.length ec, .slice c g.C.length cc], .int .i64 0]) ∧ GrIn w (.agg #[.string g.name, .bool g.dir, .slice n g.N.length nc, .slice ed g.E.length ec, .slice c g.C.length cc]) g ∧ GrSm g := by
  obtain ⟨v, rfl, h1, -, h3⟩ := h
  have h2 := h1
  obtain ⟨n, nc, e, ec, c, cc, rfl, -⟩ := h2
  exact ⟨n, nc, e, ec, c, cc, rfl, h1, h3⟩
theorem same_true' (g : Gr) (va vb : Value) (w : World) (ha : GrIn w va g) (hb : GrIn w vb g) (hs : GrSm g) : Calls Tryz.prog 12 #[va, vb] w fun e w' => e = .returned (.bool true) ∧ Ext w w' :=
  same_true g va vb w ha hb hs.2.1 hs.2.2.1 hs.2.2.2.1 (fun x hx => (hs.2.2.2.2.1 x hx).2.2.1)
theorem build_valid {nm : ByteArray} {dir : Bool} {L : List Stm} {g : Gr} (h : buildT nm dir L = .ok g) : validE nm L = 0 := by
  unfold buildT at h
  split at h
  · cases h
  · rename_i hv; exact Classical.not_not.1 hv
end Go.Proofs.YtnancphlkbfglaaGreatDoor.Nm

/- Rows of names: whether a name is there, whether two rows are the same. -/
namespace Go.Proofs.YtnancphlkbfglaaGreatDoor.Nm
open Go.RowKit Go.Sort Go.Lib Go.Shelf Fx Lx Tr At

/-- Names behind a slice. -/
def StrIn (w : World) (a : Option Addr) (L : List ByteArray) : Prop := ∀ k (h : k < L.length), ∃ g o, a = some ⟨g, o, none⟩ ∧ w.cell? ⟨g, o + k, none⟩ = some (.string L[k])
theorem StrIn.ext {w w' : World} {a : Option Addr} {L : List ByteArray} (h : StrIn w a L) (x : Ext w w') : StrIn w' a L := fun k hk => by
  obtain ⟨g, o, ha, h0⟩ := h k hk
  exact ⟨g, o, ha, x.cell h0⟩
def strC (L : List ByteArray) : List Value := L.map .string
theorem strC_snoc (L : List ByteArray) (s : ByteArray) : strC (L ++ [s]) = strC L ++ [.string s] := by unfold strC; rw [List.map_append]; rfl
theorem own_strs {w : World} {B : Nat} {v : Value} {L : List ByteArray} (h : w.ownsRow B 9 1 v L.length (strC L)) : ∃ a c, v = .slice a L.length c ∧ StrIn w a L := by
  rcases h.2 with ⟨h1, h2⟩ | ⟨g, cap, cur, hv, hb, hg, hn, hc, _⟩
  · exact ⟨none, 0, by rw [h1, h2], fun k hk => absurd hk (by omega)⟩
  · refine ⟨_, cap, hv, fun k hk => ⟨g, 0, rfl, ?_⟩⟩
    have := h.cells (g := g) (by rw [hv]; rfl) k (.string L[k]) (by unfold strC; rw [List.getElem?_map, List.getElem?_eq_getElem hk]; rfl)
    rw [At.add_at] at this
    exact this
set_option maxHeartbeats 4000000 in
set_option maxRecDepth 100000 in
theorem has_any (L : List ByteArray) (a : Option Addr) (cap : Nat) (n : ByteArray) (w : World) (h : StrIn w a L) (hL : L.length ≤ 1000000000) :
    Calls Tryz.prog 40 #[.slice a L.length cap, .string n] w fun e w' => e = .returned (.bool (L.any fun q => decide (q = n))) ∧ Ext w w' := by
  obtain ⟨V, hV⟩ : ∃ V, V = L.any fun q => decide (q = n) := ⟨_, rfl⟩
  rw [← hV]
  obtain ⟨N, hN⟩ : ∃ N, N = L.length := ⟨_, rfl⟩
  rw [← hN] at hL ⊢
  have HB : Hid (V = (L.drop 0).any fun q => decide (q = n)) := Lib.hid (by rw [List.drop_zero]; exact hV)
  have HN := Lib.hid hN; have H := Lib.hid h
  clear h hN hV
  go_enter Tryz.func40, Tryz.ntmps40
  go_wp2
  go_loopw [5] (fun i' wr => ∃ k : Nat, k ≤ N ∧ i' = .int .i64 k ∧ Hid (V = (L.drop k).any fun q => decide (q = n)) ∧ Ext w wr) (fun i' _ => N - (RowKit.intOf i').toNat)
  case atStart => exact ⟨0, Nat.zero_le _, rfl, HB, Ext.refl _⟩
  case round =>
    clear HB
    obtain ⟨k, hk, rfl, HB, hx⟩ := hrel
    by_cases hlt : k < N
    · have hkN : k < L.length := by rw [← HN.out]; exact hlt
      obtain ⟨g, o, rfl, c0⟩ := (H.out.ext hx) k hkN
      have hb := HB.out
      rw [List.drop_eq_getElem_cons hkN, List.any_cons] at hb
      obtain ⟨s, hs⟩ : ∃ s, s = L[k] := ⟨_, rfl⟩
      rw [← hs] at c0 hb
      have b0 : (0 : Int) ≤ (k : Int) := by omega
      have b1 : (k : Int) < (N : Int) := by omega
      by_cases heq : s = n
      · have f1 : (s.toList == n.toList) = true := by rw [At.beqs]; exact decide_eq_true heq
        rw [decide_eq_true heq, Bool.true_or] at hb
        have hr := Lib.hid hb
        clear heq hb hs
        go_wp2
        go_ret
        exact ⟨congrArg (fun z => Ending.returned (Value.bool z)) hr.out.symm, hx⟩
      · have f1 : (s.toList == n.toList) = false := by rw [At.beqs]; exact decide_eq_false heq
        rw [decide_eq_false heq, Bool.false_or] at hb
        have hr := Lib.hid hb
        clear heq hb hs
        go_wp2
        go_roundw
        case rel => exact ⟨k + 1, by omega, by go_num, hr, hx⟩
        case measure => simp [RowKit.intOf]; omega
    · have hr : Hid (V = false) := Lib.hid (by rw [HB.out, List.drop_eq_nil_of_le (by rw [← HN.out]; omega)]; rfl)
      have b1 : ¬ (k : Int) < (N : Int) := by omega
      go_wp2
      go_ret
      exact ⟨congrArg (fun z => Ending.returned (Value.bool z)) hr.out.symm, hx⟩
set_option maxHeartbeats 4000000 in
set_option maxRecDepth 100000 in
theorem same_rows (L : List ByteArray) (a b : Option Addr) (ca cb : Nat) (w : World) (h : StrIn w a L) (h2 : StrIn w b L) (hL : L.length ≤ 1000000000) :
    Calls Tryz.prog 14 #[.slice a L.length ca, .slice b L.length cb] w fun e w' => e = .returned (.bool true) ∧ Ext w w' := by
  obtain ⟨N, hN⟩ : ∃ N, N = L.length := ⟨_, rfl⟩
  rw [← hN] at hL ⊢
  have HN := Lib.hid hN; have H := Lib.hid h; have H2 := Lib.hid h2
  clear h h2 hN
  go_enter Tryz.func14, Tryz.ntmps14
  go_wp2
  go_loopw [5] (fun i' wr => ∃ k : Nat, k ≤ N ∧ i' = .int .i64 k ∧ Ext w wr) (fun i' _ => N - (RowKit.intOf i').toNat)
  case atStart => exact ⟨0, Nat.zero_le _, rfl, Ext.refl _⟩
  case round =>
    obtain ⟨k, hk, rfl, hx⟩ := hrel
    by_cases hlt : k < N
    · have hkN : k < L.length := by rw [← HN.out]; exact hlt
      obtain ⟨g, o, rfl, c0⟩ := (H.out.ext hx) k hkN
      obtain ⟨g2, o2, rfl, d0⟩ := (H2.out.ext hx) k hkN
      obtain ⟨s, hs⟩ : ∃ s, s = L[k] := ⟨_, rfl⟩
      rw [← hs] at c0 d0
      have b0 : (0 : Int) ≤ (k : Int) := by omega
      have b1 : (k : Int) < (N : Int) := by omega
      clear hs
      go_wp2_with fail
      go_quiet (fail)
      go_wp2
      go_roundw
      case rel => exact ⟨k + 1, by omega, by go_num, by first | exact hx.drewN _ | exact hx.drew⟩
      case measure => simp [RowKit.intOf]; omega
    · have b1 : ¬ (k : Int) < (N : Int) := by omega
      go_wp2
      go_ret
      exact ⟨rfl, hx⟩
end Go.Proofs.YtnancphlkbfglaaGreatDoor.Nm

/- The document's Names and Clusters. -/
namespace Go.Proofs.YtnancphlkbfglaaGreatDoor.Nm
open Go.RowKit Go.Sort Go.Lib Go.Shelf Fx Lx Tr At

theorem addN_len (O : List ByteArray) (s : ByteArray) : (addN O s).length ≤ O.length + 1 := by
  unfold addN
  split
  · omega
  · rw [List.length_append]; exact Nat.le_refl _
theorem addN_in {O : List ByteArray} {s : ByteArray} (h : (O.any fun q => decide (q = s)) = true) : addN O s = O := by unfold addN; rw [if_pos h]
theorem addN_new {O : List ByteArray} {s : ByteArray} (h : (O.any fun q => decide (q = s)) = false) : addN O s = O ++ [s] := by unfold addN; rw [if_neg (by rw [h]; decide)]
theorem nmS_1 {O : List ByteArray} {p : Stm × Nat} (h : p.1.kind = 1) : nmS O p = p.1.refs.foldl (fun o r => addN o r.1) (addN O p.1.name) := by unfold nmS; rw [if_pos h]
theorem nmS_n {O : List ByteArray} {p : Stm × Nat} (h : p.1.kind ≠ 1) : nmS O p = p.1.refs.foldl (fun o r => addN o r.1) O := by unfold nmS; rw [if_neg h]
/-- Where Names stands. -/
structure NamAt (w : World) (n B2 : Nat) (C : List Value) (F : List (Stm × Nat)) (g c : Nat) (O : List ByteArray) (ov : Value) (wr : World) : Prop where
  own : wr.ownsRow w.heap.size 9 1 ov O.length (strC O)
  fl : wr.ownsRow B2 100 6 (.slice (some ⟨g, 0, none⟩) F.length c) F.length C
  sx : Sixes n wr C F
  x : Ext w wr
theorem NamAt.ext {w : World} {n B2 : Nat} {C : List Value} {F : List (Stm × Nat)} {g c : Nat} {O : List ByteArray} {ov : Value} {wr w' : World} (h : NamAt w n B2 C F g c O ov wr) (hn : n ≤ w.heap.size) (x : Ext wr w') : NamAt w n B2 C F g c O ov w' :=
  ⟨At.own_ext h.own x, At.own_ext h.fl x, h.sx.below (Below.mono x (Nat.le_trans hn h.x.size)), h.x.trans x⟩
theorem NamAt.add {w : World} {n B2 : Nat} {C : List Value} {F : List (Stm × Nat)} {g c g7 c7 : Nat} {O : List ByteArray} {ov : Value} {wr wA w7 : World} {s : ByteArray} (h : NamAt w n B2 C F g c O ov wr) (hn : n ≤ w.heap.size) (x : Ext wr wA) (hg : wA.grownBy w7 ov.ownBlock)
    (ho : w7.ownsRow w.heap.size 9 1 (.slice (some ⟨g7, 0, none⟩) (O.length + 1) c7) (O.length + 1) (strC O ++ [.string s])) : NamAt w n B2 C F g c (O ++ [s]) (.slice (some ⟨g7, 0, none⟩) (O.length + 1) c7) w7 := by
  have h2 := h.ext hn x
  refine ⟨?_, row_keep h2.fl hg (row_ty h2.own) (nope (by decide)), h2.sx.below (Below.grown (Below.refl n wA) hg (Nat.le_trans hn h2.x.size) (fun k hk => Nat.le_trans hn (h.own.lt k hk).1)), ext_grown h2.x hg (fun k e => (h.own.lt k e).1)⟩
  rw [List.length_append, strC_snoc]
  exact ho
/-- A block of another kind stays. -/
theorem NamAt.keep {w : World} {n B2 : Nat} {C : List Value} {F : List (Stm × Nat)} {g c gb : Nat} {O : List ByteArray} {ov : Value} {wr wA w7 : World} {cs : Array Value} (h : NamAt w n B2 C F g c O ov wr) (x : Ext wr wA) (hg : wA.grownBy w7 ov.ownBlock) (hb : wA.heap[gb]? = some (.cells cs 56 (0, 0))) : w7.heap[gb]? = some (.cells cs 56 (0, 0)) :=
  cel_keep hb hg (row_ty (At.own_ext h.own x)) (nope (by decide))
theorem NamAt.two {w : World} {n B2 : Nat} {C : List Value} {F : List (Stm × Nat)} {g c : Nat} {O : List ByteArray} {ov : Value} {wr wA w7 : World} {a : Option Addr} {L : List Two} (h : NamAt w n B2 C F g c O ov wr) (hn : n ≤ w.heap.size) (x : Ext wr wA) (hg : wA.grownBy w7 ov.ownBlock) (hb : TwoAt n wr a L) : TwoAt n w7 a L :=
  hb.below (Below.grown (Below.mono x (Nat.le_trans hn h.x.size)) hg (Nat.le_trans hn (Nat.le_trans h.x.size x.size)) (fun k hk => Nat.le_trans hn (h.own.lt k hk).1))
set_option maxHeartbeats 8000000 in
set_option maxRecDepth 100000 in
theorem names_any (nm : ByteArray) (dir : Bool) (b : Option Addr) (L : List Stm) (cap n : Nat) (w : World) (hn : n ≤ w.heap.size) (h : StmsAt n w b L) (hs : (flatL 0 L).length ≤ 1099511627776) (hbig : BigL L) (hnm : nm.size ≤ 9223372036854775807) (hfw : ∀ p ∈ flatL 0 L, p.1.refs.length ≤ 10 ∧ p.1.attrs.length ≤ 20) (hv : validE nm L = 0) :
    Calls Tryz.prog 15 #[.agg #[.string nm, .bool dir, .slice b L.length cap]] w fun e w' => (∃ a c, e = .returned (.slice a (namesT L).length c) ∧ StrIn w' a (namesT L)) ∧ Ext w w' := by
  have hx0 : Ext w (w.alloc (.cells #[.string nm, .bool dir, .slice b L.length cap] 24)) := (Ext.refl _).alloc _
  have hx1 : Ext w ((w.alloc (.cells #[.string nm, .bool dir, .slice b L.length cap] 24)).alloc (.cells #[] 9)) := hx0.alloc _
  have hcl := tree_cells w nm dir b L.length cap
  have hpre := fun w1 (x : Ext w w1) => preR_cnt 1099511627776 L b cap 0 n w1 hs (Nat.le_refl _) (by decide) (StmsAt.below (Below.mono x hn) L h) (by have h := x.size; omega)
  have hval := fun w1 (x : Ext w w1) => validR_big nm dir b L cap n w1 (by have h := x.size; omega) (StmsAt.below (Below.mono x hn) L h) hs hbig hnm
  rw [hv] at hval
  have hl5 : (flatL 0 L).length ≤ 512 := by
    unfold validE at hv
    split at hv
    · exact absurd hv (by decide)
    split at hv
    · exact absurd hv (by decide)
    omega
  have ho0 : ((w.alloc (.cells #[.string nm, .bool dir, .slice b L.length cap] 24)).alloc (.cells #[] 9)).ownsRow w.heap.size 9 1 (.slice (some ⟨w.heap.size + 1, 0, none⟩) 0 0) 0 [] := by
    have := World.ownsRow_made (base := w.heap.size) (size := 1) (e := 9) (w.alloc (.cells #[.string nm, .bool dir, .slice b L.length cap] 24)) #[] 0 (by rw [World.size_alloc]; omega) (by unfold maxLen; omega) rfl
    rw [World.size_alloc] at this
    exact this
  unfold namesT
  generalize flatL 0 L = F at *
  generalize L.length = N at *
  obtain ⟨V, hV⟩ : ∃ V, V = F.foldl nmS [] := ⟨_, rfl⟩
  rw [← hV]
  have HF : Hid (V = (F.drop 0).foldl nmS []) := Lib.hid (by rw [hV, List.drop_zero])
  obtain ⟨i0, hi, hz0, hz1, hz2⟩ := info_parts Tr.info_str
  have HPRE := Lib.hid hpre; have HVAL := Lib.hid hval; have HCL := Lib.hid hcl; have HO := Lib.hid ho0; have HN := Lib.hid hn; have HFW := Lib.hid hfw; have HL5 := Lib.hid hl5
  obtain ⟨k0, k1, k2⟩ := hcl _ ((Ext.refl _).alloc (.cells #[] 9))
  clear hpre hval hcl ho0 h hs hn hnm hv hV hfw hbig hl5
  go_enter Tryz.func15, Tryz.ntmps15
  go_wp2_with (first | (go_at_call 31; refine (HVAL.out _ hx1).mono ?_; rintro e w3 ⟨rfl, x3⟩; obtain ⟨k0, k1, k2⟩ := HCL.out _ (((Ext.refl _).alloc (.cells #[] 9)).trans x3)) | (go_at_call 39; refine (HPRE.out _ (hx1.trans x3)).mono ?_; rintro e w4 ⟨⟨g, c, C, rfl, ho, hsx⟩, x4⟩))
  have hC : Hid (NamAt w n w3.heap.size C F g c [] (.slice (some ⟨w.heap.size + 1, 0, none⟩) 0 0) w4) := Lib.hid ⟨own_ext' (own_ext' HO.out x3) x4, ho, hsx, (hx1.trans x3).trans x4⟩
  obtain ⟨B2, hB2⟩ : ∃ B2, B2 = w3.heap.size := ⟨_, rfl⟩
  rw [← hB2] at hC
  clear ho hsx k0 k1 k2 x4 x3 HO HPRE HVAL HCL hx0 hx1 hB2
  go_loopw [3, 5] (fun ov i' wr => ∃ (k : Nat) (O : List ByteArray) (oa : Option Addr) (oc ON : Nat), k ≤ F.length ∧ i' = .int .i64 k ∧ ov = .slice oa ON oc ∧ Hid (ON = O.length) ∧ Hid (ON ≤ k * 11) ∧ Hid (V = (F.drop k).foldl nmS O) ∧ Hid (NamAt w n B2 C F g c O (.slice oa ON oc) wr)) (fun _ i' _ => F.length - (RowKit.intOf i').toNat)
  case atStart => exact ⟨0, [], _, _, 0, by omega, rfl, rfl, Lib.hid rfl, Lib.hid (by omega), HF, hC⟩
  case round =>
    clear HF hC
    obtain ⟨k, O, oa, oc, ON, hk, rfl, rfl, HON, HLE, HB, hC⟩ := hrel
    by_cases hlt : k < F.length
    · obtain ⟨wo, hwo⟩ : ∃ wo : World, wo = wr := ⟨_, rfl⟩
      subst hwo
      obtain ⟨r, a, b', rc, ac, bc, hfl, c0, c1, c2, c3, c4, c5⟩ := six_cells hC.out.fl hC.out.sx k hlt
      have hst := HB.out
      rw [List.drop_eq_getElem_cons hlt, List.foldl_cons] at hst
      have hrf := (HFW.out F[k] (List.getElem_mem hlt)).1
      obtain ⟨p, hp⟩ : ∃ p, p = F[k] := ⟨_, rfl⟩
      rw [← hp] at hst c0 c1 c2 c3 c4 hrf hfl
      have hrw := hfl.hr
      obtain ⟨⟨kind, sn, rs, al, body⟩, lev⟩ := p
      simp only [Stm.kind, Stm.name, Stm.refs, Stm.attrs, Stm.body] at c0 c1 c2 c3 c4 hrf hrw
      clear hp HB c5 hfl
      obtain ⟨V2, hV2⟩ : ∃ V2, V2 = nmS O (Stm.mk kind sn rs al body, lev) := ⟨_, rfl⟩
      rw [← hV2] at hst
      have hv1 : kind = 1 → V2 = rs.foldl (fun o r => addN o r.1) (addN O sn) := fun h => hV2.trans (nmS_1 (p := (Stm.mk kind sn rs al body, lev)) h)
      have hvn : kind ≠ 1 → V2 = rs.foldl (fun o r => addN o r.1) O := fun h => hV2.trans (nmS_n (p := (Stm.mk kind sn rs al body, lev)) h)
      obtain ⟨RN, hRN⟩ : ∃ n, n = rs.length := ⟨_, rfl⟩
      obtain ⟨AN, hAN⟩ : ∃ n, n = al.length := ⟨_, rfl⟩
      obtain ⟨BN, hBN⟩ : ∃ n, n = body.length := ⟨_, rfl⟩
      rw [← hRN] at c2 hrf; rw [← hAN] at c3; rw [← hBN] at c4
      have hk5 := HL5.out
      have HST := Lib.hid hst; have HV1 := Lib.hid hv1; have HVN := Lib.hid hvn; have HRN := Lib.hid hRN; have HRW := Lib.hid hrw
      obtain ⟨oa', oc', hov, hsi⟩ := own_strs hC.out.own
      have hhas := fun (s : ByteArray) (w5 : World) (x : Ext wo w5) => has_any O oa oc s w5 ((show StrIn wo oa O by injection hov with e1 e2 e3; rw [e1]; exact hsi).ext x) (by have := HON.out; have := HLE.out; omega)
      rw [← HON.out] at hhas
      have HHAS := Lib.hid hhas
      have OW : Hid (wo.ownsRow w.heap.size 9 1 (.slice oa ON oc) ON (strC O)) := Lib.hid (by rw [HON.out]; have h := hC.out.own; rw [← HON.out] at h ⊢; exact h)
      have hle := HLE.out
      clear hst hV2 hv1 hvn hRN hAN hBN hrw hov hsi hhas
      by_cases h1 : kind = 1
      · subst h1
        by_cases hh : (O.any fun q => decide (q = sn)) = true
        · have HV3 : Hid (V2 = (rs.drop 0).foldl (fun o r => addN o r.1) O) := Lib.hid (by rw [List.drop_zero, HV1.out rfl, addN_in hh])
          have hhs := HHAS.out sn
          rw [hh] at hhs
          have HHS := Lib.hid hhs
          clear hhs hh
          go_wp2_with (go_at_call 40; refine (HHS.out _ ((Ext.refl _).alloc _)).mono ?_; rintro e w5 ⟨rfl, x5⟩; have X5 := Lib.hid (((Ext.refl wo).alloc _).trans x5); have BX := Lib.hid (At.heap_ext (heap_alloc_new wo _) x5))
          have HQ := Lib.hid (hC.out.ext HN.out X5.out)
          have HTW := Lib.hid (HRW.out.below (Below.mono X5.out (Nat.le_trans HN.out hC.out.x.size)))
          have HLQ : Hid (ON ≤ k * 11 + 1 + 0) := Lib.hid (by omega)
          clear c0 c1 c2 c3 c4 hC OW HHAS HRW HV1 HVN
          go_loopw [3, 7] (fun ov j' wr => ∃ (m : Nat) (Om : List ByteArray) (oa : Option Addr) (oc ON : Nat), m ≤ RN ∧ j' = .int .i64 m ∧ ov = .slice oa ON oc ∧ Hid (ON = Om.length) ∧ Hid (ON ≤ k * 11 + 1 + m) ∧ Hid (V2 = (rs.drop m).foldl (fun o r => addN o r.1) Om) ∧ Hid (NamAt w n B2 C F g c Om (.slice oa ON oc) wr) ∧ Hid (wr.heap[wo.heap.size]? = some (.cells #[.int .i64 1, .string sn, .slice r RN rc, .slice a AN ac, .slice b' BN bc] 56 (0, 0))) ∧ Hid (TwoAt n wr r rs)) (fun _ j' _ => RN - (RowKit.intOf j').toNat)
          case atStart => exact ⟨0, _, _, _, _, Nat.zero_le _, rfl, rfl, HON, HLQ, HV3, HQ, BX, HTW⟩
          case round =>
            clear HV3 HQ BX HTW HLQ X5 HON HLE
            obtain ⟨m, Om, oa, oc, ON, hm, rfl, rfl, HON, HLE, HB, HQ, BX, HTW⟩ := hrel
            obtain ⟨q0, q1, q2, q3, q4⟩ := cells5g BX.out
            have hle := HLE.out
            by_cases hlm : m < RN
            · have hmr : m < rs.length := by rw [← HRN.out]; exact hlm
              have hb := HB.out
              rw [List.drop_eq_getElem_cons hmr, List.foldl_cons] at hb
              obtain ⟨g1, o1, rfl, -, d0, -⟩ := HTW.out m hmr
              obtain ⟨s, hs⟩ : ∃ s, s = rs[m].1 := ⟨_, rfl⟩
              rw [← hs] at d0 hb
              obtain ⟨oa', oc', hov, hsi⟩ := own_strs HQ.out.own
              have hhas := has_any Om oa oc s wr (show StrIn wr oa Om by injection hov with e1 e2 e3; rw [e1]; exact hsi) (by have := HON.out; omega)
              rw [← HON.out] at hhas
              have OW : Hid (wr.ownsRow w.heap.size 9 1 (.slice oa ON oc) ON (strC Om)) := Lib.hid (by have h := HQ.out.own; rw [← HON.out] at h; exact h)
              have b0 : (0 : Int) ≤ (m : Int) := by omega
              have b1 : (m : Int) < (RN : Int) := by omega
              clear hs hov hsi HB
              by_cases hh : (Om.any fun q => decide (q = s)) = true
              · rw [addN_in hh] at hb
                rw [hh] at hhas
                have HB := Lib.hid hb; have HHAS := Lib.hid hhas
                clear hb hhas hh
                go_wp2_with (go_at_call 40; refine HHAS.out.mono ?_; rintro e w5 ⟨rfl, x5⟩; have X5 := Lib.hid x5; clear x5)
                go_roundw
                case rel => exact ⟨m + 1, Om, oa, oc, ON, by omega, by go_num, rfl, HON, Lib.hid (by omega), HB, Lib.hid (HQ.out.ext HN.out X5.out), Lib.hid (At.heap_ext BX.out X5.out), Lib.hid (HTW.out.below (Below.mono X5.out (Nat.le_trans HN.out HQ.out.x.size)))⟩
                case measure => simp [RowKit.intOf]; omega
              · have hh : (Om.any fun q => decide (q = s)) = false := Bool.eq_false_iff.2 hh
                rw [addN_new hh] at hb
                rw [hh] at hhas
                have HB := Lib.hid hb; have HHAS := Lib.hid hhas
                clear hb hhas hh
                go_wp2_with (first
                  | (go_at_call 40; refine HHAS.out.mono ?_; rintro e w5 ⟨rfl, x5⟩; have X5 := Lib.hid x5; obtain ⟨q0, q1, q2, q3, q4⟩ := cells5g (At.heap_ext BX.out x5); have d0 := x5.cell d0; clear x5)
                  | (at_builtin; refine wpList_append_lies _ rfl _ _ 37 rfl w.heap.size 9 i0 _ 1 16 Tryz.underlying37 hi hz0 hz1 hz2 rfl (by decide) _ _ _ rfl (At.own_ext OW.out (X5.out.alloc _)) ⟨w5.heap.size, 0, none⟩ 1 1 [.string s] rfl rfl ?c1 ?c2 (by decide) ?c3 ?c4 ?c5 _ rfl ?_))
                case c1 => exact fun j u hj => cell_new6 w5 [.string s] 9 j u hj
                case c2 => intro u hu; simp at hu; subst hu; rfl
                case c3 => unfold maxLen; omega
                case c4 => omega
                case c5 => have := HQ.out.x.size; have := X5.out.size; simp; omega
                intro g7 c7 w7 hown1 hgrow _ _
                have HQ7 : Hid (NamAt w n B2 C F g c (Om ++ [s]) (.slice (some ⟨g7, 0, none⟩) (ON + 1) c7) w7) := Lib.hid (by have h := HQ.out; rw [HON.out] at h hgrow hown1 ⊢; exact h.add HN.out (X5.out.alloc _) hgrow hown1)
                have BX7 := Lib.hid (HQ.out.keep (X5.out.alloc (.cells #[.string s] 9)) hgrow (At.heap_ext (At.heap_ext BX.out X5.out) ((Ext.refl _).alloc _)))
                have HTW7 := Lib.hid (HQ.out.two HN.out (X5.out.alloc (.cells #[.string s] 9)) hgrow HTW.out)
                have HON7 : Hid (ON + 1 = (Om ++ [s]).length) := Lib.hid (by rw [List.length_append, HON.out]; rfl)
                clear hown1 hgrow
                go_wp2_with fail
                go_roundw
                case rel => exact ⟨m + 1, Om ++ [s], _, _, ON + 1, by omega, by go_num, rfl, HON7, Lib.hid (by omega), HB, HQ7, BX7, HTW7⟩
                case measure => simp [RowKit.intOf]; omega
            · have hf : Hid (V2 = Om) := Lib.hid (by rw [HB.out, List.drop_eq_nil_of_le (by rw [← HRN.out]; omega)]; rfl)
              have b1 : ¬ (m : Int) < (RN : Int) := by omega
              clear HB
              go_wp2_with fail
              go_roundw
              case rel => exact ⟨k + 1, Om, oa, oc, ON, by omega, by go_num, rfl, HON, Lib.hid (by omega), Lib.hid (by rw [HST.out, hf.out]), HQ⟩
              case measure => simp [RowKit.intOf]; omega
        · have hh : (O.any fun q => decide (q = sn)) = false := Bool.eq_false_iff.2 hh
          have HV3 : Hid (V2 = (rs.drop 0).foldl (fun o r => addN o r.1) (O ++ [sn])) := Lib.hid (by rw [List.drop_zero, HV1.out rfl, addN_new hh])
          have hhs := HHAS.out sn
          rw [hh] at hhs
          have HHS := Lib.hid hhs
          clear hhs hh
          go_wp2_with (first
            | (go_at_call 40; refine (HHS.out _ ((Ext.refl _).alloc _)).mono ?_; rintro e w5 ⟨rfl, x5⟩; have X5 := Lib.hid (((Ext.refl wo).alloc _).trans x5); have BX := Lib.hid (At.heap_ext (heap_alloc_new wo _) x5); obtain ⟨q0, q1, q2, q3, q4⟩ := cells5g BX.out)
            | (at_builtin; refine wpList_append_lies _ rfl _ _ 37 rfl w.heap.size 9 i0 _ 1 16 Tryz.underlying37 hi hz0 hz1 hz2 rfl (by decide) _ _ _ rfl (At.own_ext OW.out (X5.out.alloc _)) ⟨w5.heap.size, 0, none⟩ 1 1 [.string sn] rfl rfl ?c1 ?c2 (by decide) ?c3 ?c4 ?c5 _ rfl ?_))
          case c1 => exact fun j u hj => cell_new6 w5 [.string sn] 9 j u hj
          case c2 => intro u hu; simp at hu; subst hu; rfl
          case c3 => unfold maxLen; omega
          case c4 => omega
          case c5 => have := hC.out.x.size; have := X5.out.size; simp; omega
          intro g7 c7 w7 hown1 hgrow _ _
          have HQ : Hid (NamAt w n B2 C F g c (O ++ [sn]) (.slice (some ⟨g7, 0, none⟩) (ON + 1) c7) w7) := Lib.hid (by have h := hC.out; rw [HON.out] at h hgrow hown1 ⊢; exact h.add HN.out (X5.out.alloc _) hgrow hown1)
          have BX := Lib.hid (hC.out.keep (X5.out.alloc (.cells #[.string sn] 9)) hgrow (At.heap_ext BX.out ((Ext.refl _).alloc _)))
          have HTW := Lib.hid (hC.out.two HN.out (X5.out.alloc (.cells #[.string sn] 9)) hgrow HRW.out)
          have HONQ : Hid (ON + 1 = (O ++ [sn]).length) := Lib.hid (by rw [List.length_append, HON.out]; rfl)
          have HLQ : Hid (ON + 1 ≤ k * 11 + 1 + 0) := Lib.hid (by omega)
          clear hown1 hgrow q0 q1 q2 q3 q4
          go_wp2_with fail
          clear c0 c1 c2 c3 c4 hC OW HHAS HRW HV1 HVN
          go_loopw [3, 7] (fun ov j' wr => ∃ (m : Nat) (Om : List ByteArray) (oa : Option Addr) (oc ON : Nat), m ≤ RN ∧ j' = .int .i64 m ∧ ov = .slice oa ON oc ∧ Hid (ON = Om.length) ∧ Hid (ON ≤ k * 11 + 1 + m) ∧ Hid (V2 = (rs.drop m).foldl (fun o r => addN o r.1) Om) ∧ Hid (NamAt w n B2 C F g c Om (.slice oa ON oc) wr) ∧ Hid (wr.heap[wo.heap.size]? = some (.cells #[.int .i64 1, .string sn, .slice r RN rc, .slice a AN ac, .slice b' BN bc] 56 (0, 0))) ∧ Hid (TwoAt n wr r rs)) (fun _ j' _ => RN - (RowKit.intOf j').toNat)
          case atStart => exact ⟨0, _, _, _, _, Nat.zero_le _, rfl, rfl, HONQ, HLQ, HV3, HQ, BX, HTW⟩
          case round =>
            clear HV3 HQ BX HTW HLQ X5 HON HLE
            obtain ⟨m, Om, oa, oc, ON, hm, rfl, rfl, HON, HLE, HB, HQ, BX, HTW⟩ := hrel
            obtain ⟨q0, q1, q2, q3, q4⟩ := cells5g BX.out
            have hle := HLE.out
            by_cases hlm : m < RN
            · have hmr : m < rs.length := by rw [← HRN.out]; exact hlm
              have hb := HB.out
              rw [List.drop_eq_getElem_cons hmr, List.foldl_cons] at hb
              obtain ⟨g1, o1, rfl, -, d0, -⟩ := HTW.out m hmr
              obtain ⟨s, hs⟩ : ∃ s, s = rs[m].1 := ⟨_, rfl⟩
              rw [← hs] at d0 hb
              obtain ⟨oa', oc', hov, hsi⟩ := own_strs HQ.out.own
              have hhas := has_any Om oa oc s wr (show StrIn wr oa Om by injection hov with e1 e2 e3; rw [e1]; exact hsi) (by have := HON.out; omega)
              rw [← HON.out] at hhas
              have OW : Hid (wr.ownsRow w.heap.size 9 1 (.slice oa ON oc) ON (strC Om)) := Lib.hid (by have h := HQ.out.own; rw [← HON.out] at h; exact h)
              have b0 : (0 : Int) ≤ (m : Int) := by omega
              have b1 : (m : Int) < (RN : Int) := by omega
              clear hs hov hsi HB
              by_cases hh : (Om.any fun q => decide (q = s)) = true
              · rw [addN_in hh] at hb
                rw [hh] at hhas
                have HB := Lib.hid hb; have HHAS := Lib.hid hhas
                clear hb hhas hh
                go_wp2_with (go_at_call 40; refine HHAS.out.mono ?_; rintro e w5 ⟨rfl, x5⟩; have X5 := Lib.hid x5; clear x5)
                go_roundw
                case rel => exact ⟨m + 1, Om, oa, oc, ON, by omega, by go_num, rfl, HON, Lib.hid (by omega), HB, Lib.hid (HQ.out.ext HN.out X5.out), Lib.hid (At.heap_ext BX.out X5.out), Lib.hid (HTW.out.below (Below.mono X5.out (Nat.le_trans HN.out HQ.out.x.size)))⟩
                case measure => simp [RowKit.intOf]; omega
              · have hh : (Om.any fun q => decide (q = s)) = false := Bool.eq_false_iff.2 hh
                rw [addN_new hh] at hb
                rw [hh] at hhas
                have HB := Lib.hid hb; have HHAS := Lib.hid hhas
                clear hb hhas hh
                go_wp2_with (first
                  | (go_at_call 40; refine HHAS.out.mono ?_; rintro e w5 ⟨rfl, x5⟩; have X5 := Lib.hid x5; obtain ⟨q0, q1, q2, q3, q4⟩ := cells5g (At.heap_ext BX.out x5); have d0 := x5.cell d0; clear x5)
                  | (at_builtin; refine wpList_append_lies _ rfl _ _ 37 rfl w.heap.size 9 i0 _ 1 16 Tryz.underlying37 hi hz0 hz1 hz2 rfl (by decide) _ _ _ rfl (At.own_ext OW.out (X5.out.alloc _)) ⟨w5.heap.size, 0, none⟩ 1 1 [.string s] rfl rfl ?c1 ?c2 (by decide) ?c3 ?c4 ?c5 _ rfl ?_))
                case c1 => exact fun j u hj => cell_new6 w5 [.string s] 9 j u hj
                case c2 => intro u hu; simp at hu; subst hu; rfl
                case c3 => unfold maxLen; omega
                case c4 => omega
                case c5 => have := HQ.out.x.size; have := X5.out.size; simp; omega
                intro g7 c7 w7 hown1 hgrow _ _
                have HQ7 : Hid (NamAt w n B2 C F g c (Om ++ [s]) (.slice (some ⟨g7, 0, none⟩) (ON + 1) c7) w7) := Lib.hid (by have h := HQ.out; rw [HON.out] at h hgrow hown1 ⊢; exact h.add HN.out (X5.out.alloc _) hgrow hown1)
                have BX7 := Lib.hid (HQ.out.keep (X5.out.alloc (.cells #[.string s] 9)) hgrow (At.heap_ext (At.heap_ext BX.out X5.out) ((Ext.refl _).alloc _)))
                have HTW7 := Lib.hid (HQ.out.two HN.out (X5.out.alloc (.cells #[.string s] 9)) hgrow HTW.out)
                have HON7 : Hid (ON + 1 = (Om ++ [s]).length) := Lib.hid (by rw [List.length_append, HON.out]; rfl)
                clear hown1 hgrow
                go_wp2_with fail
                go_roundw
                case rel => exact ⟨m + 1, Om ++ [s], _, _, ON + 1, by omega, by go_num, rfl, HON7, Lib.hid (by omega), HB, HQ7, BX7, HTW7⟩
                case measure => simp [RowKit.intOf]; omega
            · have hf : Hid (V2 = Om) := Lib.hid (by rw [HB.out, List.drop_eq_nil_of_le (by rw [← HRN.out]; omega)]; rfl)
              have b1 : ¬ (m : Int) < (RN : Int) := by omega
              clear HB
              go_wp2_with fail
              go_roundw
              case rel => exact ⟨k + 1, Om, oa, oc, ON, by omega, by go_num, rfl, HON, Lib.hid (by omega), Lib.hid (by rw [HST.out, hf.out]), HQ⟩
              case measure => simp [RowKit.intOf]; omega
      · have f1 : (kind == 1) = false := by rw [beq_eq_false_iff_ne]; exact h1
        have f1' : (kind != 1) = true := by rw [bne, f1]; rfl
        have HV3 : Hid (V2 = (rs.drop 0).foldl (fun o r => addN o r.1) O) := Lib.hid (by rw [List.drop_zero, HVN.out h1])
        go_wp2_with fail
        have X5 := Lib.hid ((Ext.refl wo).alloc (.cells #[.int .i64 kind, .string sn, .slice r RN rc, .slice a AN ac, .slice b' BN bc] 56))
        have BX := Lib.hid (heap_alloc_new wo (.cells #[.int .i64 kind, .string sn, .slice r RN rc, .slice a AN ac, .slice b' BN bc] 56))
        have HQ := Lib.hid (hC.out.ext HN.out X5.out)
        have HTW := Lib.hid (HRW.out.below (Below.mono X5.out (Nat.le_trans HN.out hC.out.x.size)))
        have HLQ : Hid (ON ≤ k * 11 + 1 + 0) := Lib.hid (by omega)
        clear c0 c1 c2 c3 c4 hC OW HHAS HRW HV1 HVN
        go_loopw [3, 7] (fun ov j' wr => ∃ (m : Nat) (Om : List ByteArray) (oa : Option Addr) (oc ON : Nat), m ≤ RN ∧ j' = .int .i64 m ∧ ov = .slice oa ON oc ∧ Hid (ON = Om.length) ∧ Hid (ON ≤ k * 11 + 1 + m) ∧ Hid (V2 = (rs.drop m).foldl (fun o r => addN o r.1) Om) ∧ Hid (NamAt w n B2 C F g c Om (.slice oa ON oc) wr) ∧ Hid (wr.heap[wo.heap.size]? = some (.cells #[.int .i64 kind, .string sn, .slice r RN rc, .slice a AN ac, .slice b' BN bc] 56 (0, 0))) ∧ Hid (TwoAt n wr r rs)) (fun _ j' _ => RN - (RowKit.intOf j').toNat)
        case atStart => exact ⟨0, _, _, _, _, Nat.zero_le _, rfl, rfl, HON, HLQ, HV3, HQ, BX, HTW⟩
        case round =>
          clear HV3 HQ BX HTW HLQ X5 HON HLE
          obtain ⟨m, Om, oa, oc, ON, hm, rfl, rfl, HON, HLE, HB, HQ, BX, HTW⟩ := hrel
          obtain ⟨q0, q1, q2, q3, q4⟩ := cells5g BX.out
          have hle := HLE.out
          by_cases hlm : m < RN
          · have hmr : m < rs.length := by rw [← HRN.out]; exact hlm
            have hb := HB.out
            rw [List.drop_eq_getElem_cons hmr, List.foldl_cons] at hb
            obtain ⟨g1, o1, rfl, -, d0, -⟩ := HTW.out m hmr
            obtain ⟨s, hs⟩ : ∃ s, s = rs[m].1 := ⟨_, rfl⟩
            rw [← hs] at d0 hb
            obtain ⟨oa', oc', hov, hsi⟩ := own_strs HQ.out.own
            have hhas := has_any Om oa oc s wr (show StrIn wr oa Om by injection hov with e1 e2 e3; rw [e1]; exact hsi) (by have := HON.out; omega)
            rw [← HON.out] at hhas
            have OW : Hid (wr.ownsRow w.heap.size 9 1 (.slice oa ON oc) ON (strC Om)) := Lib.hid (by have h := HQ.out.own; rw [← HON.out] at h; exact h)
            have b0 : (0 : Int) ≤ (m : Int) := by omega
            have b1 : (m : Int) < (RN : Int) := by omega
            clear hs hov hsi HB
            by_cases hh : (Om.any fun q => decide (q = s)) = true
            · rw [addN_in hh] at hb
              rw [hh] at hhas
              have HB := Lib.hid hb; have HHAS := Lib.hid hhas
              clear hb hhas hh
              go_wp2_with (go_at_call 40; refine HHAS.out.mono ?_; rintro e w5 ⟨rfl, x5⟩; have X5 := Lib.hid x5; clear x5)
              go_roundw
              case rel => exact ⟨m + 1, Om, oa, oc, ON, by omega, by go_num, rfl, HON, Lib.hid (by omega), HB, Lib.hid (HQ.out.ext HN.out X5.out), Lib.hid (At.heap_ext BX.out X5.out), Lib.hid (HTW.out.below (Below.mono X5.out (Nat.le_trans HN.out HQ.out.x.size)))⟩
              case measure => simp [RowKit.intOf]; omega
            · have hh : (Om.any fun q => decide (q = s)) = false := Bool.eq_false_iff.2 hh
              rw [addN_new hh] at hb
              rw [hh] at hhas
              have HB := Lib.hid hb; have HHAS := Lib.hid hhas
              clear hb hhas hh
              go_wp2_with (first
                | (go_at_call 40; refine HHAS.out.mono ?_; rintro e w5 ⟨rfl, x5⟩; have X5 := Lib.hid x5; obtain ⟨q0, q1, q2, q3, q4⟩ := cells5g (At.heap_ext BX.out x5); have d0 := x5.cell d0; clear x5)
                | (at_builtin; refine wpList_append_lies _ rfl _ _ 37 rfl w.heap.size 9 i0 _ 1 16 Tryz.underlying37 hi hz0 hz1 hz2 rfl (by decide) _ _ _ rfl (At.own_ext OW.out (X5.out.alloc _)) ⟨w5.heap.size, 0, none⟩ 1 1 [.string s] rfl rfl ?c1 ?c2 (by decide) ?c3 ?c4 ?c5 _ rfl ?_))
              case c1 => exact fun j u hj => cell_new6 w5 [.string s] 9 j u hj
              case c2 => intro u hu; simp at hu; subst hu; rfl
              case c3 => unfold maxLen; omega
              case c4 => omega
              case c5 => have := HQ.out.x.size; have := X5.out.size; simp; omega
              intro g7 c7 w7 hown1 hgrow _ _
              have HQ7 : Hid (NamAt w n B2 C F g c (Om ++ [s]) (.slice (some ⟨g7, 0, none⟩) (ON + 1) c7) w7) := Lib.hid (by have h := HQ.out; rw [HON.out] at h hgrow hown1 ⊢; exact h.add HN.out (X5.out.alloc _) hgrow hown1)
              have BX7 := Lib.hid (HQ.out.keep (X5.out.alloc (.cells #[.string s] 9)) hgrow (At.heap_ext (At.heap_ext BX.out X5.out) ((Ext.refl _).alloc _)))
              have HTW7 := Lib.hid (HQ.out.two HN.out (X5.out.alloc (.cells #[.string s] 9)) hgrow HTW.out)
              have HON7 : Hid (ON + 1 = (Om ++ [s]).length) := Lib.hid (by rw [List.length_append, HON.out]; rfl)
              clear hown1 hgrow
              go_wp2_with fail
              go_roundw
              case rel => exact ⟨m + 1, Om ++ [s], _, _, ON + 1, by omega, by go_num, rfl, HON7, Lib.hid (by omega), HB, HQ7, BX7, HTW7⟩
              case measure => simp [RowKit.intOf]; omega
          · have hf : Hid (V2 = Om) := Lib.hid (by rw [HB.out, List.drop_eq_nil_of_le (by rw [← HRN.out]; omega)]; rfl)
            have b1 : ¬ (m : Int) < (RN : Int) := by omega
            clear HB
            go_wp2_with fail
            go_roundw
            case rel => exact ⟨k + 1, Om, oa, oc, ON, by omega, by go_num, rfl, HON, Lib.hid (by omega), Lib.hid (by rw [HST.out, hf.out]), HQ⟩
            case measure => simp [RowKit.intOf]; omega
    · have hf : Hid (V = O) := Lib.hid (by rw [HB.out, List.drop_eq_nil_of_le (by omega)]; rfl)
      clear HB
      obtain ⟨oa', oc', hov, hsi⟩ := own_strs hC.out.own
      have hsi2 : StrIn wr oa O := by injection hov with e1 e2 e3; rw [e1]; exact hsi
      have hon := HON.out
      subst hon
      go_wp2_with fail
      go_returns
      rw [hf.out]
      exact ⟨⟨oa, ⟨oc, rfl⟩, hsi2⟩, hC.out.x⟩
end Go.Proofs.YtnancphlkbfglaaGreatDoor.Nm
