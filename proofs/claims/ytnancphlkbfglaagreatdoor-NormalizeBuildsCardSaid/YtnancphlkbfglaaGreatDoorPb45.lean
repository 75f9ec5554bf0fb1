/- Packed texts: NorSameG, NorGrL, TreOpen, ParOpen -/
import Derived.Test.YtnancphlkbfglaaGreatDoorPb16
import Derived.Deep.CutRange
import Derived.Test.YtnancphlkbfglaaGreatDoorPb22
import Derived.Test.YtnancphlkbfglaaGreatDoorPb42
import Derived.Test.YtnancphlkbfglaaGreatDoorRows
import Derived.Test.YtnancphlkbfglaaGreatDoorPb18
import Derived.Test.YtnancphlkbfglaaGreatDoorPb04
import Derived.ProofKit
import Derived.Deep.Slices
import Derived.OpenShut
import Derived.Test.YtnancphlkbfglaaGreatDoorPb39
import Derived.SizedLaws
import Derived.Lib.SmallJoins
set_option linter.unusedVariables false
set_option linter.unusedSimpArgs false
namespace Go.Proofs.YtnancphlkbfglaaGreatDoor.Nm
open Go.RowKit Go.Lib Fx Lx At
set_option maxHeartbeats 8000000 in
set_option maxRecDepth 100000 in
theorem same_true (g : Gr) (va vb : Value) (w : World) (ha : GrIn w va g) (hb : GrIn w vb g) (hN : g.N.length ≤ 1000000) (hE : g.E.length ≤ 1000000) (hC : g.C.length ≤ 1000000) (hP : ∀ x ∈ g.N, x.ports.length ≤ 1000000) :
    Calls Tryz.prog 12 #[va, vb] w fun e w' => e = .returned (.bool true) ∧ Ext w w' := by
  obtain ⟨na, nac, ea, eac, ca, cac, rfl, a1, a2, a3⟩ := ha
  obtain ⟨nb, nbc, eb, ebc, cb, cbc, rfl, b1, b2, b3⟩ := hb
  obtain ⟨nm, dir, NN, EE, CC⟩ := g
  dsimp only at *
  obtain ⟨n, hn⟩ : ∃ n, n = NN.length := ⟨_, rfl⟩
  obtain ⟨m, hm⟩ : ∃ n, n = EE.length := ⟨_, rfl⟩
  obtain ⟨q, hq⟩ : ∃ n, n = CC.length := ⟨_, rfl⟩
  rw [← hn] at hN ⊢; rw [← hm] at hE ⊢; rw [← hq] at hC ⊢
  have A1 := Lib.hid a1; have A2 := Lib.hid a2; have A3 := Lib.hid a3; have B1 := Lib.hid b1; have B2 := Lib.hid b2; have B3 := Lib.hid b3
  have HN := Lib.hid hn; have HM := Lib.hid hm; have HQ := Lib.hid hq; have HP := Lib.hid hP
  clear a1 a2 a3 b1 b2 b3 hn hm hq hP
  go_enter Tryz.func12, Tryz.ntmps12
  go_wp2
  obtain ⟨w1, hw1⟩ : ∃ w1, w1 = (w.alloc (.cells #[.string nm, .bool dir, .slice na n nac, .slice ea m eac, .slice ca q cac] 31)).alloc (.cells #[.string nm, .bool dir, .slice nb n nbc, .slice eb m ebc, .slice cb q cbc] 31) := ⟨_, rfl⟩
  have X1 : Hid (Ext ((w.alloc (.cells #[.string nm, .bool dir, .slice na n nac, .slice ea m eac, .slice ca q cac] 31)).alloc (.cells #[.string nm, .bool dir, .slice nb n nbc, .slice eb m ebc, .slice cb q cbc] 31)) w1) := Lib.hid (by rw [hw1]; exact Ext.refl _)
  have XW : Hid (Ext w w1) := Lib.hid ((((Ext.refl _).alloc _).alloc _).trans X1.out)
  rw [← hw1]
  clear hw1
  go_loopw [5] (fun i' wr => ∃ k : Nat, k ≤ n ∧ i' = .int .i64 k ∧ Ext w1 wr) (fun i' _ => n - (RowKit.intOf i').toNat)
  case atStart => exact ⟨0, Nat.zero_le _, rfl, Ext.refl _⟩
  case round =>
    obtain ⟨k, hk, rfl, hx⟩ := hrel
    obtain ⟨bA, bB⟩ := boxes (X1.out.trans hx)
    have e0 := bA 2 _ rfl
    have e1 := bB 2 _ rfl
    have e2 := bA 3 _ rfl
    have e3 := bB 3 _ rfl
    clear bA bB
    by_cases hlt : k < n
    · have hkN : k < NN.length := by rw [← HN.out]; exact hlt
      obtain ⟨g1, o1, p1, c1, rfl, x0, x1, x2, x3, x4, x5, x6⟩ := (A1.out.ext (XW.out.trans hx)) k hkN
      obtain ⟨g2, o2, p2, c2, rfl, y0, y1, y2, y3, y4, y5, y6⟩ := (B1.out.ext (XW.out.trans hx)) k hkN
      have hpl := HP.out _ (List.getElem_mem hkN)
      have SN := fun (w5 : World) (x : Ext wr w5) => sameNode_true NN[k].name NN[k].label NN[k].w NN[k].h NN[k].c NN[k].ports p1 p2 c1 c2 w5 (x6.ext x) (y6.ext x) (by omega)
      obtain ⟨z, hz⟩ : ∃ z, z = NN[k] := ⟨_, rfl⟩
      rw [← hz] at x0 x1 x2 x3 x4 x5 y0 y1 y2 y3 y4 y5 SN
      obtain ⟨z0, z1, z2, z3, z4, z5⟩ := z
      dsimp only at *
      obtain ⟨pl, hpl'⟩ : ∃ n, n = z5.length := ⟨_, rfl⟩
      rw [← hpl'] at x5 y5 SN
      have HSN := Lib.hid SN
      have b0 : (0 : Int) ≤ (k : Int) := by omega
      have b1 : (k : Int) < (n : Int) := by omega
      clear hz x6 y6 hpl SN hpl'
      go_wp2_with fail
      go_cut [65] from 47 to 65 (fun s65 wx => s65 = .bool false ∧ Hid (Ext wr wx))
      case first =>
        go_region_with (go_at_call 34; refine (HSN.out _ (by first | exact (Ext.refl _).drew | exact Ext.refl _)).mono ?_; rintro e w6 ⟨rfl, x6⟩)
        all_goals go_wp2
        all_goals go_meet
        all_goals exact ⟨rfl, Lib.hid (((Ext.refl _).drew).trans x6)⟩
      case rest =>
        obtain ⟨rfl, hxd⟩ := hcut
        have hx2 := hx.trans hxd.out
        go_wp2
        go_roundw
        case rel => exact ⟨k + 1, by omega, by go_num, hx2⟩
        case measure => simp [RowKit.intOf]; omega
    · have hx2 := Lib.hid hx
      clear hx
      obtain ⟨w2, hw2⟩ : ∃ w2 : World, w2 = wr := ⟨_, rfl⟩
      subst hw2
      go_wp2
      go_loopw [6] (fun i' wr => ∃ k : Nat, k ≤ m ∧ i' = .int .i64 k ∧ Ext w1 wr) (fun i' _ => m - (RowKit.intOf i').toNat)
      case atStart => exact ⟨0, Nat.zero_le _, rfl, hx2.out⟩
      case round =>
        clear e0 e1 e2 e3
        obtain ⟨j, hj, rfl, hx⟩ := hrel
        obtain ⟨bA, bB⟩ := boxes (X1.out.trans hx)
        have e2 := bA 3 _ rfl
        have e3 := bB 3 _ rfl
        have e4 := bA 4 _ rfl
        have e5 := bB 4 _ rfl
        clear bA bB
        by_cases hlj : j < m
        · have hjE : j < EE.length := by rw [← HM.out]; exact hlj
          obtain ⟨g1, o1, rfl, x0, x1, x2, x3, x4, x5, x6⟩ := (A2.out.ext (XW.out.trans hx)) j hjE
          obtain ⟨g2, o2, rfl, y0, y1, y2, y3, y4, y5, y6⟩ := (B2.out.ext (XW.out.trans hx)) j hjE
          obtain ⟨z, hz⟩ : ∃ z, z = EE[j] := ⟨_, rfl⟩
          rw [← hz] at x0 x1 x2 x3 x4 x5 x6 y0 y1 y2 y3 y4 y5 y6
          obtain ⟨z0, z1, z2, z3, z4, z5, z6⟩ := z
          dsimp only at *
          have b0 : (0 : Int) ≤ (j : Int) := by omega
          have b1 : (j : Int) < (m : Int) := by omega
          clear hz
          go_wp2_with fail
          go_quiet (fail)
          go_wp2
          go_roundw
          case rel => exact ⟨j + 1, by omega, by go_num, by first | exact hx.drewN _ | exact hx.drew⟩
          case measure => simp [RowKit.intOf]; omega
        · have hx3 := Lib.hid hx
          clear hx
          obtain ⟨w3, hw3⟩ : ∃ w3 : World, w3 = wr := ⟨_, rfl⟩
          subst hw3
          go_wp2
          go_loopw [7] (fun i' wr => ∃ k : Nat, k ≤ q ∧ i' = .int .i64 k ∧ Ext w1 wr) (fun i' _ => q - (RowKit.intOf i').toNat)
          case atStart => exact ⟨0, Nat.zero_le _, rfl, hx3.out⟩
          case round =>
            clear e2 e3 e4 e5
            obtain ⟨l, hl, rfl, hx⟩ := hrel
            obtain ⟨bA, bB⟩ := boxes (X1.out.trans hx)
            have e4 := bA 4 _ rfl
            have e5 := bB 4 _ rfl
            clear bA bB
            by_cases hll : l < q
            · have hlC : l < CC.length := by rw [← HQ.out]; exact hll
              obtain ⟨g1, o1, rfl, x0, x1⟩ := (A3.out.ext (XW.out.trans hx)) l hlC
              obtain ⟨g2, o2, rfl, y0, y1⟩ := (B3.out.ext (XW.out.trans hx)) l hlC
              obtain ⟨s, hs⟩ : ∃ s, s = CC[l].1 := ⟨_, rfl⟩
              obtain ⟨z, hz⟩ : ∃ z, z = CC[l].2 := ⟨_, rfl⟩
              rw [← hs] at x0 y0; rw [← hz] at x1 y1
              have b0 : (0 : Int) ≤ (l : Int) := by omega
              have b1 : (l : Int) < (q : Int) := by omega
              clear hs hz
              go_wp2_with fail
              go_quiet (fail)
              go_wp2
              go_roundw
              case rel => exact ⟨l + 1, by omega, by go_num, by first | exact hx.drewN _ | exact hx.drew⟩
              case measure => simp [RowKit.intOf]; omega
            · go_wp2
              go_ret
              exact ⟨rfl, XW.out.trans hx⟩
end Go.Proofs.YtnancphlkbfglaaGreatDoor.Nm

namespace Go.Proofs.YtnancphlkbfglaaGreatDoor.Nm
open Go.RowKit Go.Sort Go.Lib Go.Shelf Fx Lx Tr At
theorem cells5a {w : World} {g : Nat} {T : TypeId} {c0 c1 c2 c3 c4 : Value} (h : w.heap[g]? = some (.cells #[c0, c1, c2, c3, c4] T (0, 0))) (ob : Obj) :
    (w.alloc ob).cell? ⟨g, 0, none⟩ = some c0 ∧ (w.alloc ob).cell? ⟨g, 1, none⟩ = some c1 ∧ (w.alloc ob).cell? ⟨g, 2, none⟩ = some c2 ∧ (w.alloc ob).cell? ⟨g, 3, none⟩ = some c3 ∧ (w.alloc ob).cell? ⟨g, 4, none⟩ = some c4 := cells5g (At.heap_ext h ((Ext.refl w).alloc ob))
theorem gr0_sm : GrSm gr0 := by
  unfold GrSm
  refine ⟨by decide, by decide, by decide, by decide, ?_, ?_, ?_⟩ <;> (intro x hx; cases hx)
theorem few_bounds {L : List Stm} (h : fewB 0 L = true) : cntL L ≤ 1099511627776 ∧ ∀ p ∈ flatL 0 L, p.1.refs.length ≤ 10 ∧ p.1.attrs.length ≤ 20 := by
  have := few_flat h
  rw [cntL_flat] at this
  exact this
theorem buildR_ok {g : Gr} {e : Ending} {w : World} (h : BuildR (.ok g) e w) : ∃ n nc ed ec c cc, e = .returned (.tuple #[.agg #[.string g.name, .bool g.dir, .slice n g.N.length nc, .slice ed g.E.length ec, .slice c g.C.length cc], .int .i64 0]) ∧ GrIn w (.agg #[.string g.name, .bool g.dir, .slice n g.N.length nc, .slice ed g.E.length ec, .slice c g.C.length cc]) g ∧ GrSm g := by
  obtain ⟨v, rfl, h1, -, h3⟩ := h
  have h2 := h1
  obtain ⟨n, nc, e, ec, c, cc, rfl, -⟩ := h2
  exact ⟨n, nc, e, ec, c, cc, rfl, h1, h3⟩
theorem same_true' (g : Gr) (va vb : Value) (w : World) (ha : GrIn w va g) (hb : GrIn w vb g) (hs : GrSm g) : Calls Tryz.prog 12 #[va, vb] w fun e w' => e = .returned (.bool true) ∧ Ext w w' :=
  same_true g va vb w ha hb hs.2.1 hs.2.2.1 hs.2.2.2.1 (fun x hx => (hs.2.2.2.2.1 x hx).2.2.1)
end Go.Proofs.YtnancphlkbfglaaGreatDoor.Nm

namespace Go.Proofs.YtnancphlkbfglaaGreatDoor.Tr
open Go.RowKit Go.Lib Fx Lx Go.ChangeShapes Go.WideShapes Go.Deep
theorem cTwo : Tryz.prog.cellsOf 109 = 2 := by kernel_rfl
theorem cRef : Tryz.prog.cellsOf 58 = 2 := by kernel_rfl
theorem cStm : Tryz.prog.cellsOf 56 = 5 := by kernel_rfl
theorem cInt : Tryz.prog.cellsOf 3 = 1 := by kernel_rfl
theorem cStr : Tryz.prog.cellsOf 9 = 1 := by kernel_rfl
theorem cSl1 : Tryz.prog.cellsOf 53 = 1 := by kernel_rfl
theorem cSl2 : Tryz.prog.cellsOf 54 = 1 := by kernel_rfl
theorem cSl3 : Tryz.prog.cellsOf 22 = 1 := by kernel_rfl
theorem sizeTwo_map {H : Type} (F : Nat → Two) (D : Nat → DataW H) : ∀ l : List Nat, (∀ i ∈ l, (F i).1.size + (F i).2.size + 1 ≤ Rows.uptoBulk (D i)) → sizeTwo (l.map F) ≤ Rows.uptoBulkAll (l.map D)
  | [], _ => by simp [sizeTwo]
  | i :: r, h => by
    rw [List.map_cons, List.map_cons, sizeTwo, Rows.uptoBulkAll]
    have h1 := h i List.mem_cons_self
    have h2 := sizeTwo_map F D r (fun j hj => h j (List.mem_cons_of_mem _ hj))
    omega
theorem sizeL_map {H : Type} (F : Nat → Stm) (D : Nat → DataW H) : ∀ l : List Nat, (∀ i ∈ l, sizeS (F i) ≤ Rows.uptoBulk (D i)) → sizeL (l.map F) ≤ Rows.uptoBulkAll (l.map D)
  | [], _ => by simp [sizeL]
  | i :: r, h => by
    rw [List.map_cons, List.map_cons, sizeL, Rows.uptoBulkAll]
    have h1 := h i List.mem_cons_self
    have h2 := sizeL_map F D r (fun j hj => h j (List.mem_cons_of_mem _ hj))
    omega
theorem bulk_mem {H : Type} : ∀ {l : List (DataW H)} {d : DataW H}, d ∈ l → Rows.uptoBulk d ≤ Rows.uptoBulkAll l
  | x :: r, d, h => by
    rw [Rows.uptoBulkAll]
    rcases List.mem_cons.1 h with rfl | h
    · omega
    · have := bulk_mem h; omega
theorem add_offk (g o k j m : Nat) : ((⟨g, o, none⟩ : Addr).add (k * m)).add j = ⟨g, o + k * m + j, none⟩ := by
  simp only [Addr.add]
  by_cases h1 : k * m = 0
  · rw [h1]; by_cases h2 : j = 0 <;> simp [h2]
  · by_cases h2 : j = 0 <;> simp [h1, h2]
section
variable {H : Type} {enc : TypeId × Value → H} {W : World} {base : Nat} {sp : Nat → Bool} {held : Bool}
set_option maxRecDepth 100000 in
theorem open_attr {n : Nat} {cs : List Value} {x : DataW H × List MemPlace}
    (h : DataW.trod enc Tryz.prog W base sp held n 109 cs = some x) : ∃ (k v : ByteArray), cs = [.string k, .string v] ∧ x.1 = .agg [.lit (.string k.data.toList), .lit (.string v.data.toList)] := by
  obtain ⟨xs, n', _, rfl, hlen, hxl, hg⟩ := DataW.trod_struct Tryz.underlying109 h
  rw [cTwo] at hlen
  have hxl2 : xs.length = 2 := hxl
  clear hxl
  match cs, hlen with
  | [a, b], _ =>
    obtain ⟨y0, y1, rfl⟩ : ∃ y0 y1, xs = [y0, y1] := by
      match xs, hxl2 with
      | [y0, y1], _ => exact ⟨y0, y1, rfl⟩
    have h0 : DataW.trod enc Tryz.prog W base sp held n' 9 [a] = some y0 := by simpa [cStr] using hg 0 _ rfl
    have h1 : DataW.trod enc Tryz.prog W base sp held n' 9 [b] = some y1 := by simpa [cStr] using hg 1 _ rfl
    obtain ⟨k, e0, r0, _⟩ := DataW.trod_string Tryz.underlying9 h0
    obtain ⟨v, e1, r1, _⟩ := DataW.trod_string Tryz.underlying9 h1
    simp only [List.cons.injEq, and_true] at e0 e1
    subst e0; subst e1; subst r0; subst r1
    exact ⟨k, v, rfl, rfl⟩
set_option maxRecDepth 100000 in
theorem open_ref {n : Nat} {cs : List Value} {x : DataW H × List MemPlace}
    (h : DataW.trod enc Tryz.prog W base sp held n 58 cs = some x) : ∃ (k v : ByteArray), cs = [.string k, .string v] ∧ x.1 = .agg [.lit (.string k.data.toList), .lit (.string v.data.toList)] := by
  obtain ⟨xs, n', _, rfl, hlen, hxl, hg⟩ := DataW.trod_struct Tryz.underlying58 h
  rw [cRef] at hlen
  have hxl2 : xs.length = 2 := hxl
  clear hxl
  match cs, hlen with
  | [a, b], _ =>
    obtain ⟨y0, y1, rfl⟩ : ∃ y0 y1, xs = [y0, y1] := by
      match xs, hxl2 with
      | [y0, y1], _ => exact ⟨y0, y1, rfl⟩
    have h0 : DataW.trod enc Tryz.prog W base sp held n' 9 [a] = some y0 := by simpa [cStr] using hg 0 _ rfl
    have h1 : DataW.trod enc Tryz.prog W base sp held n' 9 [b] = some y1 := by simpa [cStr] using hg 1 _ rfl
    obtain ⟨k, e0, r0, _⟩ := DataW.trod_string Tryz.underlying9 h0
    obtain ⟨v, e1, r1, _⟩ := DataW.trod_string Tryz.underlying9 h1
    simp only [List.cons.injEq, and_true] at e0 e1
    subst e0; subst e1; subst r0; subst r1
    exact ⟨k, v, rfl, rfl⟩
theorem lt_of_cell {w : World} {g o : Nat} {v : Value} (h : w.cell? ⟨g, o, none⟩ = some v) : g < w.heap.size := World.block_lt_of_cell? _ _ h
instance : Inhabited Stm := ⟨.mk 0 ByteArray.empty [] [] []⟩
end
end Go.Proofs.YtnancphlkbfglaaGreatDoor.Tr

namespace Go.Proofs.YtnancphlkbfglaaGreatDoor.Pa
open Go.RowKit Go.Lib Fx Lx Tr Go.ChangeShapes Go.WideShapes Go.Deep
def reachN : Nat := 140737488351232
def SmallT (L : List Two) : Prop := ∀ q ∈ L, q.1.size ≤ reachN ∧ q.2.size ≤ reachN
def SmallS (x : Stm) : Prop := x.name.size ≤ reachN ∧ SmallT x.attrs ∧ SmallT x.refs
theorem weightsAll_of {H : Type} {P : Program} {e : TypeId} : ∀ {l : List (DataW H)} {d : DataW H}, d ∈ l → ∀ n ∈ d.weights P e, n ∈ DataW.weightsAll P e l
  | x :: r, d, hd, n, hn => by
    rw [DataW.weightsAll, List.mem_append]
    rcases List.mem_cons.1 hd with rfl | hd
    · exact .inl hn
    · exact .inr (weightsAll_of hd n hn)
theorem fs_ref : ∃ fs, Tryz.prog.underlying 58 = some (.struct fs) ∧ fs.toList.map (·.type) = [9, 9] := ⟨_, Tryz.underlying58, rfl⟩
theorem fs_attr : ∃ fs, Tryz.prog.underlying 109 = some (.struct fs) ∧ fs.toList.map (·.type) = [9, 9] := ⟨_, Tryz.underlying109, rfl⟩
theorem fs_stm : ∃ fs, Tryz.prog.underlying 56 = some (.struct fs) ∧ fs.toList.map (·.type) = [3, 9, 53, 54, 22] := ⟨_, Tryz.underlying56, rfl⟩
theorem fs_tree : ∃ fs, Tryz.prog.underlying 24 = some (.struct fs) ∧ fs.toList.map (·.type) = [9, 4, 22] := ⟨_, Tryz.underlying24, rfl⟩
theorem allL_of {p : Stm → Prop} : ∀ {L : List Stm}, (∀ s ∈ L, AllS p s) → AllL p L
  | [], _ => by rw [AllL]; trivial
  | x :: r, h => by rw [AllL]; exact ⟨h x (by simp), allL_of fun s hs => h s (by simp [hs])⟩
mutual
theorem allS_mem {p : Stm → Prop} (lev : Nat) : ∀ x : Stm, AllS p x → ∀ q ∈ flatS lev x, p q.1
  | .mk k n r a b, h, q, hq => by
    rw [AllS] at h
    rw [flatS] at hq
    rcases List.mem_cons.1 hq with rfl | hq
    · exact h.1
    · exact allL_mem _ b h.2 q hq
theorem allL_mem {p : Stm → Prop} (lev : Nat) : ∀ L : List Stm, AllL p L → ∀ q ∈ flatL lev L, p q.1
  | [], _, q, hq => by rw [flatL] at hq; cases hq
  | x :: r, h, q, hq => by
    rw [AllL] at h
    rw [flatL] at hq
    rcases List.mem_append.1 hq with hq | hq
    · exact allS_mem lev x h.1 q hq
    · exact allL_mem lev r h.2 q hq
end
theorem big_of {L : List Stm} (h : AllL SmallS L) : BigL L := fun p hp => by
  obtain ⟨h1, h2, h3⟩ := allL_mem 0 L h p hp
  unfold reachN at h1
  exact ⟨by omega, fun q hq => by have := h2 q hq; unfold reachN at this; omega, fun q hq => by have := h3 q hq; unfold reachN at this; omega⟩
section
variable {H : Type} {enc : TypeId × Value → H} {W : World} {base : Nat} {sp : Nat → Bool} {held : Bool}
set_option maxRecDepth 100000 in
theorem open_twosZ (t e : TypeId) (hu : Tryz.prog.underlying t = some (.slice e)) (hc2 : Tryz.prog.cellsOf e = 2) (hfs : ∃ fs, Tryz.prog.underlying e = some (.struct fs) ∧ fs.toList.map (·.type) = [9, 9])
    (ho : ∀ {n : Nat} {cs : List Value} {x : DataW H × List MemPlace}, DataW.trod enc Tryz.prog W base sp held n e cs = some x → ∃ (k v : ByteArray), cs = [.string k, .string v] ∧ x.1 = .agg [.lit (.string k.data.toList), .lit (.string v.data.toList)])
    {fuel : Nat} {cs : List Value} {x : DataW H × List MemPlace} (h : DataW.trod enc Tryz.prog W base sp held fuel t cs = some x) :
    ∃ (a : Option Addr) (L : List Two) (cap : Nat), cs = [.slice a L.length cap] ∧ TwoAt W.heap.size W a L ∧ L.length ≤ cap ∧ cap ≤ maxLen ∧ sizeTwo L ≤ Rows.uptoBulk x.1 ∧ ((∀ m ∈ x.1.weights Tryz.prog t, m ≤ reachN) → SmallT L) := by
  rcases open_slice hu h with ⟨rfl, rfl⟩ | ⟨a, len, cap, m, n, D, Pl, rfl, _, hl, hm, hmm, hxx, hx⟩
  · exact ⟨none, [], 0, rfl, (fun k h => absurd h (Nat.not_lt_zero _)), Nat.le_refl _, Nat.zero_le _, by simp [sizeTwo], fun _ q hq => by cases hq⟩
  · have hlm : len ≤ m := by rw [hmm]; split <;> omega
    rw [hc2] at hx
    have hone : ∀ i, i < len → ∃ q : Two, (q.1.size + q.2.size + 1 ≤ Rows.uptoBulk (D i) ∧ D i = .agg [.lit (.string q.1.data.toList), .lit (.string q.2.data.toList)]) ∧ ∃ g o, a = ⟨g, o, none⟩ ∧ W.cell? ⟨g, o + i * 2, none⟩ = some (.string q.1) ∧ W.cell? ⟨g, o + i * 2 + 1, none⟩ = some (.string q.2) := fun i hi => by
      obtain ⟨cs', h1, h2⟩ := hx i (by omega)
      obtain ⟨k, v, rfl, hd⟩ := ho h2
      obtain ⟨_, _, hc⟩ := World.cells?_some h1
      have c0 := hc 0 (by omega); have c1 := hc 1 (by omega)
      obtain ⟨g, o, spot⟩ := a
      have hspot : spot = none := by
        obtain ⟨cs0, q1, q2⟩ := hx 0 (by omega)
        obtain ⟨k0, v0, rfl, _⟩ := ho q2
        obtain ⟨_, _, hc0⟩ := World.cells?_some q1
        have h := World.cell?_spot (show W.cell? _ = some (.string k0) from hc0 0 (by omega))
        simpa [Addr.add] using h
      subst hspot
      rw [add_offk] at c0 c1
      have hd' : D i = .agg [.lit (.string k.data.toList), .lit (.string v.data.toList)] := hd
      refine ⟨(k, v), ⟨?_, hd'⟩, g, o, rfl, c0, c1⟩
      rw [hd']
      simp only [Rows.uptoBulk, Rows.uptoBulkAll]
      rw [← size_len, ← size_len]
      omega
    obtain ⟨F, hF⟩ := choose_lt (α := Two) hone
    refine ⟨some a, (List.range len).map F, cap, by simp, ?_, by simp; omega, hm, ?_, ?_⟩
    · intro k hk
      have hk' : k < len := by simpa using hk
      obtain ⟨_, g, o, rfl, c0, c1⟩ := hF k hk'
      exact ⟨g, o, rfl, lt_of_cell c0, by simpa using c0, by simpa using c1⟩
    · rw [hxx]
      simp only [Rows.uptoBulk]
      have := sizeTwo_map F D (List.range len) (fun i hi => (hF i (List.mem_range.1 hi)).1.1)
      omega
    · intro hz q hq
      obtain ⟨i, hi, rfl⟩ := List.mem_map.1 hq
      have hil := List.mem_range.1 hi
      have hd := (hF i hil).1.2
      have hw : ∀ z ∈ (D i).weights Tryz.prog e, z ≤ reachN := fun z hz2 => by
        refine hz z ?_
        rw [hxx, DataW.weights]
        simp only [hu, List.mem_cons, List.mem_append]
        exact .inr (.inl (weightsAll_of (List.mem_map.2 ⟨i, hi, rfl⟩) z hz2))
      rw [hd] at hw
      obtain ⟨fs, hus, hft⟩ := hfs
      rw [DataW.weights] at hw
      simp only [hus, hft, DataW.weightsEach, DataW.weights, List.append_nil, List.mem_append, List.mem_singleton] at hw
      have s1 := hw _ (.inl rfl)
      have s2 := hw _ (.inr rfl)
      rw [← size_len] at s1 s2
      exact ⟨s1, s2⟩
set_option maxRecDepth 100000 in
theorem open_stmsZ : ∀ (M : Nat) {fuel : Nat} {cs : List Value} {x : DataW H × List MemPlace}, Rows.uptoBulk x.1 ≤ M → DataW.trod enc Tryz.prog W base sp held fuel 22 cs = some x →
    ∃ (b : Option Addr) (L : List Stm) (cap : Nat), cs = [.slice b L.length cap] ∧ StmsAt W.heap.size W b L ∧ L.length ≤ maxLen ∧ sizeL L ≤ Rows.uptoBulk x.1 ∧ ((∀ m ∈ x.1.weights Tryz.prog 22, m ≤ reachN) → AllL SmallS L)
  | 0, fuel, cs, x, hM, h => by
    rcases open_slice Tryz.underlying22 h with ⟨rfl, rfl⟩ | ⟨a, len, cap, m, n, D, Pl, rfl, _, hl, hm, hmm, hxx, hx⟩
    · simp [Rows.uptoBulk] at hM
    · rw [hxx] at hM; simp [Rows.uptoBulk] at hM
  | M + 1, fuel, cs, x, hM, h => by
    rcases open_slice Tryz.underlying22 h with ⟨rfl, rfl⟩ | ⟨a, len, cap, m, n, D, Pl, rfl, _, hl, hm, hmm, hxx, hx⟩
    · exact ⟨none, [], 0, rfl, by rw [StmsAt]; trivial, Nat.zero_le _, by simp [sizeL], fun _ => by rw [AllL]; trivial⟩
    · have hlm : len ≤ m := by rw [hmm]; split <;> omega
      rw [cStm] at hx
      have hbk : ∀ i, i < len → Rows.uptoBulk (D i) ≤ M := fun i hi => by
        have h1 := bulk_mem (List.mem_map.2 ⟨i, List.mem_range.2 hi, rfl⟩ : D i ∈ (List.range len).map D)
        rw [hxx] at hM
        simp only [Rows.uptoBulk] at hM
        omega
      have hone : ∀ i, i < len → ∃ s : Stm, (sizeS s ≤ Rows.uptoBulk (D i) ∧ ((∀ m ∈ (D i).weights Tryz.prog 56, m ≤ reachN) → AllS SmallS s)) ∧ ∃ g o, a = ⟨g, o, none⟩ ∧ g < W.heap.size ∧ StmAt W.heap.size W g (o + i * 5) s := fun i hi => by
        have hstm : ∀ {cs' : List Value} {y : DataW H × List MemPlace} {n : Nat}, Rows.uptoBulk y.1 ≤ M → DataW.trod enc Tryz.prog W base sp held n 56 cs' = some y →
            ∃ (k : Int) (nm : ByteArray) (r : Option Addr) (rs : List Two) (rc : Nat) (a : Option Addr) (al : List Two) (ac : Nat) (b : Option Addr) (body : List Stm) (bc : Nat), cs' = [.int .i64 k, .string nm, .slice r rs.length rc, .slice a al.length ac, .slice b body.length bc] ∧
              TwoAt W.heap.size W r rs ∧ TwoAt W.heap.size W a al ∧ StmsAt W.heap.size W b body ∧ rs.length ≤ rc ∧ al.length ≤ ac ∧ rc ≤ maxLen ∧ ac ≤ maxLen ∧ body.length ≤ maxLen ∧ sizeS (.mk k nm rs al body) ≤ Rows.uptoBulk y.1 ∧ ((∀ m ∈ y.1.weights Tryz.prog 56, m ≤ reachN) → AllS SmallS (.mk k nm rs al body)) := fun {cs' y n} hb h => by
          obtain ⟨xs, n', _, rfl, hlen, hxl, hg⟩ := DataW.trod_struct Tryz.underlying56 h
          rw [cStm] at hlen
          have hxl5 : xs.length = 5 := hxl
          clear hxl
          match cs', hlen with
          | [p0, p1, p2, p3, p4], _ =>
            obtain ⟨y0, y1, y2, y3, y4, rfl⟩ : ∃ y0 y1 y2 y3 y4, xs = [y0, y1, y2, y3, y4] := by
              match xs, hxl5 with
              | [y0, y1, y2, y3, y4], _ => exact ⟨y0, y1, y2, y3, y4, rfl⟩
            have g0 : DataW.trod enc Tryz.prog W base sp held n' 3 [p0] = some y0 := by simpa [cInt] using hg 0 _ rfl
            have g1 : DataW.trod enc Tryz.prog W base sp held n' 9 [p1] = some y1 := by simpa [cStr] using hg 1 _ rfl
            have g2 : DataW.trod enc Tryz.prog W base sp held n' 53 [p2] = some y2 := by simpa [cSl1] using hg 2 _ rfl
            have g3 : DataW.trod enc Tryz.prog W base sp held n' 54 [p3] = some y3 := by simpa [cSl2] using hg 3 _ rfl
            have g4 : DataW.trod enc Tryz.prog W base sp held n' 22 [p4] = some y4 := by simpa [cSl3] using hg 4 _ rfl
            obtain ⟨k, e0, r0, _⟩ := DataW.trod_int Tryz.underlying3 g0
            obtain ⟨nm, e1, r1, _⟩ := DataW.trod_string Tryz.underlying9 g1
            obtain ⟨r, rs, rc, e2, i2, l2, m2, s2, z2⟩ := open_twosZ 53 58 Tryz.underlying53 cRef fs_ref open_ref g2
            obtain ⟨a, al, ac, e3, i3, l3, m3, s3, z3⟩ := open_twosZ 54 109 Tryz.underlying54 cTwo fs_attr open_attr g3
            simp only [List.map_cons, List.map_nil, Rows.uptoBulk, Rows.uptoBulkAll] at hb
            obtain ⟨b, body, bc, e4, i4, m4, s4, z4⟩ := open_stmsZ M (by omega) g4
            simp only [List.cons.injEq, and_true] at e0 e1 e2 e3 e4
            subst e0; subst e1; subst e2; subst e3; subst e4; subst r0; subst r1
            refine ⟨k, nm, r, rs, rc, a, al, ac, b, body, bc, rfl, i2, i3, i4, l2, l3, m2, m3, m4, ?_, fun hw => ?_⟩
            · simp only [List.map_cons, List.map_nil, Rows.uptoBulk, Rows.uptoBulkAll, sizeS]
              rw [← size_len]
              omega
            · obtain ⟨fs, hus, hft⟩ := fs_stm
              rw [DataW.weights] at hw
              simp only [hus, hft, List.map_cons, List.map_nil, DataW.weightsEach, DataW.weights, List.append_nil, List.nil_append, List.mem_append, List.mem_singleton] at hw
              rw [AllS]
              refine ⟨⟨?_, ?_, ?_⟩, z4 fun m hm => hw m (.inr (.inr (.inr hm)))⟩
              · have s1 := hw _ (.inl rfl)
                rw [← size_len] at s1; exact s1
              · exact z3 fun m hm => hw m (.inr (.inr (.inl hm)))
              · exact z2 fun m hm => hw m (.inr (.inl hm))
        obtain ⟨cs', h1, h2⟩ := hx i (by omega)
        obtain ⟨k, nm, r, rs, rc, a', al, ac, b, body, bc, rfl, i2, i3, i4, l2, l3, m2, m3, m4, hsz, hzz⟩ := hstm (hbk i hi) h2
        obtain ⟨_, _, hc⟩ := World.cells?_some h1
        have c0 := hc 0 (by omega); have c1 := hc 1 (by omega); have c2 := hc 2 (by omega); have c3 := hc 3 (by omega); have c4 := hc 4 (by omega)
        obtain ⟨g, o, spot⟩ := a
        have hspot : spot = none := by
          obtain ⟨cs0, q1, q2⟩ := hx 0 (by omega)
          obtain ⟨k0, nm0, r0, rs0, rc0, a0, al0, ac0, b0, body0, bc0, rfl, _⟩ := hstm (hbk 0 (by omega)) q2
          obtain ⟨_, _, hc0⟩ := World.cells?_some q1
          have h := World.cell?_spot (show W.cell? _ = some (.int .i64 k0) from hc0 0 (by omega))
          simpa [Addr.add] using h
        subst hspot
        rw [add_offk] at c0 c1 c2 c3 c4
        refine ⟨.mk k nm rs al body, ⟨hsz, hzz⟩, g, o, rfl, lt_of_cell c1, ?_⟩
        rw [StmAt]
        exact ⟨r, rc, a', ac, b, bc, c0, c1, c2, c3, c4, i2, i3, i4, l2, l3, m2, m3, m4⟩
      obtain ⟨F, hF⟩ := choose_lt (α := Stm) hone
      refine ⟨some a, (List.range len).map F, cap, by simp, ?_, by simp; omega, ?_, ?_⟩
      · rcases Nat.eq_zero_or_pos len with h0 | h0
        · subst h0; rw [List.range_zero, List.map_nil, StmsAt]; trivial
        · obtain ⟨_, g, o, rfl, hg, _⟩ := hF 0 h0
          refine StmsAt.of g o _ hg fun k hk => ?_
          have hk' : k < len := by simpa using hk
          obtain ⟨_, g', o', e, _, r⟩ := hF k hk'
          injection e with e1 e2 _
          subst e1; subst e2
          simpa using r
      · rw [hxx]
        simp only [Rows.uptoBulk]
        have := sizeL_map F D (List.range len) (fun i hi => (hF i (List.mem_range.1 hi)).1.1)
        omega
      · intro hz
        refine allL_of fun s hs => ?_
        obtain ⟨i, hi, rfl⟩ := List.mem_map.1 hs
        refine (hF i (List.mem_range.1 hi)).1.2 fun m hm => hz m ?_
        rw [hxx, DataW.weights]
        have hu : Tryz.prog.underlying 22 = some (.slice 56) := Tryz.underlying22
        simp only [hu, List.mem_cons, List.mem_append]
        exact .inr (.inl (weightsAll_of (List.mem_map.2 ⟨i, hi, rfl⟩) m hm))
end
def TreeArg (w : World) (v : Value) : Prop := ∃ nm dir b L cap, v = .agg #[.string nm, .bool dir, .slice b (List.length L) cap] ∧ StmsAt w.heap.size w b L ∧ L.length ≤ maxLen ∧ BigL L ∧ nm.size ≤ reachN
theorem cTree : Tryz.prog.cellsOf 24 = 3 := by kernel_rfl
set_option maxRecDepth 100000 in
theorem tree_arg {H : Type} {enc : TypeId × Value → H} {W : World} {r : Reach} {b base : Nat} {sp : Nat → Bool} {held : Bool} {v : Value} {d : DataW H} {p : List MemPlace}
    (hv : Value.okWide Tryz.prog W r b 24 v) (h : DataW.Trod enc Tryz.prog W base sp held 24 v d p) (hz : ∀ m ∈ d.weights Tryz.prog 24, m ≤ reachBytes) : TreeArg W v := by
  obtain ⟨v0, v1, v2, y0, y1, y2, n, rfl, rfl, rfl, h0, h1, h2⟩ := Go.Joins.open_agg3 Tryz.underlying24 (by kernel_rfl) cTree hv h
  have h0 : DataW.trod enc Tryz.prog W base sp held n 9 [v0] = some y0 := h0
  have h1 : DataW.trod enc Tryz.prog W base sp held n 4 [v1] = some y1 := h1
  have h2 : DataW.trod enc Tryz.prog W base sp held n 22 [v2] = some y2 := h2
  obtain ⟨nm, e0, r0, _⟩ := DataW.trod_string Tryz.underlying9 h0
  obtain ⟨dir, e1, r1⟩ := DataW.trod_bool Tryz.underlying4 h1
  obtain ⟨a, L, c, e2, i2, m2, _, z2⟩ := open_stmsZ _ (Nat.le_refl _) h2
  simp only [List.cons.injEq, and_true] at e0 e1 e2
  subst e0; subst e1; subst e2
  subst r0; subst r1
  obtain ⟨fs, hus, hft⟩ := fs_tree
  rw [DataW.weights] at hz
  simp only [hus, hft, DataW.weightsEach, DataW.weights, List.append_nil, List.nil_append, List.mem_append, List.mem_singleton] at hz
  refine ⟨nm, dir, a, L, c, rfl, i2, m2, big_of (z2 fun m hm => hz m (.inr hm)), ?_⟩
  have s1 := hz _ (.inl rfl)
  rw [← size_len] at s1; exact s1
end Go.Proofs.YtnancphlkbfglaaGreatDoor.Pa
