/- Packed texts: TreOpen, TreLawA, FixPost -/
import Derived.Test.YtnjnfkfmkbnkhaaGreatDoorRows
import Derived.Test.YtnjnfkfmkbnkhaaGreatDoorPa12
import Derived.Test.YtnjnfkfmkbnkhaaGreatDoorPa04
import Derived.ProofKit
import Derived.Deep.Slices
import Derived.OpenShut
import Derived.Test.YtnjnfkfmkbnkhaaGreatDoorPa29
import Derived.Test.YtnjnfkfmkbnkhaaGreatDoorPa02
set_option linter.unusedVariables false
set_option linter.unusedSimpArgs false
/- An argument that is a tree, opened; its bulk. -/
namespace Go.Proofs.YtnjnfkfmkbnkhaaGreatDoor.Tr
open Go.RowKit Go.Lib Fx Lx Go.ChangeShapes Go.WideShapes Go.Deep

theorem cTwo : Tryz.prog.cellsOf 30 = 2 := by kernel_rfl
theorem cRef : Tryz.prog.cellsOf 51 = 2 := by kernel_rfl
theorem cStm : Tryz.prog.cellsOf 47 = 5 := by kernel_rfl
theorem cInt : Tryz.prog.cellsOf 3 = 1 := by kernel_rfl
theorem cStr : Tryz.prog.cellsOf 9 = 1 := by kernel_rfl
theorem cSl1 : Tryz.prog.cellsOf 45 = 1 := by kernel_rfl
theorem cSl2 : Tryz.prog.cellsOf 28 = 1 := by kernel_rfl
theorem cSl3 : Tryz.prog.cellsOf 22 = 1 := by kernel_rfl
theorem sizeTwo_map {H : Type} (F : Nat → Two) (D : Nat → DataW H) : ∀ l : List Nat, (∀ i ∈ l, (F i).1.size + (F i).2.size + 1 ≤ Rows.uptoBulk (D i)) → sizeTwo (l.map F) ≤ Rows.uptoBulkAll (l.map D)
  | [], _ => by simp [sizeTwo]
  | i :: r, h => by
    rw [List.map_cons, List.map_cons, sizeTwo, Rows.uptoBulkAll]
    have h1 := h i List.mem_cons_self
    have h2 := sizeTwo_map F D r (fun j hj => h j (List.mem_cons_of_mem _ hj))
    omega
theorem sizeL_map {H : Type} (F : Nat → Stm) (D : Nat → DataW H) : ∀ l : List Nat, (∀ i ∈ l, sizeS (F i) ≤ Rows.uptoBulk (D i)) → sizeL (l.map F) ≤ Rows.uptoBulkAll (l.map D)
  | [], _ => by simp [sizeL]
  | i :: r, h => by
    rw [List.map_cons, List.map_cons, sizeL, Rows.uptoBulkAll]
    have h1 := h i List.mem_cons_self
    have h2 := sizeL_map F D r (fun j hj => h j (List.mem_cons_of_mem _ hj))
    omega
theorem bulk_mem {H : Type} : ∀ {l : List (DataW H)} {d : DataW H}, d ∈ l → Rows.uptoBulk d ≤ Rows.uptoBulkAll l
  | x :: r, d, h => by
    rw [Rows.uptoBulkAll]
    rcases List.mem_cons.1 h with rfl | h
    · omega
    · have := bulk_mem h; omega
theorem add_offk (g o k j m : Nat) : ((⟨g, o, none⟩ : Addr).add (k * m)).add j = ⟨g, o + k * m + j, none⟩ := by
  simp only [Addr.add]
  by_cases h1 : k * m = 0
  · rw [h1]; by_cases h2 : j = 0 <;> simp [h2]
  · by_cases h2 : j = 0 <;> simp [h1, h2]
section
variable {H : Type} {enc : TypeId × Value → H} {W : World} {base : Nat} {sp : Nat → Bool} {held : Bool}
set_option maxRecDepth 100000 in
theorem open_attr {n : Nat} {cs : List Value} {x : DataW H × List MemPlace}
    (h : DataW.trod enc Tryz.prog W base sp held n 30 cs = some x) : ∃ (k v : ByteArray), cs = [.string k, .string v] ∧ x.1 = .agg [.lit (.string k.data.toList), .lit (.string v.data.toList)] := by
  obtain ⟨xs, n', _, rfl, hlen, hxl, hg⟩ := DataW.trod_struct Tryz.underlying30 h
  rw [cTwo] at hlen
  have hxl2 : xs.length = 2 := hxl
  clear hxl
  match cs, hlen with
  | [a, b], _ =>
    obtain ⟨y0, y1, rfl⟩ : ∃ y0 y1, xs = [y0, y1] := by
      match xs, hxl2 with
      | [y0, y1], _ => exact ⟨y0, y1, rfl⟩
    have h0 : DataW.trod enc Tryz.prog W base sp held n' 9 [a] = some y0 := by simpa [cStr] using hg 0 _ rfl
    have h1 : DataW.trod enc Tryz.prog W base sp held n' 9 [b] = some y1 := by simpa [cStr] using hg 1 _ rfl
    obtain ⟨k, e0, r0, _⟩ := DataW.trod_string Tryz.underlying9 h0
    obtain ⟨v, e1, r1, _⟩ := DataW.trod_string Tryz.underlying9 h1
    simp only [List.cons.injEq, and_true] at e0 e1
    subst e0; subst e1; subst r0; subst r1
    exact ⟨k, v, rfl, rfl⟩
set_option maxRecDepth 100000 in
theorem open_ref {n : Nat} {cs : List Value} {x : DataW H × List MemPlace}
    (h : DataW.trod enc Tryz.prog W base sp held n 51 cs = some x) : ∃ (k v : ByteArray), cs = [.string k, .string v] ∧ x.1 = .agg [.lit (.string k.data.toList), .lit (.string v.data.toList)] := by
  obtain ⟨xs, n', _, rfl, hlen, hxl, hg⟩ := DataW.trod_struct Tryz.underlying51 h
  rw [cRef] at hlen
  have hxl2 : xs.length = 2 := hxl
  clear hxl
  match cs, hlen with
  | [a, b], _ =>
    obtain ⟨y0, y1, rfl⟩ : ∃ y0 y1, xs = [y0, y1] := by
      match xs, hxl2 with
      | [y0, y1], _ => exact ⟨y0, y1, rfl⟩
    have h0 : DataW.trod enc Tryz.prog W base sp held n' 9 [a] = some y0 := by simpa [cStr] using hg 0 _ rfl
    have h1 : DataW.trod enc Tryz.prog W base sp held n' 9 [b] = some y1 := by simpa [cStr] using hg 1 _ rfl
    obtain ⟨k, e0, r0, _⟩ := DataW.trod_string Tryz.underlying9 h0
    obtain ⟨v, e1, r1, _⟩ := DataW.trod_string Tryz.underlying9 h1
    simp only [List.cons.injEq, and_true] at e0 e1
    subst e0; subst e1; subst r0; subst r1
    exact ⟨k, v, rfl, rfl⟩
theorem lt_of_cell {w : World} {g o : Nat} {v : Value} (h : w.cell? ⟨g, o, none⟩ = some v) : g < w.heap.size := World.block_lt_of_cell? _ _ h

set_option maxRecDepth 100000 in
theorem open_twos (t e : TypeId) (hu : Tryz.prog.underlying t = some (.slice e)) (hc2 : Tryz.prog.cellsOf e = 2)
    (ho : ∀ {n : Nat} {cs : List Value} {x : DataW H × List MemPlace}, DataW.trod enc Tryz.prog W base sp held n e cs = some x → ∃ (k v : ByteArray), cs = [.string k, .string v] ∧ x.1 = .agg [.lit (.string k.data.toList), .lit (.string v.data.toList)])
    {fuel : Nat} {cs : List Value} {x : DataW H × List MemPlace} (h : DataW.trod enc Tryz.prog W base sp held fuel t cs = some x) :
    ∃ (a : Option Addr) (L : List Two) (cap : Nat), cs = [.slice a L.length cap] ∧ TwoAt W.heap.size W a L ∧ L.length ≤ cap ∧ cap ≤ maxLen ∧ sizeTwo L ≤ Rows.uptoBulk x.1 := by
  rcases open_slice hu h with ⟨rfl, rfl⟩ | ⟨a, len, cap, m, n, D, Pl, rfl, _, hl, hm, hmm, hxx, hx⟩
  · exact ⟨none, [], 0, rfl, (fun k h => absurd h (Nat.not_lt_zero _)), Nat.le_refl _, Nat.zero_le _, by simp [sizeTwo]⟩
  · have hlm : len ≤ m := by rw [hmm]; split <;> omega
    rw [hc2] at hx
    have hone : ∀ i, i < len → ∃ q : Two, q.1.size + q.2.size + 1 ≤ Rows.uptoBulk (D i) ∧ ∃ g o, a = ⟨g, o, none⟩ ∧ W.cell? ⟨g, o + i * 2, none⟩ = some (.string q.1) ∧ W.cell? ⟨g, o + i * 2 + 1, none⟩ = some (.string q.2) := fun i hi => by
      obtain ⟨cs', h1, h2⟩ := hx i (by omega)
      obtain ⟨k, v, rfl, hd⟩ := ho h2
      obtain ⟨_, _, hc⟩ := World.cells?_some h1
      have c0 := hc 0 (by omega); have c1 := hc 1 (by omega)
      obtain ⟨g, o, spot⟩ := a
      have hspot : spot = none := by
        obtain ⟨cs0, q1, q2⟩ := hx 0 (by omega)
        obtain ⟨k0, v0, rfl, _⟩ := ho q2
        obtain ⟨_, _, hc0⟩ := World.cells?_some q1
        have h := World.cell?_spot (show W.cell? _ = some (.string k0) from hc0 0 (by omega))
        simpa [Addr.add] using h
      subst hspot
      rw [add_offk] at c0 c1
      have hd' : D i = .agg [.lit (.string k.data.toList), .lit (.string v.data.toList)] := hd
      refine ⟨(k, v), ?_, g, o, rfl, c0, c1⟩
      rw [hd']
      simp only [Rows.uptoBulk, Rows.uptoBulkAll]
      rw [← size_len, ← size_len]
      omega
    obtain ⟨F, hF⟩ := choose_lt (α := Two) hone
    refine ⟨some a, (List.range len).map F, cap, by simp, ?_, by simp; omega, hm, ?_⟩
    · intro k hk
      have hk' : k < len := by simpa using hk
      obtain ⟨_, g, o, rfl, c0, c1⟩ := hF k hk'
      exact ⟨g, o, rfl, lt_of_cell c0, by simpa using c0, by simpa using c1⟩
    · rw [hxx]
      simp only [Rows.uptoBulk]
      have := sizeTwo_map F D (List.range len) (fun i hi => (hF i (List.mem_range.1 hi)).1)
      omega
instance : Inhabited Stm := ⟨.mk 0 ByteArray.empty [] [] []⟩
set_option maxRecDepth 100000 in
/-- A slice of statements. -/
theorem open_stms : ∀ (M : Nat) {fuel : Nat} {cs : List Value} {x : DataW H × List MemPlace}, Rows.uptoBulk x.1 ≤ M → DataW.trod enc Tryz.prog W base sp held fuel 22 cs = some x →
    ∃ (b : Option Addr) (L : List Stm) (cap : Nat), cs = [.slice b L.length cap] ∧ StmsAt W.heap.size W b L ∧ L.length ≤ maxLen ∧ sizeL L ≤ Rows.uptoBulk x.1
  | 0, fuel, cs, x, hM, h => by
    rcases open_slice Tryz.underlying22 h with ⟨rfl, rfl⟩ | ⟨a, len, cap, m, n, D, Pl, rfl, _, hl, hm, hmm, hxx, hx⟩
    · simp [Rows.uptoBulk] at hM
    · rw [hxx] at hM; simp [Rows.uptoBulk] at hM
  | M + 1, fuel, cs, x, hM, h => by
    rcases open_slice Tryz.underlying22 h with ⟨rfl, rfl⟩ | ⟨a, len, cap, m, n, D, Pl, rfl, _, hl, hm, hmm, hxx, hx⟩
    · exact ⟨none, [], 0, rfl, by rw [StmsAt]; trivial, Nat.zero_le _, by simp [sizeL]⟩
    · have hlm : len ≤ m := by rw [hmm]; split <;> omega
      rw [cStm] at hx
      have hbk : ∀ i, i < len → Rows.uptoBulk (D i) ≤ M := fun i hi => by
        have h1 := bulk_mem (List.mem_map.2 ⟨i, List.mem_range.2 hi, rfl⟩ : D i ∈ (List.range len).map D)
        rw [hxx] at hM
        simp only [Rows.uptoBulk] at hM
        omega
      have hone : ∀ i, i < len → ∃ s : Stm, sizeS s ≤ Rows.uptoBulk (D i) ∧ ∃ g o, a = ⟨g, o, none⟩ ∧ g < W.heap.size ∧ StmAt W.heap.size W g (o + i * 5) s := fun i hi => by
        have hstm : ∀ {cs' : List Value} {y : DataW H × List MemPlace} {n : Nat}, Rows.uptoBulk y.1 ≤ M → DataW.trod enc Tryz.prog W base sp held n 47 cs' = some y →
            ∃ (k : Int) (nm : ByteArray) (r : Option Addr) (rs : List Two) (rc : Nat) (a : Option Addr) (al : List Two) (ac : Nat) (b : Option Addr) (body : List Stm) (bc : Nat), cs' = [.int .i64 k, .string nm, .slice r rs.length rc, .slice a al.length ac, .slice b body.length bc] ∧
              TwoAt W.heap.size W r rs ∧ TwoAt W.heap.size W a al ∧ StmsAt W.heap.size W b body ∧ rs.length ≤ rc ∧ al.length ≤ ac ∧ rc ≤ maxLen ∧ ac ≤ maxLen ∧ body.length ≤ maxLen ∧ sizeS (.mk k nm rs al body) ≤ Rows.uptoBulk y.1 := fun {cs' y n} hb h => by
          obtain ⟨xs, n', _, rfl, hlen, hxl, hg⟩ := DataW.trod_struct Tryz.underlying47 h
          rw [cStm] at hlen
          have hxl5 : xs.length = 5 := hxl
          clear hxl
          match cs', hlen with
          | [p0, p1, p2, p3, p4], _ =>
            obtain ⟨y0, y1, y2, y3, y4, rfl⟩ : ∃ y0 y1 y2 y3 y4, xs = [y0, y1, y2, y3, y4] := by
              match xs, hxl5 with
              | [y0, y1, y2, y3, y4], _ => exact ⟨y0, y1, y2, y3, y4, rfl⟩
            have g0 : DataW.trod enc Tryz.prog W base sp held n' 3 [p0] = some y0 := by simpa [cInt] using hg 0 _ rfl
            have g1 : DataW.trod enc Tryz.prog W base sp held n' 9 [p1] = some y1 := by simpa [cStr] using hg 1 _ rfl
            have g2 : DataW.trod enc Tryz.prog W base sp held n' 45 [p2] = some y2 := by simpa [cSl1] using hg 2 _ rfl
            have g3 : DataW.trod enc Tryz.prog W base sp held n' 28 [p3] = some y3 := by simpa [cSl2] using hg 3 _ rfl
            have g4 : DataW.trod enc Tryz.prog W base sp held n' 22 [p4] = some y4 := by simpa [cSl3] using hg 4 _ rfl
            obtain ⟨k, e0, r0, _⟩ := DataW.trod_int Tryz.underlying3 g0
            obtain ⟨nm, e1, r1, _⟩ := DataW.trod_string Tryz.underlying9 g1
            obtain ⟨r, rs, rc, e2, i2, l2, m2, s2⟩ := open_twos 45 51 Tryz.underlying45 cRef open_ref g2
            obtain ⟨a, al, ac, e3, i3, l3, m3, s3⟩ := open_twos 28 30 Tryz.underlying28 cTwo open_attr g3
            simp only [List.map_cons, List.map_nil, Rows.uptoBulk, Rows.uptoBulkAll] at hb
            obtain ⟨b, body, bc, e4, i4, m4, s4⟩ := open_stms M (by omega) g4
            simp only [List.cons.injEq, and_true] at e0 e1 e2 e3 e4
            subst e0; subst e1; subst e2; subst e3; subst e4; subst r0; subst r1
            refine ⟨k, nm, r, rs, rc, a, al, ac, b, body, bc, rfl, i2, i3, i4, l2, l3, m2, m3, m4, ?_⟩
            simp only [List.map_cons, List.map_nil, Rows.uptoBulk, Rows.uptoBulkAll, sizeS]
            rw [← size_len]
            omega
        obtain ⟨cs', h1, h2⟩ := hx i (by omega)
        obtain ⟨k, nm, r, rs, rc, a', al, ac, b, body, bc, rfl, i2, i3, i4, l2, l3, m2, m3, m4, hsz⟩ := hstm (hbk i hi) h2
        obtain ⟨_, _, hc⟩ := World.cells?_some h1
        have c0 := hc 0 (by omega); have c1 := hc 1 (by omega); have c2 := hc 2 (by omega); have c3 := hc 3 (by omega); have c4 := hc 4 (by omega)
        obtain ⟨g, o, spot⟩ := a
        have hspot : spot = none := by
          obtain ⟨cs0, q1, q2⟩ := hx 0 (by omega)
          obtain ⟨k0, nm0, r0, rs0, rc0, a0, al0, ac0, b0, body0, bc0, rfl, _⟩ := hstm (hbk 0 (by omega)) q2
          obtain ⟨_, _, hc0⟩ := World.cells?_some q1
          have h := World.cell?_spot (show W.cell? _ = some (.int .i64 k0) from hc0 0 (by omega))
          simpa [Addr.add] using h
        subst hspot
        rw [add_offk] at c0 c1 c2 c3 c4
        refine ⟨.mk k nm rs al body, hsz, g, o, rfl, lt_of_cell c1, ?_⟩
        rw [StmAt]
        exact ⟨r, rc, a', ac, b, bc, c0, c1, c2, c3, c4, i2, i3, i4, l2, l3, m2, m3, m4⟩
      obtain ⟨F, hF⟩ := choose_lt (α := Stm) hone
      refine ⟨some a, (List.range len).map F, cap, by simp, ?_, by simp; omega, ?_⟩
      · rcases Nat.eq_zero_or_pos len with h0 | h0
        · subst h0; rw [List.range_zero, List.map_nil, StmsAt]; trivial
        · obtain ⟨_, g, o, rfl, hg, _⟩ := hF 0 h0
          refine StmsAt.of g o _ hg fun k hk => ?_
          have hk' : k < len := by simpa using hk
          obtain ⟨_, g', o', e, _, r⟩ := hF k hk'
          injection e with e1 e2 _
          subst e1; subst e2
          simpa using r
      · rw [hxx]
        simp only [Rows.uptoBulk]
        have := sizeL_map F D (List.range len) (fun i hi => (hF i (List.mem_range.1 hi)).1)
        omega
end
end Go.Proofs.YtnjnfkfmkbnkhaaGreatDoor.Tr

/- The law of Attrs, walked. -/
namespace Go.Proofs.YtnjnfkfmkbnkhaaGreatDoor.Tr
open Go.RowKit Go.Sort Go.Lib Go.Shelf Fx Lx Go.ChangeShapes Go.WideShapes Go.Deep

def TwosArg (w : World) (v : Value) : Prop := ∃ a L cap, v = .slice a (List.length L) cap ∧ TwoAt w.heap.size w a L ∧ L.length ≤ cap ∧ cap ≤ maxLen
set_option maxRecDepth 100000 in
theorem twos_arg {H : Type} {enc : TypeId × Value → H} {W : World} {r : Reach} {b base : Nat} {sp : Nat → Bool} {held : Bool} {v : Value} {d : DataW H} {p : List MemPlace}
    (hv : Value.okWide Tryz.prog W r b 28 v) (h : DataW.Trod enc Tryz.prog W base sp held 28 v d p) : TwosArg W v := by
  obtain ⟨a0, len, cap, rfl⟩ := okWide_slice Tryz.underlying28 hv
  obtain ⟨fuel, hf⟩ := h
  obtain ⟨a, L, c, hc, h1, h2, h3, _⟩ := open_twos 28 30 Tryz.underlying28 cTwo open_attr hf
  have e : Value.slice a0 len cap = .slice a L.length c := by simpa [Value.cells] using hc
  exact ⟨a, L, c, e, h1, h2, h3⟩
set_option maxHeartbeats 4000000 in
set_option maxRecDepth 100000 in
theorem attrs_walk (a : Option Addr) (L : List Two) (cap : Nat) (w : World) (h : TwoAt w.heap.size w a L) (hc : L.length ≤ cap) (hm : cap ≤ maxLen) (he : Env w) :
    Calls Tryz.prog 4 #[.slice a L.length cap] w fun e w' => e = .returned (.bool true) ∧ Ext w w' := by
  have hawk := fun w' (x : Ext w w') => awake_any w' (he.ext x)
  have HAWK := Lib.hid hawk
  by_cases h20 : 20 < L.length
  · have g1 : decide ((20 : Int) < L.length) = true := decide_eq_true (by omega)
    clear hawk h hc hm he h20
    generalize L.length = N at *
    go_enter Tryz.func4, Tryz.ntmps4
    go_wp2_with (go_at_call 8; refine (HAWK.out _ (Ext.refl _)).mono ?_; rintro e w1 ⟨rfl, x1⟩)
    go_returns
    exact ⟨rfl, x1⟩
  · have g1 : decide ((20 : Int) < L.length) = false := decide_eq_false (by omega)
    have hatt := fun (hs : ∀ q ∈ L, q.1.size ≤ 100 ∧ q.2.size ≤ 100) w' (x : Ext w w') => attrsP_any a L cap w' ((h.below x).mono x.size) hc hm (he.ext x) (by omega) hs
    have hatd := fun (hs : ∀ q ∈ L, q.1.size ≤ 100 ∧ q.2.size ≤ 100) w' (x : Ext w w') => attrsD_any a L cap w' ((h.below x).mono x.size) hc hm (by omega) hs
    obtain ⟨N, hN⟩ : ∃ N, N = L.length := ⟨_, rfl⟩
    rw [← hN] at hatt hatd g1 ⊢
    have hN20 : N ≤ 20 := by omega
    generalize bs (attrsT L) = P at *
    have HATT := Lib.hid hatt; have HATD := Lib.hid hatd; have HI := Lib.hid h; have HN := Lib.hid hN
    clear hatt hatd hawk h hc hm he h20 hN
    go_enter Tryz.func4, Tryz.ntmps4
    go_wp2_with fail
    go_loop [3] (fun i' => ∃ k : Nat, k ≤ N ∧ i' = .int .i64 k ∧ Hid (∀ i (hi : i < L.length), i < k → L[i].1.size ≤ 100 ∧ L[i].2.size ≤ 100)) (fun i' => N - (RowKit.intOf i').toNat)
    case atStart => exact ⟨0, by omega, rfl, Lib.hid (fun i _ h => absurd h (by omega))⟩
    case round =>
      obtain ⟨k, hk, rfl, hall⟩ := hrel
      by_cases hlt : k < N
      · have hkl : k < L.length := by rw [← HN.out]; exact hlt
        obtain ⟨g, o, rfl, _, c0, c1⟩ := HI.out k hkl
        obtain ⟨n, d, hq⟩ : ∃ n d, L[k] = (n, d) := ⟨_, _, rfl⟩
        rw [hq] at c0 c1
        by_cases h1 : n.size ≤ 100
        · have g2 : decide ((100 : Int) < n.size) = false := decide_eq_false (by omega)
          by_cases h2 : d.size ≤ 100
          · have g3 : decide ((100 : Int) < d.size) = false := decide_eq_false (by omega)
            have hf : Hid (∀ i (hi : i < L.length), i < k + 1 → L[i].1.size ≤ 100 ∧ L[i].2.size ≤ 100) := Lib.hid (fun i hi h => by
              by_cases e : i = k
              · subst e; rw [hq]; exact ⟨h1, h2⟩
              · exact hall.out i hi (by omega))
            clear hall hq h1 h2
            go_wp2_with fail
            go_round
            case rel => exact ⟨k + 1, by omega, by go_num, hf⟩
            case measure => simp [RowKit.intOf]; omega
          · have g3 : decide ((100 : Int) < d.size) = true := decide_eq_true (by omega)
            clear hall hq h1 h2
            go_wp2_with (go_at_call 8; refine (HAWK.out _ (Ext.refl _)).mono ?_; rintro e w1 ⟨rfl, x1⟩)
            go_returns
            exact ⟨rfl, x1⟩
        · have g2 : decide ((100 : Int) < n.size) = true := decide_eq_true (by omega)
          clear hall hq h1
          go_wp2_with (go_at_call 8; refine (HAWK.out _ (Ext.refl _)).mono ?_; rintro e w1 ⟨rfl, x1⟩)
          go_returns
          exact ⟨rfl, x1⟩
      · obtain rfl : k = N := by omega
        have hs : ∀ q ∈ L, q.1.size ≤ 100 ∧ q.2.size ≤ 100 := fun q hq => by
          obtain ⟨i, hi, rfl⟩ := List.getElem_of_mem hq
          exact hall.out i hi (by rw [HN.out]; exact hi)
        have HS := Lib.hid hs
        clear hall hs
        have g4 : (P.toList == P.toList) = true := by simp
        go_wp2_with (first | (go_at_call 11; refine (HATT.out HS.out _ (Ext.refl _)).mono ?_; rintro e w1 ⟨rfl, x1⟩) | (go_at_call 12; refine (HATD.out HS.out _ x1).mono ?_; rintro e w2 ⟨rfl, x2⟩) | (go_at_call 8; refine (HAWK.out _ (x1.trans x2)).mono ?_; rintro e w3 ⟨rfl, x3⟩))
        go_returns
        exact ⟨rfl, (x1.trans x2).trans x3⟩
theorem attrs_card (v : Value) (w : World) (hv : TwosArg w v) (he : Env w) : Calls Tryz.prog 4 #[v] w fun e w' => e = .returned (.bool true) ∧ Ext w w' := by
  obtain ⟨a, L, cap, rfl, h1, h2, h3⟩ := hv
  exact attrs_walk a L cap w h1 h2 h3 he
end Go.Proofs.YtnjnfkfmkbnkhaaGreatDoor.Tr

/- From a walk that leaves all old memory as it was to what a row asks behind the call. -/
namespace Go.Proofs.YtnjnfkfmkbnkhaaGreatDoor.Fx
open Go.ChangeShapes Go.WideShapes Go.ChangeAt Go.RowKit
section
variable {H : Type} {enc : TypeId × Value → H} {P : Program}
theorem post_ext {f : Func} {s : ChangeSpec} {apart fresh handsOn again : Bool} {W W' : World} {args : Array Value} {v : Value} {ds gs : List (DataW H)} {places pa pv : List MemPlace}
    (hW : DataW.Whole enc P f.params.toList s.vars apart W args.toList ds gs places)
    (results : ∀ (b : Nat) (sp : Nat → Bool) (hd : Bool), DataW.TrodAll enc P W' b sp hd f.resultTypes.toList (v.resultList f.resultTypes.size) (s.fn H (ds ++ gs)).results [])
    (arguments : ∀ sp : Nat → Bool, (∀ x ∈ places, sp x.block = true) → DataW.TrodAll enc P W' 0 sp true f.params.toList args.toList (s.fn H (ds ++ gs)).args pa)
    (variables : ∀ sp : Nat → Bool, (∀ x ∈ places, sp x.block = true) → DataW.TrodVars enc P W' sp s.vars (s.fn H (ds ++ gs)).vars pv)
    (split : places = pa ++ pv) (ext : Ext W W')
    (ok : ∀ (j : Nat) (t : TypeId) (r : Value), f.resultTypes[j]? = some t → (v.resultList f.resultTypes.size)[j]? = some r → Value.okWide P W' .any 0 t r) :
    s.post enc P f apart fresh handsOn again W args v W' := by
  subst split
  have low : ∀ x ∈ pa ++ pv, x.block < W.heap.size := fun x hx => hW.lt x hx
  have mark : ∀ x ∈ pa ++ pv, (fun b => decide (b < W.heap.size)) x.block = true := fun x hx => decide_eq_true (low x hx)
  have whole := hW
  obtain ⟨_, _, _, _, _, cold, once⟩ := hW
  refine ⟨ds, gs, pa ++ pv, [], pa, pv, whole, results _ _ _, arguments _ mark, variables _ mark, World.keptBut_mono (fun x hx => ⟨hx, by simpa using hx⟩) (Below.frame ext (· ∈ pa ++ pv)), fun _ => ⟨ok, _, _, [] ++ pa ++ pv, ⟨[] ++ pa, pv, trodAll_append (arguments _ fun _ _ => rfl) (results _ _ _), variables _ fun _ _ => rfl, rfl, fun b off hb => ?_, fun ha => ?_⟩, fun x hx _ => ?_⟩⟩
  · have at' : MemPlace.cell b off ∈ pa ++ pv := by simpa using hb
    rw [Below.frozen ext (low _ at')]
    exact cold b off at'
  · have := once ha; simpa using this
  · simpa using hx
end
end Go.Proofs.YtnjnfkfmkbnkhaaGreatDoor.Fx
