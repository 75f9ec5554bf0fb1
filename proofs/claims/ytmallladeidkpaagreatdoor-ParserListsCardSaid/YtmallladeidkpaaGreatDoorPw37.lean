/- Packed texts: ParOpen, ParAwk, ParSame -/
import Derived.Test.YtmallladeidkpaaGreatDoorPw36
import Derived.Test.YtmallladeidkpaaGreatDoorPw33
import Derived.Test.YtmallladeidkpaaGreatDoorPw11
import Derived.SizedLaws
import Derived.Lib.SmallJoins
import Derived.Test.YtmallladeidkpaaGreatDoorPw25
import Derived.Test.YtmallladeidkpaaGreatDoorPw15
import Derived.Test.YtmallladeidkpaaGreatDoorPw12
import Derived.Deep.CutRange
import Derived.BigQuiet
set_option linter.unusedVariables false
set_option linter.unusedSimpArgs false
/- An argument that is a tree, or a list of attributes, opened: its texts are no longer than the form reaches. -/
namespace Go.Proofs.YtmallladeidkpaaGreatDoor.Pa
open Go.RowKit Go.Lib Fx Lx Tr Go.ChangeShapes Go.WideShapes Go.Deep

/-- The greatest size that the form reaches. -/
def reachN : Nat := 140737488351232
def SmallT (L : List Two) : Prop := ∀ q ∈ L, q.1.size ≤ reachN ∧ q.2.size ≤ reachN
def SmallS (x : Stm) : Prop := x.name.size ≤ reachN ∧ SmallT x.attrs ∧ SmallT x.refs
theorem weightsAll_of {H : Type} {P : Program} {e : TypeId} : ∀ {l : List (DataW H)} {d : DataW H}, d ∈ l → ∀ n ∈ d.weights P e, n ∈ DataW.weightsAll P e l
  | x :: r, d, hd, n, hn => by
    rw [DataW.weightsAll, List.mem_append]
    rcases List.mem_cons.1 hd with rfl | hd
    · exact .inl hn
    · exact .inr (weightsAll_of hd n hn)
theorem fs_ref : ∃ fs, Tryz.prog.underlying 51 = some (.struct fs) ∧ fs.toList.map (·.type) = [9, 9] := ⟨_, Tryz.underlying51, rfl⟩
theorem fs_attr : ∃ fs, Tryz.prog.underlying 61 = some (.struct fs) ∧ fs.toList.map (·.type) = [9, 9] := ⟨_, Tryz.underlying61, rfl⟩
theorem fs_stm : ∃ fs, Tryz.prog.underlying 44 = some (.struct fs) ∧ fs.toList.map (·.type) = [3, 9, 42, 35, 22] := ⟨_, Tryz.underlying44, rfl⟩
theorem fs_tree : ∃ fs, Tryz.prog.underlying 24 = some (.struct fs) ∧ fs.toList.map (·.type) = [9, 4, 22] := ⟨_, Tryz.underlying24, rfl⟩
theorem allL_of {p : Stm → Prop} : ∀ {L : List Stm}, (∀ s ∈ L, AllS p s) → AllL p L
  | [], _ => by rw [AllL]; trivial
  | x :: r, h => by rw [AllL]; exact ⟨h x (by simp), allL_of fun s hs => h s (by simp [hs])⟩
mutual
theorem allS_mem {p : Stm → Prop} (lev : Nat) : ∀ x : Stm, AllS p x → ∀ q ∈ flatS lev x, p q.1
  | .mk k n r a b, h, q, hq => by
    rw [AllS] at h
    rw [flatS] at hq
    rcases List.mem_cons.1 hq with rfl | hq
    · exact h.1
    · exact allL_mem _ b h.2 q hq
theorem allL_mem {p : Stm → Prop} (lev : Nat) : ∀ L : List Stm, AllL p L → ∀ q ∈ flatL lev L, p q.1
  | [], _, q, hq => by rw [flatL] at hq; cases hq
  | x :: r, h, q, hq => by
    rw [AllL] at h
    rw [flatL] at hq
    rcases List.mem_append.1 hq with hq | hq
    · exact allS_mem lev x h.1 q hq
    · exact allL_mem lev r h.2 q hq
end
theorem big_of {L : List Stm} (h : AllL SmallS L) : BigL L := fun p hp => by
  obtain ⟨h1, h2, h3⟩ := allL_mem 0 L h p hp
  unfold reachN at h1
  exact ⟨by omega, fun q hq => by have := h2 q hq; unfold reachN at this; omega, fun q hq => by have := h3 q hq; unfold reachN at this; omega⟩
section
variable {H : Type} {enc : TypeId × Value → H} {W : World} {base : Nat} {sp : Nat → Bool} {held : Bool}
set_option maxRecDepth 100000 in
theorem open_twosZ (t e : TypeId) (hu : Tryz.prog.underlying t = some (.slice e)) (hc2 : Tryz.prog.cellsOf e = 2) (hfs : ∃ fs, Tryz.prog.underlying e = some (.struct fs) ∧ fs.toList.map (·.type) = [9, 9])
    (ho : ∀ {n : Nat} {cs : List Value} {x : DataW H × List MemPlace}, DataW.trod enc Tryz.prog W base sp held n e cs = some x → ∃ (k v : ByteArray), cs = [.string k, .string v] ∧ x.1 = .agg [.lit (.string k.data.toList), .lit (.string v.data.toList)])
    {fuel : Nat} {cs : List Value} {x : DataW H × List MemPlace} (h : DataW.trod enc Tryz.prog W base sp held fuel t cs = some x) :
    ∃ (a : Option Addr) (L : List Two) (cap : Nat), cs = [.slice a L.length cap] ∧ TwoAt W.heap.size W a L ∧ L.length ≤ cap ∧ cap ≤ maxLen ∧ sizeTwo L ≤ Rows.uptoBulk x.1 ∧ ((∀ m ∈ x.1.weights Tryz.prog t, m ≤ reachN) → SmallT L) := by
  rcases open_slice hu h with ⟨rfl, rfl⟩ | ⟨a, len, cap, m, n, D, Pl, rfl, _, hl, hm, hmm, hxx, hx⟩
  · exact ⟨none, [], 0, rfl, (fun k h => absurd h (Nat.not_lt_zero _)), Nat.le_refl _, Nat.zero_le _, by simp [sizeTwo], fun _ q hq => by cases hq⟩
  · have hlm : len ≤ m := by rw [hmm]; split <;> omega
    rw [hc2] at hx
    have hone : ∀ i, i < len → ∃ q : Two, (q.1.size + q.2.size + 1 ≤ Rows.uptoBulk (D i) ∧ D i = .agg [.lit (.string q.1.data.toList), .lit (.string q.2.data.toList)]) ∧ ∃ g o, a = ⟨g, o, none⟩ ∧ W.cell? ⟨g, o + i * 2, none⟩ = some (.string q.1) ∧ W.cell? ⟨g, o + i * 2 + 1, none⟩ = some (.string q.2) := fun i hi => by
      obtain ⟨cs', h1, h2⟩ := hx i (by omega)
      obtain ⟨k, v, rfl, hd⟩ := ho h2
      obtain ⟨_, _, hc⟩ := World.cells?_some h1
      have c0 := hc 0 (by omega); have c1 := hc 1 (by omega)
      obtain ⟨g, o, spot⟩ := a
      have hspot : spot = none := by
        obtain ⟨cs0, q1, q2⟩ := hx 0 (by omega)
        obtain ⟨k0, v0, rfl, _⟩ := ho q2
        obtain ⟨_, _, hc0⟩ := World.cells?_some q1
        have h := World.cell?_spot (show W.cell? _ = some (.string k0) from hc0 0 (by omega))
        simpa [Addr.add] using h
      subst hspot
      rw [add_offk] at c0 c1
      have hd' : D i = .agg [.lit (.string k.data.toList), .lit (.string v.data.toList)] := hd
      refine ⟨(k, v), ⟨?_, hd'⟩, g, o, rfl, c0, c1⟩
      rw [hd']
      simp only [Rows.uptoBulk, Rows.uptoBulkAll]
      rw [← size_len, ← size_len]
      omega
    obtain ⟨F, hF⟩ := choose_lt (α := Two) hone
    refine ⟨some a, (List.range len).map F, cap, by simp, ?_, by simp; omega, hm, ?_, ?_⟩
    · intro k hk
      have hk' : k < len := by simpa using hk
      obtain ⟨_, g, o, rfl, c0, c1⟩ := hF k hk'
      exact ⟨g, o, rfl, lt_of_cell c0, by simpa using c0, by simpa using c1⟩
    · rw [hxx]
      simp only [Rows.uptoBulk]
      have := sizeTwo_map F D (List.range len) (fun i hi => (hF i (List.mem_range.1 hi)).1.1)
      omega
    · intro hz q hq
      obtain ⟨i, hi, rfl⟩ := List.mem_map.1 hq
      have hil := List.mem_range.1 hi
      have hd := (hF i hil).1.2
      have hw : ∀ z ∈ (D i).weights Tryz.prog e, z ≤ reachN := fun z hz2 => by
        refine hz z ?_
        rw [hxx, DataW.weights]
        simp only [hu, List.mem_cons, List.mem_append]
        exact .inr (.inl (weightsAll_of (List.mem_map.2 ⟨i, hi, rfl⟩) z hz2))
      rw [hd] at hw
      obtain ⟨fs, hus, hft⟩ := hfs
      rw [DataW.weights] at hw
      simp only [hus, hft, DataW.weightsEach, DataW.weights, List.append_nil, List.mem_append, List.mem_singleton] at hw
      have s1 := hw _ (.inl rfl)
      have s2 := hw _ (.inr rfl)
      rw [← size_len] at s1 s2
      exact ⟨s1, s2⟩
set_option maxRecDepth 100000 in
/-- A slice of statements. -/
theorem open_stmsZ : ∀ (M : Nat) {fuel : Nat} {cs : List Value} {x : DataW H × List MemPlace}, Rows.uptoBulk x.1 ≤ M → DataW.trod enc Tryz.prog W base sp held fuel 22 cs = some x →
    ∃ (b : Option Addr) (L : List Stm) (cap : Nat), cs = [.slice b L.length cap] ∧ StmsAt W.heap.size W b L ∧ L.length ≤ maxLen ∧ sizeL L ≤ Rows.uptoBulk x.1 ∧ ((∀ m ∈ x.1.weights Tryz.prog 22, m ≤ reachN) → AllL SmallS L)
  | 0, fuel, cs, x, hM, h => by
    rcases open_slice Tryz.underlying22 h with ⟨rfl, rfl⟩ | ⟨a, len, cap, m, n, D, Pl, rfl, _, hl, hm, hmm, hxx, hx⟩
    · simp [Rows.uptoBulk] at hM
    · rw [hxx] at hM; simp [Rows.uptoBulk] at hM
  | M + 1, fuel, cs, x, hM, h => by
    rcases open_slice Tryz.underlying22 h with ⟨rfl, rfl⟩ | ⟨a, len, cap, m, n, D, Pl, rfl, _, hl, hm, hmm, hxx, hx⟩
    · exact ⟨none, [], 0, rfl, by rw [StmsAt]; trivial, Nat.zero_le _, by simp [sizeL], fun _ => by rw [AllL]; trivial⟩
    · have hlm : len ≤ m := by rw [hmm]; split <;> omega
      rw [cStm] at hx
      have hbk : ∀ i, i < len → Rows.uptoBulk (D i) ≤ M := fun i hi => by
        have h1 := bulk_mem (List.mem_map.2 ⟨i, List.mem_range.2 hi, rfl⟩ : D i ∈ (List.range len).map D)
        rw [hxx] at hM
        simp only [Rows.uptoBulk] at hM
        omega
      have hone : ∀ i, i < len → ∃ s : Stm, (sizeS s ≤ Rows.uptoBulk (D i) ∧ ((∀ m ∈ (D i).weights Tryz.prog 44, m ≤ reachN) → AllS SmallS s)) ∧ ∃ g o, a = ⟨g, o, none⟩ ∧ g < W.heap.size ∧ StmAt W.heap.size W g (o + i * 5) s := fun i hi => by
        have hstm : ∀ {cs' : List Value} {y : DataW H × List MemPlace} {n : Nat}, Rows.uptoBulk y.1 ≤ M → DataW.trod enc Tryz.prog W base sp held n 44 cs' = some y →
            ∃ (k : Int) (nm : ByteArray) (r : Option Addr) (rs : List Two) (rc : Nat) (a : Option Addr) (al : List Two) (ac : Nat) (b : Option Addr) (body : List Stm) (bc : Nat), cs' = [.int .i64 k, .string nm, .slice r rs.length rc, .slice a al.length ac, .slice b body.length bc] ∧
              TwoAt W.heap.size W r rs ∧ TwoAt W.heap.size W a al ∧ StmsAt W.heap.size W b body ∧ rs.length ≤ rc ∧ al.length ≤ ac ∧ rc ≤ maxLen ∧ ac ≤ maxLen ∧ body.length ≤ maxLen ∧ sizeS (.mk k nm rs al body) ≤ Rows.uptoBulk y.1 ∧ ((∀ m ∈ y.1.weights Tryz.prog 44, m ≤ reachN) → AllS SmallS (.mk k nm rs al body)) := fun {cs' y n} hb h => by
          obtain ⟨xs, n', _, rfl, hlen, hxl, hg⟩ := DataW.trod_struct Tryz.underlying44 h
          rw [cStm] at hlen
          have hxl5 : xs.length = 5 := hxl
          clear hxl
          match cs', hlen with
          | [p0, p1, p2, p3, p4], _ =>
            obtain ⟨y0, y1, y2, y3, y4, rfl⟩ : ∃ y0 y1 y2 y3 y4, xs = [y0, y1, y2, y3, y4] := by
              match xs, hxl5 with
              | [y0, y1, y2, y3, y4], _ => exact ⟨y0, y1, y2, y3, y4, rfl⟩
            have g0 : DataW.trod enc Tryz.prog W base sp held n' 3 [p0] = some y0 := by simpa [cInt] using hg 0 _ rfl
            have g1 : DataW.trod enc Tryz.prog W base sp held n' 9 [p1] = some y1 := by simpa [cStr] using hg 1 _ rfl
            have g2 : DataW.trod enc Tryz.prog W base sp held n' 42 [p2] = some y2 := by simpa [cSl1] using hg 2 _ rfl
            have g3 : DataW.trod enc Tryz.prog W base sp held n' 35 [p3] = some y3 := by simpa [cSl2] using hg 3 _ rfl
            have g4 : DataW.trod enc Tryz.prog W base sp held n' 22 [p4] = some y4 := by simpa [cSl3] using hg 4 _ rfl
            obtain ⟨k, e0, r0, _⟩ := DataW.trod_int Tryz.underlying3 g0
            obtain ⟨nm, e1, r1, _⟩ := DataW.trod_string Tryz.underlying9 g1
            obtain ⟨r, rs, rc, e2, i2, l2, m2, s2, z2⟩ := open_twosZ 42 51 Tryz.underlying42 cRef fs_ref open_ref g2
            obtain ⟨a, al, ac, e3, i3, l3, m3, s3, z3⟩ := open_twosZ 35 61 Tryz.underlying35 cTwo fs_attr open_attr g3
            simp only [List.map_cons, List.map_nil, Rows.uptoBulk, Rows.uptoBulkAll] at hb
            obtain ⟨b, body, bc, e4, i4, m4, s4, z4⟩ := open_stmsZ M (by omega) g4
            simp only [List.cons.injEq, and_true] at e0 e1 e2 e3 e4
            subst e0; subst e1; subst e2; subst e3; subst e4; subst r0; subst r1
            refine ⟨k, nm, r, rs, rc, a, al, ac, b, body, bc, rfl, i2, i3, i4, l2, l3, m2, m3, m4, ?_, fun hw => ?_⟩
            · simp only [List.map_cons, List.map_nil, Rows.uptoBulk, Rows.uptoBulkAll, sizeS]
              rw [← size_len]
              omega
            · obtain ⟨fs, hus, hft⟩ := fs_stm
              rw [DataW.weights] at hw
              simp only [hus, hft, List.map_cons, List.map_nil, DataW.weightsEach, DataW.weights, List.append_nil, List.nil_append, List.mem_append, List.mem_singleton] at hw
              rw [AllS]
              refine ⟨⟨?_, ?_, ?_⟩, z4 fun m hm => hw m (.inr (.inr (.inr hm)))⟩
              · have s1 := hw _ (.inl rfl)
                rw [← size_len] at s1; exact s1
              · exact z3 fun m hm => hw m (.inr (.inr (.inl hm)))
              · exact z2 fun m hm => hw m (.inr (.inl hm))
        obtain ⟨cs', h1, h2⟩ := hx i (by omega)
        obtain ⟨k, nm, r, rs, rc, a', al, ac, b, body, bc, rfl, i2, i3, i4, l2, l3, m2, m3, m4, hsz, hzz⟩ := hstm (hbk i hi) h2
        obtain ⟨_, _, hc⟩ := World.cells?_some h1
        have c0 := hc 0 (by omega); have c1 := hc 1 (by omega); have c2 := hc 2 (by omega); have c3 := hc 3 (by omega); have c4 := hc 4 (by omega)
        obtain ⟨g, o, spot⟩ := a
        have hspot : spot = none := by
          obtain ⟨cs0, q1, q2⟩ := hx 0 (by omega)
          obtain ⟨k0, nm0, r0, rs0, rc0, a0, al0, ac0, b0, body0, bc0, rfl, _⟩ := hstm (hbk 0 (by omega)) q2
          obtain ⟨_, _, hc0⟩ := World.cells?_some q1
          have h := World.cell?_spot (show W.cell? _ = some (.int .i64 k0) from hc0 0 (by omega))
          simpa [Addr.add] using h
        subst hspot
        rw [add_offk] at c0 c1 c2 c3 c4
        refine ⟨.mk k nm rs al body, ⟨hsz, hzz⟩, g, o, rfl, lt_of_cell c1, ?_⟩
        rw [StmAt]
        exact ⟨r, rc, a', ac, b, bc, c0, c1, c2, c3, c4, i2, i3, i4, l2, l3, m2, m3, m4⟩
      obtain ⟨F, hF⟩ := choose_lt (α := Stm) hone
      refine ⟨some a, (List.range len).map F, cap, by simp, ?_, by simp; omega, ?_, ?_⟩
      · rcases Nat.eq_zero_or_pos len with h0 | h0
        · subst h0; rw [List.range_zero, List.map_nil, StmsAt]; trivial
        · obtain ⟨_, g, o, rfl, hg, _⟩ := hF 0 h0
          refine StmsAt.of g o _ hg fun k hk => ?_
          have hk' : k < len := by simpa using hk
          obtain ⟨_, g', o', e, _, r⟩ := hF k hk'
          injection e with e1 e2 _
          subst e1; subst e2
          simpa using r
      · rw [hxx]
        simp only [Rows.uptoBulk]
        have := sizeL_map F D (List.range len) (fun i hi => (hF i (List.mem_range.1 hi)).1.1)
        omega
      · intro hz
        refine allL_of fun s hs => ?_
        obtain ⟨i, hi, rfl⟩ := List.mem_map.1 hs
        refine (hF i (List.mem_range.1 hi)).1.2 fun m hm => hz m ?_
        rw [hxx, DataW.weights]
        have hu : Tryz.prog.underlying 22 = some (.slice 44) := Tryz.underlying22
        simp only [hu, List.mem_cons, List.mem_append]
        exact .inr (.inl (weightsAll_of (List.mem_map.2 ⟨i, hi, rfl⟩) m hm))
end
/-- What the walks take of an argument that is a tree. -/
def TreeArg (w : World) (v : Value) : Prop := ∃ nm dir b L cap, v = .agg #[.string nm, .bool dir, .slice b (List.length L) cap] ∧ StmsAt w.heap.size w b L ∧ L.length ≤ maxLen ∧ BigL L ∧ nm.size ≤ reachN
theorem cTree : Tryz.prog.cellsOf 24 = 3 := by kernel_rfl
set_option maxRecDepth 100000 in
theorem tree_arg {H : Type} {enc : TypeId × Value → H} {W : World} {r : Reach} {b base : Nat} {sp : Nat → Bool} {held : Bool} {v : Value} {d : DataW H} {p : List MemPlace}
    (hv : Value.okWide Tryz.prog W r b 24 v) (h : DataW.Trod enc Tryz.prog W base sp held 24 v d p) (hz : ∀ m ∈ d.weights Tryz.prog 24, m ≤ reachBytes) : TreeArg W v := by
  obtain ⟨v0, v1, v2, y0, y1, y2, n, rfl, rfl, rfl, h0, h1, h2⟩ := Go.Joins.open_agg3 Tryz.underlying24 (by kernel_rfl) cTree hv h
  have h0 : DataW.trod enc Tryz.prog W base sp held n 9 [v0] = some y0 := h0
  have h1 : DataW.trod enc Tryz.prog W base sp held n 4 [v1] = some y1 := h1
  have h2 : DataW.trod enc Tryz.prog W base sp held n 22 [v2] = some y2 := h2
  obtain ⟨nm, e0, r0, _⟩ := DataW.trod_string Tryz.underlying9 h0
  obtain ⟨dir, e1, r1⟩ := DataW.trod_bool Tryz.underlying4 h1
  obtain ⟨a, L, c, e2, i2, m2, _, z2⟩ := open_stmsZ _ (Nat.le_refl _) h2
  simp only [List.cons.injEq, and_true] at e0 e1 e2
  subst e0; subst e1; subst e2
  subst r0; subst r1
  obtain ⟨fs, hus, hft⟩ := fs_tree
  rw [DataW.weights] at hz
  simp only [hus, hft, DataW.weightsEach, DataW.weights, List.append_nil, List.nil_append, List.mem_append, List.mem_singleton] at hz
  refine ⟨nm, dir, a, L, c, rfl, i2, m2, big_of (z2 fun m hm => hz m (.inr hm)), ?_⟩
  have s1 := hz _ (.inl rfl)
  rw [← size_len] at s1; exact s1
/-- What the walks take of an argument that is a list of attributes. -/
def TwosArg (w : World) (v : Value) : Prop := ∃ a L cap, v = .slice a (List.length L) cap ∧ TwoAt w.heap.size w a L ∧ L.length ≤ cap ∧ cap ≤ maxLen ∧ SmallT L
set_option maxRecDepth 100000 in
theorem twos_arg {H : Type} {enc : TypeId × Value → H} {W : World} {r : Reach} {b base : Nat} {sp : Nat → Bool} {held : Bool} {v : Value} {d : DataW H} {p : List MemPlace}
    (hv : Value.okWide Tryz.prog W r b 35 v) (h : DataW.Trod enc Tryz.prog W base sp held 35 v d p) (hz : ∀ m ∈ d.weights Tryz.prog 35, m ≤ reachBytes) : TwosArg W v := by
  obtain ⟨a0, len, cap, rfl⟩ := okWide_slice Tryz.underlying35 hv
  obtain ⟨fuel, hf⟩ := h
  obtain ⟨a, L, c, hc, h1, h2, h3, _, hs⟩ := open_twosZ 35 61 Tryz.underlying35 cTwo fs_attr open_attr hf
  have e : Value.slice a0 len cap = .slice a L.length c := by simpa [Value.cells] using hc
  exact ⟨a, L, c, e, h1, h2, h3, hs hz⟩
end Go.Proofs.YtmallladeidkpaaGreatDoor.Pa

/- What awake returns. -/
namespace Go.Proofs.YtmallladeidkpaaGreatDoor.Pa
open Go.RowKit Go.Sort Go.Lib Go.Shelf Fx Lx Tr

/-- A tree that was handed back, as the document's functions take it. -/
theorem TreeV.parts {m : Nat} {t : Bool × ByteArray × List Stm} {u : Value} {w : World} (h : TreeV (m ≤ ·) t u w) : ∃ b cap, u = .agg #[.string t.2.1, .bool t.1, .slice b t.2.2.length cap] ∧ StmsAt w.heap.size w b t.2.2 := by
  obtain ⟨b, cap, rfl, hsp, _⟩ := h
  exact ⟨b, cap, rfl, StmsP.at (ok := (· < w.heap.size)) (fun g hg => hg) _ b (StmsP.keep (fun g _ _ => rfl) (fun g _ hl => hl) _ b hsp)⟩
def s1 : ByteArray := ⟨#[100, 105, 103, 114, 97, 112, 104, 32, 103, 32, 123, 32, 97, 58, 112, 32, 45, 62, 32, 98, 32, 45, 62, 32, 99, 32, 91, 119, 101, 105, 103, 104, 116, 61, 50, 93, 59, 32, 125]⟩
def s2 : ByteArray := ⟨#[103, 114, 97, 112, 104, 32, 103, 32, 123, 32, 97, 32, 45, 62, 32, 98, 59, 32, 125]⟩
def t1 : Bool × ByteArray × List Stm := (true, ⟨#[103]⟩, [.mk 2 ⟨#[]⟩ [(⟨#[97]⟩, ⟨#[112]⟩), (⟨#[98]⟩, ⟨#[]⟩), (⟨#[99]⟩, ⟨#[]⟩)] [(⟨#[119, 101, 105, 103, 104, 116]⟩, ⟨#[50]⟩)] []])
theorem src_one : pSrc s1.data.toList = .ok t1 [] := by kernel_rfl
theorem src_two : pSrc s2.data.toList = .err 1 4 := by kernel_rfl
/-- What awake reads of the first tree. -/
theorem awk_cells {n : Nat} {w1 : World} {b : Option Addr} (h : StmsP (n ≤ ·) w1 b t1.2.2) : ∃ g o h p, b = some ⟨g, o, none⟩ ∧ ∀ w2, Ext w1 w2 → w2.cell? ⟨g, o, none⟩ = some (.int .i64 2) ∧ (∃ rc, w2.cell? ⟨g, o + 2, none⟩ = some (.slice (some ⟨h, p, none⟩) 3 rc)) ∧ w2.cell? ⟨h, p + 1, none⟩ = some (.string ⟨#[112]⟩) := by
  unfold t1 at h
  rw [StmsP] at h
  obtain ⟨g, o, xs, hb, _, hc, hs, _⟩ := h
  rw [StmP] at hs
  obtain ⟨r, rc, a, ac, b', bc, hx, hr, _⟩ := hs
  obtain ⟨h, p, hrp, _, _, d1⟩ := hr 0 (by decide)
  subst hx
  refine ⟨g, o, h, p, hb, fun w2 x => ⟨x.cell (p := ⟨g, o, none⟩) (hc 0 _ rfl), ⟨rc, ?_⟩, x.cell (p := ⟨h, p + 1, none⟩) ?_⟩⟩
  · rw [← hrp]; exact x.cell (p := ⟨g, o + 2, none⟩) (hc 2 _ rfl)
  · simpa using d1
theorem awk_one (w : World) (he : Env w) : Calls Tryz.prog 10 #[.string s1] w fun e w1 =>
    (∃ g o h p c, e = .returned (.tuple #[.agg #[.string ⟨#[103]⟩, .bool true, .slice (some ⟨g, o, none⟩) 1 c], .int .i64 0, .int .i64 0]) ∧ ∀ w2, Ext w1 w2 → w2.cell? ⟨g, o, none⟩ = some (.int .i64 2) ∧ (∃ rc, w2.cell? ⟨g, o + 2, none⟩ = some (.slice (some ⟨h, p, none⟩) 3 rc)) ∧ w2.cell? ⟨h, p + 1, none⟩ = some (.string ⟨#[112]⟩)) ∧ Ext w w1 := by
  have h := parse_any s1 w (by decide) he
  rw [src_one] at h
  refine h.mono ?_
  rintro e w1 ⟨⟨u, rfl, b, c, rfl, hsp, _⟩, x1⟩
  obtain ⟨g, o, h, p, rfl, hcc⟩ := awk_cells hsp
  exact ⟨⟨g, o, h, p, c, rfl, hcc⟩, x1⟩
theorem awk_two (w : World) (he : Env w) : Calls Tryz.prog 10 #[.string s2] w fun e w' => e = .returned (.tuple #[.agg #[.string ⟨#[]⟩, .bool false, .slice none 0 0], .int .i64 1, .int .i64 4]) ∧ Ext w w' := by
  have h := parse_any s2 w (by decide) he
  rw [src_two] at h
  exact h
set_option maxHeartbeats 400000 in
set_option maxRecDepth 100000 in
theorem awake_any (w : World) (he : Env w) : Calls Tryz.prog 8 #[] w fun e w' => e = .returned (.bool true) ∧ Ext w w' := by
  have h1 := awk_one w he
  have h2 := fun w' (x : Ext w w') => awk_two w' (he.ext x)
  unfold s1 at h1
  unfold s2 at h2
  have H1 := Lib.hid h1; have H2 := Lib.hid h2
  clear h1 h2 he
  go_enter Tryz.func8, Tryz.ntmps8
  go_upto_region 3 with (first
    | (go_at_call 10; refine (H2.out _ (X1.out.trans ((Ext.refl _).alloc _))).mono ?_; rintro e w2 ⟨rfl, x2⟩; replace x2 := Lib.hid x2)
    | (go_at_call 10; refine H1.out.mono ?_; rintro e w1 ⟨⟨g, o, h, p, c, rfl, hcc⟩, x1⟩; have HCC := Lib.hid hcc; have X1 := Lib.hid x1; clear x1 hcc))
  have hx2 := x2.out
  obtain ⟨W2, hW2⟩ : ∃ W2, W2 = w2.alloc (.cells #[.string ⟨#[]⟩, .bool false, .slice none 0 0] 24) := ⟨_, rfl⟩
  have hxx : Ext w2 W2 := by rw [hW2]; exact (Ext.refl w2).alloc _
  rw [← hW2]
  obtain ⟨m0, m1, m2⟩ := tree_cells w1 ⟨#[103]⟩ true (some ⟨g, o, none⟩) 1 c W2 (hx2.trans hxx)
  obtain ⟨c0, ⟨rc, c2⟩, d1⟩ := HCC.out W2 ((((Ext.refl w1).alloc _).trans hx2).trans hxx)
  have XW := Lib.hid (((X1.out.trans ((Ext.refl w1).alloc _)).trans hx2).trans hxx)
  clear hx2 hxx hW2 HCC x2 H1 H2
  go_wp2
  go_returns
  exact ⟨rfl, XW.out⟩
end Go.Proofs.YtmallladeidkpaaGreatDoor.Pa

/- The document's SameAttrs, SameStmts and Same return true of equal lists and trees. -/
namespace Go.Proofs.YtmallladeidkpaaGreatDoor.Pa
open Go.RowKit Go.Sort Go.Lib Go.Shelf Fx Lx Tr

set_option maxHeartbeats 4000000 in
theorem sameA_any (a b : Option Addr) (L : List Two) (ca cb : Nat) (w : World) (ha : TwoIn w a L) (hb : TwoIn w b L) (hl : L.length ≤ 9223372036854775806) :
    Calls Tryz.prog 15 #[.slice a L.length ca, .slice b L.length cb] w fun e w' => e = .returned (.bool true) ∧ Ext w w' := by
  obtain ⟨N, hN⟩ : ∃ N, N = L.length := ⟨_, rfl⟩
  rw [← hN] at hl ⊢
  have HA := Lib.hid ha; have HB := Lib.hid hb; have HN := Lib.hid hN
  clear ha hb hN
  go_enter Tryz.func15, Tryz.ntmps15
  go_wp2_with fail
  go_loopw [5] (fun i' wr => ∃ k : Nat, k ≤ N ∧ i' = .int .i64 k ∧ Ext w wr) (fun i' _ => N - (RowKit.intOf i').toNat)
  case atStart => exact ⟨0, by omega, rfl, Ext.refl _⟩
  case round =>
    obtain ⟨k, hk, rfl, hx⟩ := hrel
    by_cases hlt : k < N
    · have hkl : k < L.length := by rw [← HN.out]; exact hlt
      obtain ⟨g, o, rfl, c0, c1⟩ := (HA.out.ext hx) k hkl
      obtain ⟨g2, o2, rfl, d0, d1⟩ := (HB.out.ext hx) k hkl
      generalize L[k] = q at *
      obtain ⟨q1, q2⟩ := q
      dsimp only at c0 c1 d0 d1
      go_wp2_with fail
      go_region
      all_goals
        go_wp2_with fail
        go_roundw
        case rel => exact ⟨k + 1, by omega, by go_num, hx.drew⟩
        case measure => simp [RowKit.intOf]; omega
    · go_wp2_with fail
      go_returns
      exact ⟨rfl, hx⟩
/-- The two statements that are compared, in variables of their own. -/
def PairAt (wr : World) (cs ds : Array Value) (s6 s7 : Value) (wx : World) : Prop :=
  ∃ g h, s6 = .pointer (some ⟨g, 0, none⟩) ∧ s7 = .pointer (some ⟨h, 0, none⟩) ∧ wx.heap[g]? = some (.cells cs 44 (0, 0)) ∧ wx.heap[h]? = some (.cells ds 44 (0, 0)) ∧ Ext wr wx
theorem pair_heap (w : World) (o1 o2 : Obj) : (((w.alloc o1).alloc o2).drew).heap[w.heap.size]? = some o1 ∧ (((w.alloc o1).alloc o2).drew).heap[w.heap.size + 1]? = some o2 := by
  have h2 := heap_alloc_new (w.alloc o1) o2
  rw [World.size_alloc] at h2
  exact ⟨(((Ext.refl (w.alloc o1)).alloc o2).block w.heap.size (by simp)).trans (heap_alloc_new w o1), h2⟩
theorem pair_cells {w : World} {g : Nat} {c0 c1 c2 c3 c4 : Value} (h : w.heap[g]? = some (.cells #[c0, c1, c2, c3, c4] 44 (0, 0))) : ∀ w', Ext w w' →
    w'.cell? ⟨g, 0, none⟩ = some c0 ∧ w'.cell? ⟨g, 1, none⟩ = some c1 ∧ w'.cell? ⟨g, 2, none⟩ = some c2 ∧ w'.cell? ⟨g, 3, none⟩ = some c3 ∧ w'.cell? ⟨g, 4, none⟩ = some c4 := fun w' x => by
  obtain ⟨h0, h1, h2, h3, h4, _⟩ := five_cells ((x.block g (Array.getElem?_eq_some_iff.1 h).1).trans h)
  exact ⟨h0, h1, h2, h3, h4⟩
set_option maxHeartbeats 4000000 in
set_option maxRecDepth 100000 in
theorem sameL_any : ∀ (K : Nat) (L : List Stm) (a b : Option Addr) (ca cb n : Nat) (w : World), sizeL L ≤ K → K ≤ 1048576 → n ≤ w.heap.size → StmsAt n w a L → StmsAt n w b L →
    Calls Tryz.prog 24 #[.slice a L.length ca, .slice b L.length cb] w fun e w' => e = .returned (.bool true) ∧ Ext w w' := by
  intro K
  induction K using Nat.strongRecOn with
  | _ K ih =>
  intro L a b ca cb n w hK hmax hn hL hM
  obtain ⟨N, hN⟩ : ∃ N, N = L.length := ⟨_, rfl⟩
  have hNM : N ≤ 1048576 := by have := sizeL_len L; omega
  rw [← hN]
  have HN := Lib.hid hN; have HL := Lib.hid hL; have HM := Lib.hid hM; have HK := Lib.hid hK; have HMX := Lib.hid hmax; have HNW := Lib.hid hn; have HIH := Lib.hid ih
  clear hN hL hM hK hmax hn ih
  go_enter Tryz.func24, Tryz.ntmps24
  go_wp2_with fail
  go_loopw [5] (fun i' wr => ∃ k : Nat, k ≤ N ∧ i' = .int .i64 k ∧ Ext w wr) (fun i' _ => N - (RowKit.intOf i').toNat)
  case atStart => exact ⟨0, by omega, rfl, Ext.refl _⟩
  case round =>
    obtain ⟨k, hk, rfl, hx⟩ := hrel
    by_cases hlt : k < N
    · have hkl : k < L.length := by rw [← HN.out]; exact hlt
      have hbn : Below n w wr := Below.mono hx HNW.out
      obtain ⟨g, o, rfl, hg, hst⟩ := StmsAt.at L (StmsAt.below hbn L HL.out) k hkl
      obtain ⟨g2, o2, rfl, hg2, hst2⟩ := StmsAt.at L (StmsAt.below hbn L HM.out) k hkl
      have hsz : sizeS L[k] ≤ K := Nat.le_trans (sizeL_at L k hkl) HK.out
      obtain ⟨s, hs⟩ : ∃ s, s = L[k] := ⟨_, rfl⟩
      rw [← hs] at hst hsz hst2
      clear hs
      obtain ⟨kind, nm, rs, al, body⟩ := s
      have hbd := sizeS_body (.mk kind nm rs al body)
      simp only [Stm.body, Stm.name, Stm.refs, Stm.attrs] at hbd
      rw [StmAt] at hst hst2
      obtain ⟨r, rc, a', atc, b', bc, c0, c1, c2, c3, c4, hr, ha, hbs, hl1, hl2, hl3, hl4, hl5⟩ := hst
      obtain ⟨r2, rc2, a2, atc2, b2, bc2, d0, d1, d2, d3, d4, hr2, ha2, hbs2, hm1, hm2, hm3, hm4, hm5⟩ := hst2
      have hwn : n ≤ wr.heap.size := Nat.le_trans HNW.out hx.size
      have hgw : g < wr.heap.size := by omega
      have hgw1 : g < wr.heap.size + 1 := by omega
      have hgx : g2 < wr.heap.size := by omega
      have hgx1 : g2 < wr.heap.size + 1 := by omega
      have hsb := fun w' (x : Ext wr w') => HIH.out (sizeL body) (by omega) body b' b2 bc bc2 n w' (Nat.le_refl _) (by have := HMX.out; omega) (by have h := x.size; omega) (StmsAt.below (Below.mono x hwn) body hbs) (StmsAt.below (Below.mono x hwn) body hbs2)
      have hsa := fun w' (x : Ext wr w') => sameA_any a' a2 al atc atc2 w' (ha.in.ext x) (ha2.in.ext x) (by have := sizeTwo_len al; have := HMX.out; omega)
      have hrr := hr.in
      have hrr2 := hr2.in
      have hRl : rs.length ≤ 1048576 := by have := sizeTwo_len rs; have := HMX.out; omega
      obtain ⟨R, hR⟩ : ∃ R, R = rs.length := ⟨_, rfl⟩
      rw [← hR] at c2 d2 hRl
      have HSB := Lib.hid hsb; have HSA := Lib.hid hsa; have HR1 := Lib.hid hrr; have HR2 := Lib.hid hrr2; have HRL := Lib.hid hR
      clear hbd hsz hr ha hbs hl1 hl2 hl3 hl4 hl5 hr2 ha2 hbs2 hm1 hm2 hm3 hm4 hm5 hg hg2 hbn hwn hsb hsa hrr hrr2 hR
      generalize al.length = A at *
      generalize body.length = B at *
      go_upto_region 6 with fail
      go_cut [6, 7] from 14 to 82 (fun s6 s7 wx => PairAt wr #[.int .i64 kind, .string nm, .slice r R rc, .slice a' A atc, .slice b' B bc] #[.int .i64 kind, .string nm, .slice r2 R rc2, .slice a2 A atc2, .slice b2 B bc2] s6 s7 wx)
      case first =>
        go_region
        · go_wp2_with fail
          go_meet
          case rel =>
            obtain ⟨e1, e2⟩ := pair_heap wr (.cells #[.int .i64 kind, .string nm, .slice r R rc, .slice a' A atc, .slice b' B bc] 44) (.cells #[.int .i64 kind, .string nm, .slice r2 R rc2, .slice a2 A atc2, .slice b2 B bc2] 44)
            exact ⟨_, _, rfl, rfl, e1, e2, (((Ext.refl wr).alloc _).alloc _).drew⟩
        · go_wp2_with fail
          go_meet
          case rel =>
            obtain ⟨e1, e2⟩ := pair_heap wr (.cells #[.int .i64 kind, .string nm, .slice r2 R rc2, .slice a2 A atc2, .slice b2 B bc2] 44) (.cells #[.int .i64 kind, .string nm, .slice r R rc, .slice a' A atc, .slice b' B bc] 44)
            exact ⟨_, _, rfl, rfl, e2, e1, (((Ext.refl wr).alloc _).alloc _).drew⟩
      case rest =>
        obtain ⟨g6, g7, rfl, rfl, k6, k7, x6⟩ := hcut
        have P6 := Lib.hid (pair_cells k6)
        have P7 := Lib.hid (pair_cells k7)
        obtain ⟨p0, p1, p2, p3, p4⟩ := P6.out _ (Ext.refl _)
        obtain ⟨q0, q1, q2, q3, q4⟩ := P7.out _ (Ext.refl _)
        clear k6 k7 c0 c1 c2 c3 c4 d0 d1 d2 d3 d4
        have X6 := Lib.hid x6
        clear x6
        go_wp2_with (first
          | (go_at_call 15; refine (HSA.out _ X6.out).mono ?_; rintro e w1 ⟨rfl, x1⟩; obtain ⟨p0, p1, p2, p3, p4⟩ := P6.out _ x1; obtain ⟨q0, q1, q2, q3, q4⟩ := P7.out _ x1; replace x1 := Lib.hid x1)
          | (go_at_call 24; refine (HSB.out _ (X6.out.trans x1.out)).mono ?_; rintro e w2 ⟨rfl, x2⟩; replace x2 := Lib.hid (x1.out.trans x2); clear p0 p1 p2 p3 p4 q0 q1 q2 q3 q4))
        go_loopw [8] (fun i' ws => ∃ m : Nat, m ≤ R ∧ i' = .int .i64 m ∧ Ext w2 ws) (fun i' _ => R - (RowKit.intOf i').toNat)
        case atStart => exact ⟨0, by omega, rfl, Ext.refl _⟩
        case round =>
          obtain ⟨m, hm, rfl, hy⟩ := hrel
          obtain ⟨p0, p1, p2, p3, p4⟩ := P6.out _ (x2.out.trans hy)
          obtain ⟨q0, q1, q2, q3, q4⟩ := P7.out _ (x2.out.trans hy)
          by_cases hmr : m < R
          · have hml : m < rs.length := by rw [← HRL.out]; exact hmr
            have hxx := (X6.out.trans x2.out).trans hy
            obtain ⟨gr, or, rfl, e0, e1⟩ := (HR1.out.ext hxx) m hml
            obtain ⟨gs, os, rfl, f0, f1⟩ := (HR2.out.ext hxx) m hml
            generalize rs[m] = q at *
            obtain ⟨t1, t2⟩ := q
            dsimp only at e0 e1 f0 f1
            clear hxx
            go_wp2_with fail
            go_region
            all_goals
              go_wp2_with fail
              go_roundw
              case rel => exact ⟨m + 1, by omega, by go_num, hy.drew⟩
              case measure => simp [RowKit.intOf]; omega
          · go_wp2_with fail
            go_roundw
            case rel => exact ⟨k + 1, by omega, by go_num, (hx.trans (X6.out.trans x2.out)).trans hy⟩
            case measure => simp [RowKit.intOf]; omega
    · go_wp2_with fail
      go_returns
      exact ⟨rfl, hx⟩
set_option maxHeartbeats 4000000 in
theorem sameT_any (nm : ByteArray) (d : Bool) (L : List Stm) (a b : Option Addr) (ca cb n : Nat) (w : World) (hs : sizeL L ≤ 1048576) (hn : n ≤ w.heap.size) (hL : StmsAt n w a L) (hM : StmsAt n w b L) :
    Calls Tryz.prog 11 #[.agg #[.string nm, .bool d, .slice a L.length ca], .agg #[.string nm, .bool d, .slice b L.length cb]] w fun e w' => e = .returned (.bool true) ∧ Ext w w' := by
  have hx : Ext w ((w.alloc (.cells #[.string nm, .bool d, .slice a L.length ca] 24)).alloc (.cells #[.string nm, .bool d, .slice b L.length cb] 24)) := ((Ext.refl w).alloc _).alloc _
  have hc := fun w' (x : Ext w w') => sameL_any 1048576 L a b ca cb n w' hs (Nat.le_refl _) (by have h := x.size; omega) (StmsAt.below (Below.mono x hn) L hL) (StmsAt.below (Below.mono x hn) L hM)
  obtain ⟨p0, p1, p2⟩ := tree_cells w nm d a L.length ca _ ((Ext.refl _).alloc (.cells #[.string nm, .bool d, .slice b L.length cb] 24))
  have hq := tree_cells (w.alloc (.cells #[.string nm, .bool d, .slice a L.length ca] 24)) nm d b L.length cb _ (Ext.refl _)
  rw [World.size_alloc] at hq
  obtain ⟨q0, q1, q2⟩ := hq
  generalize L.length = N at *
  have HC := Lib.hid hc; have HX := Lib.hid hx
  clear hc hx hs hn hL hM
  go_enter Tryz.func11, Tryz.ntmps11
  go_wp2_with (go_at_call 24; refine (HC.out _ HX.out).mono ?_; rintro e w3 ⟨rfl, x3⟩)
  go_returns
  exact ⟨rfl, HX.out.trans x3⟩
end Go.Proofs.YtmallladeidkpaaGreatDoor.Pa
