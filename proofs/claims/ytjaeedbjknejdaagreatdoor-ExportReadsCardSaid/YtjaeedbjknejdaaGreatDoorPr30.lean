/- Packed texts: ExpPrt, ExpRsu, LexBuild, LexCont -/
import Derived.Test.YtjaeedbjknejdaaGreatDoorPr23
set_option linter.unusedVariables false
set_option linter.unusedSimpArgs false
set_option maxHeartbeats 16000000
set_option maxRecDepth 100000
namespace Go.Proofs.YtjaeedbjknejdaaGreatDoor.Ex
open Go.Lib Fx Lx Tr At Go.Proofs.YtjaeedbjknejdaaGreatDoor.Nm
def opA (c : Prop) [Decidable c] (k v : ByteArray) : List Two := if c then [] else [(k, v)]
theorem op_sub (c : Prop) [Decidable c] (k v : ByteArray) : (opA c k v).Sublist [(k, v)] := by
  unfold opA; split
  · exact List.nil_sublist _
  exact List.Sublist.refl _
theorem nodeA_op (x : Nd) : nodeA x = opA (x.h = 10000) kHeight (fmtB x.h) ++ opA (x.label = x.name) kLabel x.label ++ opA (x.ports = []) kPorts (portsTx x.ports) ++ opA (x.w = 20000) kWidth (fmtB x.w) := rfl
theorem edgeA_op (x : Ed) : edgeA x = opA (x.label = ⟨#[]⟩) kLabel x.label ++ opA (x.len = 1) kLen (fmtB (1000 * x.len)) ++ opA (x.wt = 1) kWeight (fmtB (1000 * x.wt)) := rfl
end Go.Proofs.YtjaeedbjknejdaaGreatDoor.Ex

namespace Go.Proofs.YtjaeedbjknejdaaGreatDoor.Ex
open Go.Lib Fx Lx Tr At Go.Proofs.YtjaeedbjknejdaaGreatDoor.Nm
def opS (c : Prop) [Decidable c] (k v : ByteArray) : List Stm := if c then [] else [setS k v]
theorem optsL_op (o : Op5) : optsL o = opS (o.mode = 0) kMode (modeT o.mode) ++ opS (o.ns = 10000) kNs (fmtB o.ns) ++ opS (o.rs = 20000) kRs (fmtB o.rs) ++ opS (o.mg = 5000) kMg (fmtB o.mg) ++ opS (o.rd = 8) kRd (fmtB (1000 * o.rd)) := rfl
theorem opS_mem {c : Prop} [Decidable c] {k v : ByteArray} {x : Stm} (h : x ∈ opS c k v) : x = setS k v := by
  unfold opS at h
  split at h
  · cases h
  exact List.mem_singleton.1 h
end Go.Proofs.YtjaeedbjknejdaaGreatDoor.Ex

namespace Go.Proofs.YtjaeedbjknejdaaGreatDoor.Lx
open Go.RowKit Go.Shelf
theorem copyCheck_any (B b : Nat) (bs : List Value) (w : World) (h : Lib.IsBuilderF 150 5 B b bs w) :
    Calls Tryz.prog 236 #[.pointer (some ⟨b, 0, none⟩)] w fun e w' => e = .returned (.tuple #[]) /\ (Lib.BuilderAtF 150 5 B b (.pointer (some ⟨b, 0, none⟩)) bs w' /\ Below B w w' /\ Lib.OthersKept 5 (some b) w w') := by
  obtain ⟨j, hj, hjs⟩ : ∃ j, Tryz.prog.info? 150 = some j /\ j.size = 2 := Option.map_eq_some_iff.1 Tryz.Builder_Extra_169.sizeBuilder
  rcases h with h | h
  · have c0 := h.cell0
    have sh := h.shape
    have fz := h.frozen0
    have c0' : (w.setCell ⟨b, 0, none⟩ (.pointer (some ⟨b, 0, none⟩))).cell? ⟨b, 0, none⟩ = some (.pointer (some ⟨b, 0, none⟩)) := (h.used _).cell0
    go_enter Tryz.func236, Tryz.ntmps236
    go_wp2
    rw [Lib.run_to_unsafe w ⟨b, 0, none⟩ Tryz.underlying147 Tryz.underlying308 hj (by rw [hjs]; decide) sh (Nat.zero_lt_succ 1)]
    simp only [Result.andThen]
    rw [Oper.upon_value]
    go_wp2
    rw [run_callFunc_extern Tryz.func275 (by kernel_rfl) (by kernel_rfl) (by kernel_rfl) (e := Extern.AbiNoEscape.same) (by kernel_rfl)]
    rw [Lib.run_noEscape]
    simp only [Result.andThen]
    rw [Oper.upon_value]
    go_wp2
    rw [Lib.run_from_unsafe w ⟨b, 0, none⟩ Tryz.underlying308 Tryz.underlying147 hj sh Tryz.Builder_Extra_169.liesBuilder]
    simp only [Result.andThen]
    rw [Oper.upon_value]
    go_wp2
    go_end0
    exact ⟨rfl, h.used _, (Below.refl B w).setCell (p := ⟨b, 0, none⟩) h.1 _, (Lib.OthersKept.refl _ _ w).setCell ⟨b, 0, none⟩ rfl _⟩
  have c0 := h.cell0
  go_enter Tryz.func236, Tryz.ntmps236
  go_wp2
  rw [Lib.run_neq_ptr_same w _ Tryz.underlying147 hj]
  go_wp2
  go_end0
  exact ⟨rfl, h, Below.refl B _, Lib.OthersKept.refl _ _ _⟩
theorem writeByte_any (B b : Nat) (bs : List Value) (c : Int) (w : World) (h : Lib.IsBuilderF 150 5 B b bs w) (hlen : bs.length + 1 <= 140737488355328) (hBw : B <= w.heap.size) :
    Calls Tryz.prog 196 #[.pointer (some ⟨b, 0, none⟩), .int .u8 c] w fun e w' => e = .returned .nilIface /\ (Lib.IsBuilderF 150 5 B b (bs ++ [.int .u8 c]) w' /\ Below B w w' /\ Lib.OthersKept 5 (some b) w w') := by
  obtain ⟨i0, hi, hz0, hz1, hz2⟩ := info_parts Tryz.Builder_Extra_169.infoByte
  go_enter Tryz.func196, Tryz.ntmps196
  go_wp2_with fail
  refine (copyCheck_any B b bs _ h).mono ?_
  rintro e w1 ⟨rfl, h1, hb1, hk1⟩
  obtain ⟨hB, v, hbk, hown, hne⟩ := h1
  have c0 : w1.cell? ⟨b, 0, none⟩ = some (.pointer (some ⟨b, 0, none⟩)) := by rw [Lib.cell_of_heap hbk]; rfl
  have c1 : w1.cell? ⟨b, 1, none⟩ = some v := by rw [Lib.cell_of_heap hbk]; rfl
  go_wp2_with (at_builtin; refine wpList_append_ownF _ rfl _ _ 148 rfl B 5 i0 (.int .u8 0) 1 1 Tryz.underlying148 hi hz0 hz1 hz2 rfl (by decide) _ _ _ rfl (hown.alloc _) ⟨w1.heap.size, 0, none⟩ 1 1 [.int .u8 c] rfl rfl ?c1 ?c2 ?c3 ?c4 ?c5 ?_)
  case c1 =>
    intro j u hj
    match j, hj with
    | 0, hj => simp at hj; subst hj; simp [Addr.add]
  case c2 => intro u hu; simp at hu; subst hu; rfl
  case c3 => unfold maxLen; omega
  case c4 => omega
  case c5 => have := hb1.size; simp; omega
  intro v' w2 hown' hgrow _
  have hlt : b < w1.heap.size := by
    rcases Nat.lt_or_ge b w1.heap.size with h' | h'
    · exact h'
    simp [Array.getElem?_eq_none h'] at hbk
  have hb2 : w2.heap[b]? = some (.cells #[.pointer (some ⟨b, 0, none⟩), v] 150 (0, 0)) := by
    rw [hgrow.block b (by simp; omega) (fun e => hne e.symm), Lib.alloc_old w1 _ b hlt]
    exact hbk
  have d0 : w2.cell? ⟨b, 0, none⟩ = some (.pointer (some ⟨b, 0, none⟩)) := by rw [Lib.cell_of_heap hb2]; rfl
  have d1 : w2.cell? ⟨b, 1, none⟩ = some v := by rw [Lib.cell_of_heap hb2]; rfl
  have f1 : w2.frozen? ⟨b, 1, none⟩ = false := Lib.frozen_of_heap hb2 1
  obtain ⟨g, cap, rfl⟩ : ∃ g cap, v' = .slice (some ⟨g, 0, none⟩) (bs.length + 1) cap := by
    rcases hown'.2 with ⟨_, h0⟩ | ⟨g, cap, cur, fz, hv, _⟩
    · omega
    exact ⟨g, cap, hv⟩
  go_wp2
  go_ret
  refine ⟨rfl, .inr ?_, ?_, ((hk1.alloc _).grown hgrow (Lib.ownsRowF_kind (hown.alloc _))).setCell ⟨b, 1, none⟩ rfl _⟩
  · exact Lib.BuilderAtF.put (T := 150) (e := 5) hB hb2 (bs' := bs ++ [.int .u8 c]) (by simpa using hown') Tryz.Builder_Extra_169.neB5
  exact ((hb1.alloc (by have := hb1.size; omega) _).grown hgrow (by have := hb1.size; simp; omega) (fun k hk => (hown.lt k hk).1)).setCell (p := ⟨b, 1, none⟩) hB _
end Go.Proofs.YtjaeedbjknejdaaGreatDoor.Lx

namespace Go.Proofs.YtjaeedbjknejdaaGreatDoor.Lx
open Go.RowKit Go.Sort Go.Lib Go.Shelf Fx
theorem cont_ways (esc : Bool) (acc : List UInt8) (i : Nat) (c : UInt8) (r : List UInt8) (T : List UInt8 × Nat × Int) (h : T = contents esc acc i (c :: r)) :
    (c.toNat = 10 /\ Hid (T = ([], 0, 3))) \/
    (c.toNat ≠ 10 /\ 126 < c.toNat /\ Hid (T = ([], 0, 4))) \/
    (c.toNat ≠ 10 /\ c.toNat < 32 /\ Hid (T = ([], 0, 4))) \/
    (esc = true /\ 32 <= c.toNat /\ c.toNat <= 126 /\ c.toNat ≠ 34 /\ c.toNat ≠ 92 /\ Hid (T = ([], 0, 4))) \/
    (esc = false /\ c.toNat = 34 /\ Hid (T = (acc, i + 1, 0))) \/
    (esc = false /\ c.toNat = 92 /\ Hid (T = contents true acc (i + 1) r)) \/
    (32 <= c.toNat /\ c.toNat <= 126 /\ (esc = true -> c.toNat = 34 \/ c.toNat = 92) /\ (esc = false -> c.toNat ≠ 34 /\ c.toNat ≠ 92) /\ 32 < acc.length + 1 /\ Hid (T = ([], 0, 2))) \/
    (32 <= c.toNat /\ c.toNat <= 126 /\ (esc = true -> c.toNat = 34 \/ c.toNat = 92) /\ (esc = false -> c.toNat ≠ 34 /\ c.toNat ≠ 92) /\ acc.length + 1 <= 32 /\ Hid (T = contents false (acc ++ [c]) (i + 1) r)) := by
  unfold contents at h
  by_cases h1 : c.toNat = 10
  · rw [if_pos h1] at h; exact .inl ⟨h1, Lib.hid h⟩
  rw [if_neg h1] at h
  by_cases h2 : 126 < c.toNat
  · rw [if_pos (by simp [h2])] at h; exact .inr (.inl ⟨h1, h2, Lib.hid h⟩)
  by_cases h3 : c.toNat < 32
  · rw [if_pos (by simp [h3])] at h; exact .inr (.inr (.inl ⟨h1, h3, Lib.hid h⟩))
  have k2 : decide (c.toNat < 32) = false := by simp; omega
  have k3 : decide (126 < c.toNat) = false := by simp; omega
  rw [k2, k3] at h
  cases esc
  · simp only [Bool.false_and, Bool.or_false, Bool.false_eq_true, if_false, Bool.not_false, Bool.true_and] at h
    by_cases h4 : c.toNat = 34
    · rw [if_pos (by simp [h4])] at h; exact .inr (.inr (.inr (.inr (.inl ⟨rfl, h4, Lib.hid h⟩))))
    rw [if_neg (by simp [h4])] at h
    by_cases h5 : c.toNat = 92
    · rw [if_pos (by simp [h5])] at h; exact .inr (.inr (.inr (.inr (.inr (.inl ⟨rfl, h5, Lib.hid h⟩)))))
    rw [if_neg (by simp [h5])] at h
    by_cases h6 : 32 < acc.length + 1
    · rw [if_pos h6] at h; exact .inr (.inr (.inr (.inr (.inr (.inr (.inl ⟨by omega, by omega, fun x => by simp at x, fun _ => ⟨h4, h5⟩, h6, Lib.hid h⟩))))))
    rw [if_neg h6] at h; exact .inr (.inr (.inr (.inr (.inr (.inr (.inr ⟨by omega, by omega, fun x => by simp at x, fun _ => ⟨h4, h5⟩, by omega, Lib.hid h⟩))))))
  simp only [Bool.true_and, Bool.or_false, Bool.not_true, Bool.false_and, Bool.false_eq_true, if_false] at h
  by_cases h4 : c.toNat = 34
  · rw [if_neg (by simp [h4])] at h
    by_cases h6 : 32 < acc.length + 1
    · rw [if_pos h6] at h; exact .inr (.inr (.inr (.inr (.inr (.inr (.inl ⟨by omega, by omega, fun _ => .inl h4, fun x => by simp at x, h6, Lib.hid h⟩))))))
    rw [if_neg h6] at h; exact .inr (.inr (.inr (.inr (.inr (.inr (.inr ⟨by omega, by omega, fun _ => .inl h4, fun x => by simp at x, by omega, Lib.hid h⟩))))))
  by_cases h5 : c.toNat = 92
  · rw [if_neg (by simp [h5])] at h
    by_cases h6 : 32 < acc.length + 1
    · rw [if_pos h6] at h; exact .inr (.inr (.inr (.inr (.inr (.inr (.inl ⟨by omega, by omega, fun _ => .inr h5, fun x => by simp at x, h6, Lib.hid h⟩))))))
    rw [if_neg h6] at h; exact .inr (.inr (.inr (.inr (.inr (.inr (.inr ⟨by omega, by omega, fun _ => .inr h5, fun x => by simp at x, by omega, Lib.hid h⟩))))))
  rw [if_pos (by simp [h4, h5])] at h
  exact .inr (.inr (.inr (.inl ⟨rfl, by omega, by omega, h4, h5, Lib.hid h⟩)))
def contV (T : List UInt8 × Nat × Int) : Value := .tuple #[.string ⟨T.1.toArray⟩, .int .i64 T.2.1, .int .i64 T.2.2]
theorem contents_any (s : ByteArray) (hs : s.size <= 35184372088832) (w : World) :
    Calls Tryz.prog 210 #[.string s] w fun e w' => e = .returned (contV (contents false [] 0 s.data.toList)) /\ Ext w w' := by
  obtain ⟨T, hT⟩ : ∃ T, T = contents false [] 0 s.data.toList := ⟨_, rfl⟩
  have HT : Hid (T = contents false [] 0 (s.data.toList.drop 0)) := Lib.hid (by rw [hT]; rfl)
  rw [<- hT]; clear hT
  go_enter Tryz.func210, Tryz.ntmps210
  go_wp2
  go_loopw [6] (fun esc wr => ∃ (pos : Nat) (b : Bool) (acc : List UInt8), esc = .bool b /\ Lib.IsBuilderF 150 5 w.heap.size w.heap.size (Lib.byteCells acc) wr /\ wr.heap[w.heap.size + 1]? = some (.stringIter s pos) /\ Below w.heap.size w wr /\ Hid (T = contents b acc pos (s.data.toList.drop pos)) /\ acc.length <= 32) (fun _ wr => s.size - wr.iterPos (w.heap.size + 1))
  case atStart =>
    refine ⟨0, false, [], rfl, (Lib.IsBuilderF.of (Lib.fresh_isBuilder 150 5 w)).alloc _, ?_, ((Below.refl _ w).alloc (Nat.le_refl _) _).alloc (by simp) _, HT, by simp⟩
    have := World.iter_heap (w.alloc (.cells #[.pointer none, .slice none 0 0] 150)) s 0
    simpa using this
  obtain ⟨pos, b, acc, rfl, hI, hit, hbw, hacc, hal⟩ := hrel
  clear HT
  have hsz : w.heap.size + 1 < wr.heap.size := (Array.getElem?_eq_some_iff.1 hit).1
  by_cases hp : pos < s.size
  · have hst := hacc.out
    rw [drop_at s pos hp] at hst
    have hw := cont_ways b acc pos s[pos] _ T hst
    clear hst hacc
    by_cases ha : s[pos].toNat < 128
    · have hnx : ∀ ty, (Instr.next (.pointer (some ⟨w.heap.size + 1, 0, none⟩)) true ty).run Tryz.prog wr = _ := fun ty => Lib.run_next_ascii_at wr (w.heap.size + 1) s pos ty hit hp ha
      have hI2 := hI.iterAt hit (pos + 1)
      have hit2 := Lib.iterAt_heap wr (w.heap.size + 1) s pos (pos + 1) hit
      have hbw2 := Lib.below_iterAt hbw (k := w.heap.size + 1) (by omega) s (pos + 1)
      have hsz2 : w.heap.size <= (wr.iterAt (w.heap.size + 1) s (pos + 1)).heap.size := by rw [Lib.iterAt_size]; omega
      rcases hw with ⟨c1, hf⟩ | ⟨c1, c2, hf⟩ | ⟨c1, c2, hf⟩ | ⟨rfl, c1, c2, c3, c4, hf⟩ | ⟨rfl, c1, hf⟩ | ⟨rfl, c1, hf⟩ | ⟨c1, c2, c3, c4, c5, hf⟩ | ⟨c1, c2, c3, c4, c5, hf⟩
      · go_wp2
        go_returns
        refine ⟨ret_val ?_, hbw2⟩
        rw [hf.out]; rfl
      · obtain ⟨f1, _⟩ := ne_facts (x := (s[pos].toNat : Int)) (k := 10) (by omega)
        obtain ⟨f2, f3⟩ := ne_facts (x := (s[pos].toNat : Int)) (k := 34) (by omega)
        obtain ⟨f4, f5⟩ := ne_facts (x := (s[pos].toNat : Int)) (k := 92) (by omega)
        have f6 : (126 : Int) < (s[pos].toNat : Int) := by omega
        cases b <;> (go_wp2; go_returns; exact ⟨ret_val (by rw [hf.out]; rfl), hbw2⟩)
      · obtain ⟨f1, _⟩ := ne_facts (x := (s[pos].toNat : Int)) (k := 10) (by omega)
        obtain ⟨f2, f3⟩ := ne_facts (x := (s[pos].toNat : Int)) (k := 34) (by omega)
        obtain ⟨f4, f5⟩ := ne_facts (x := (s[pos].toNat : Int)) (k := 92) (by omega)
        have f6 : (s[pos].toNat : Int) < 32 := by omega
        cases b <;> (go_wp2; go_returns; exact ⟨ret_val (by rw [hf.out]; rfl), hbw2⟩)
      · obtain ⟨f1, _⟩ := ne_facts (x := (s[pos].toNat : Int)) (k := 10) (by omega)
        obtain ⟨f2, f3⟩ := ne_facts (x := (s[pos].toNat : Int)) (k := 34) (by omega)
        obtain ⟨f4, f5⟩ := ne_facts (x := (s[pos].toNat : Int)) (k := 92) (by omega)
        go_wp2
        go_returns
        exact ⟨ret_val (by rw [hf.out]; rfl), hbw2⟩
      · go_wp2_with (go_at_call 82; refine (Tryz.Builder_String_any_k w.heap.size w.heap.size acc _ hI2 hsz2).mono ?_)
        rintro e W1 ⟨rfl, _, b1, _⟩
        go_wp2
        go_returns
        exact ⟨ret_val (by rw [hf.out]; rfl), hbw2.trans b1⟩
      · go_wp2
        go_roundw
        case rel => exact ⟨pos + 1, true, acc, rfl, hI2, hit2, hbw2, hf, hal⟩
        simp only [World.iterPos, hit2, hit]
        omega
      · have g1 : (32 : Int) <= (s[pos].toNat : Int) := by omega
        have g2 : (s[pos].toNat : Int) <= 126 := by omega
        have g3 : (32 : Int) < ((acc.length + 1 : Nat) : Int) := by omega
        obtain ⟨f1, _⟩ := ne_facts (x := (s[pos].toNat : Int)) (k := 10) (by omega)
        cases b
        · obtain ⟨k1, k2⟩ := c4 rfl
          obtain ⟨f2, f3⟩ := ne_facts (x := (s[pos].toNat : Int)) (k := 34) (by omega)
          obtain ⟨f4, f5⟩ := ne_facts (x := (s[pos].toNat : Int)) (k := 92) (by omega)
          clear c3 c4 k1 k2
          go_wp2_with (go_at_call 196; refine (writeByte_any w.heap.size w.heap.size _ s[pos].toNat _ hI2 (by rw [Lib.byteCells_length]; omega) hsz2).mono ?_)
          rintro e W1 ⟨rfl, h1, b1, k1⟩
          go_wp2_with (go_at_call 244; refine (Tryz.Builder_Len_f w.heap.size w.heap.size _ _ h1).mono ?_)
          rintro e W2 ⟨rfl, rfl⟩
          rw [show ((Lib.byteCells acc ++ [Value.int .u8 s[pos].toNat]).length : Int) = ((acc.length + 1 : Nat) : Int) by simp [Lib.byteCells_length]]
          go_wp2
          go_returns
          exact ⟨ret_val (by rw [hf.out]; rfl), hbw2.trans b1⟩
        obtain ⟨k2, k3⟩ : (((s[pos].toNat : Int) != 34) = false \/ ((s[pos].toNat : Int) != 34) = true /\ ((s[pos].toNat : Int) != 92) = false) /\ True := by
          rcases c3 rfl with k1 | k1
          · exact ⟨.inl (eq_facts (by omega)).2, trivial⟩
          exact ⟨.inr ⟨(ne_facts (by omega)).2, (eq_facts (by omega)).2⟩, trivial⟩
        clear c3 c4 k3
        rcases k2 with k2 | ⟨k2, k3⟩
        all_goals
          go_wp2_with (go_at_call 196; refine (writeByte_any w.heap.size w.heap.size _ s[pos].toNat _ hI2 (by rw [Lib.byteCells_length]; omega) hsz2).mono ?_)
          rintro e W1 ⟨rfl, h1, b1, k1⟩
          go_wp2_with (go_at_call 244; refine (Tryz.Builder_Len_f w.heap.size w.heap.size _ _ h1).mono ?_)
          rintro e W2 ⟨rfl, rfl⟩
          rw [show ((Lib.byteCells acc ++ [Value.int .u8 s[pos].toNat]).length : Int) = ((acc.length + 1 : Nat) : Int) by simp [Lib.byteCells_length]]
          go_wp2
          go_returns
          exact ⟨ret_val (by rw [hf.out]; rfl), hbw2.trans b1⟩
      have g1 : (32 : Int) <= (s[pos].toNat : Int) := by omega
      have g2 : (s[pos].toNat : Int) <= 126 := by omega
      have g3 : ((acc.length + 1 : Nat) : Int) <= 32 := by omega
      obtain ⟨f1, _⟩ := ne_facts (x := (s[pos].toNat : Int)) (k := 10) (by omega)
      cases b
      · obtain ⟨k1, k2⟩ := c4 rfl
        obtain ⟨f2, f3⟩ := ne_facts (x := (s[pos].toNat : Int)) (k := 34) (by omega)
        obtain ⟨f4, f5⟩ := ne_facts (x := (s[pos].toNat : Int)) (k := 92) (by omega)
        clear c3 c4 k1 k2
        go_wp2_with (go_at_call 196; refine (writeByte_any w.heap.size w.heap.size _ s[pos].toNat _ hI2 (by rw [Lib.byteCells_length]; omega) hsz2).mono ?_)
        rintro e W1 ⟨rfl, h1, b1, k1⟩
        go_wp2_with (go_at_call 244; refine (Tryz.Builder_Len_f w.heap.size w.heap.size _ _ h1).mono ?_)
        rintro e W2 ⟨rfl, rfl⟩
        rw [show ((Lib.byteCells acc ++ [Value.int .u8 s[pos].toNat]).length : Int) = ((acc.length + 1 : Nat) : Int) by simp [Lib.byteCells_length]]
        go_wp2
        go_roundw
        case rel =>
          refine ⟨pos + 1, false, acc ++ [s[pos]], rfl, ?_, k1.iter hit2 (by omega), hbw2.trans b1, hf, by simp; omega⟩
          rw [Lib.byteCells_append]; exact h1
        simp only [World.iterPos, k1.iter hit2 (by omega), hit]
        omega
      obtain ⟨k2, k3⟩ : (((s[pos].toNat : Int) != 34) = false \/ ((s[pos].toNat : Int) != 34) = true /\ ((s[pos].toNat : Int) != 92) = false) /\ True := by
        rcases c3 rfl with k1 | k1
        · exact ⟨.inl (eq_facts (by omega)).2, trivial⟩
        exact ⟨.inr ⟨(ne_facts (by omega)).2, (eq_facts (by omega)).2⟩, trivial⟩
      clear c3 c4 k3
      rcases k2 with k2 | ⟨k2, k3⟩
      all_goals
        go_wp2_with (go_at_call 196; refine (writeByte_any w.heap.size w.heap.size _ s[pos].toNat _ hI2 (by rw [Lib.byteCells_length]; omega) hsz2).mono ?_)
        rintro e W1 ⟨rfl, h1, b1, k1⟩
        go_wp2_with (go_at_call 244; refine (Tryz.Builder_Len_f w.heap.size w.heap.size _ _ h1).mono ?_)
        rintro e W2 ⟨rfl, rfl⟩
        rw [show ((Lib.byteCells acc ++ [Value.int .u8 s[pos].toNat]).length : Int) = ((acc.length + 1 : Nat) : Int) by simp [Lib.byteCells_length]]
        go_wp2
        go_roundw
        case rel =>
          refine ⟨pos + 1, false, acc ++ [s[pos]], rfl, ?_, k1.iter hit2 (by omega), hbw2.trans b1, hf, by simp; omega⟩
          rw [Lib.byteCells_append]; exact h1
        simp only [World.iterPos, k1.iter hit2 (by omega), hit]
        omega
    have hh := decode_high s pos hp (by omega)
    have hd1 := decode_le s pos
    have hnx : ∀ ty, (Instr.next (.pointer (some ⟨w.heap.size + 1, 0, none⟩)) true ty).run Tryz.prog wr = _ := fun ty => Lib.run_next_any_at wr (w.heap.size + 1) s pos ty hit hp
    have hbw2 := Lib.below_iterAt hbw (k := w.heap.size + 1) (by omega) s (pos + (Utf8.decode s pos).2)
    have hf : Hid (T = ([], 0, 4)) := by
      rcases hw with ⟨c1, hf⟩ | ⟨c1, c2, hf⟩ | ⟨c1, c2, hf⟩ | ⟨_, c1, c2, c3, c4, hf⟩ | ⟨_, c1, hf⟩ | ⟨_, c1, hf⟩ | ⟨c1, c2, c3, c4, c5, hf⟩ | ⟨c1, c2, c3, c4, c5, hf⟩
      all_goals first | exact hf | (exfalso; omega)
    clear hw
    generalize (Utf8.decode s pos).1 = dr at hnx hh hd1
    generalize (Utf8.decode s pos).2 = dw at hnx hh hbw2
    obtain ⟨hh1, hh2⟩ := hh
    obtain ⟨f1, _⟩ := ne_facts (x := (dr : Int)) (k := 10) (by omega)
    obtain ⟨f2, f3⟩ := ne_facts (x := (dr : Int)) (k := 34) (by omega)
    obtain ⟨f4, f5⟩ := ne_facts (x := (dr : Int)) (k := 92) (by omega)
    have f6 : (126 : Int) < (dr : Int) := by omega
    have f7 : (32 : Int) <= (dr : Int) := by omega
    cases b <;> (go_wp2; go_returns; exact ⟨ret_val (by rw [hf.out]; rfl), hbw2⟩)
  have hnx : ∀ ty, (Instr.next (.pointer (some ⟨w.heap.size + 1, 0, none⟩)) true ty).run Tryz.prog wr = _ := fun ty => Lib.run_next_end_at wr (w.heap.size + 1) s pos ty hit hp
  have hf : Hid (T = ([], 0, 3)) := Lib.hid (by rw [hacc.out, drop_end s pos hp]; rfl)
  clear hacc
  go_wp2
  go_returns
  exact ⟨ret_val (by rw [hf.out]; rfl), hbw⟩
end Go.Proofs.YtjaeedbjknejdaaGreatDoor.Lx
