/- Packed texts: LexCont, QuoRepl, LexOne -/
import Derived.Test.YtnjnfkfmkbnkhaaGreatDoorPa09
import Derived.Test.YtnjnfkfmkbnkhaaGreatDoorPa05
import Derived.Laws.CopyOwn
import Derived.Deep.RegionLaw
import Derived.Deep.OwnRows
import Derived.Test.YtnjnfkfmkbnkhaaGreatDoorPa01
set_option linter.unusedVariables false
set_option linter.unusedSimpArgs false
/- What the lexer's contents returns: the contents of a string behind its mark, for every text. -/
namespace Go.Proofs.YtnjnfkfmkbnkhaaGreatDoor.Lx
open Go.RowKit Go.Sort Go.Lib Go.Shelf Fx

theorem drop_at (s : ByteArray) (k : Nat) (hk : k < s.size) : s.data.toList.drop k = s[k] :: s.data.toList.drop (k + 1) := by
  have h : k < s.data.toList.length := by rw [← size_len]; exact hk
  rw [List.drop_eq_getElem_cons h]; rfl
theorem drop_end (s : ByteArray) (k : Nat) (hk : ¬ k < s.size) : s.data.toList.drop k = [] := by
  rw [List.drop_eq_nil_iff, ← size_len]; omega

/-- One byte of a string. -/
theorem cont_ways (esc : Bool) (acc : List UInt8) (i : Nat) (c : UInt8) (r : List UInt8) (T : List UInt8 × Nat × Int) (h : T = contents esc acc i (c :: r)) :
    (c.toNat = 10 ∧ Hid (T = ([], 0, 3))) ∨
    (c.toNat ≠ 10 ∧ 126 < c.toNat ∧ Hid (T = ([], 0, 4))) ∨
    (c.toNat ≠ 10 ∧ c.toNat < 32 ∧ Hid (T = ([], 0, 4))) ∨
    (esc = true ∧ 32 ≤ c.toNat ∧ c.toNat ≤ 126 ∧ c.toNat ≠ 34 ∧ c.toNat ≠ 92 ∧ Hid (T = ([], 0, 4))) ∨
    (esc = false ∧ c.toNat = 34 ∧ Hid (T = (acc, i + 1, 0))) ∨
    (esc = false ∧ c.toNat = 92 ∧ Hid (T = contents true acc (i + 1) r)) ∨
    (32 ≤ c.toNat ∧ c.toNat ≤ 126 ∧ (esc = true → c.toNat = 34 ∨ c.toNat = 92) ∧ (esc = false → c.toNat ≠ 34 ∧ c.toNat ≠ 92) ∧ 32 < acc.length + 1 ∧ Hid (T = ([], 0, 2))) ∨
    (32 ≤ c.toNat ∧ c.toNat ≤ 126 ∧ (esc = true → c.toNat = 34 ∨ c.toNat = 92) ∧ (esc = false → c.toNat ≠ 34 ∧ c.toNat ≠ 92) ∧ acc.length + 1 ≤ 32 ∧ Hid (T = contents false (acc ++ [c]) (i + 1) r)) := by
  unfold contents at h
  by_cases h1 : c.toNat = 10
  · rw [if_pos h1] at h; exact .inl ⟨h1, Lib.hid h⟩
  rw [if_neg h1] at h
  by_cases h2 : 126 < c.toNat
  · rw [if_pos (by simp [h2])] at h; exact .inr (.inl ⟨h1, h2, Lib.hid h⟩)
  by_cases h3 : c.toNat < 32
  · rw [if_pos (by simp [h3])] at h; exact .inr (.inr (.inl ⟨h1, h3, Lib.hid h⟩))
  have k2 : decide (c.toNat < 32) = false := by simp; omega
  have k3 : decide (126 < c.toNat) = false := by simp; omega
  rw [k2, k3] at h
  cases esc
  · simp only [Bool.false_and, Bool.or_false, Bool.false_eq_true, if_false, Bool.not_false, Bool.true_and] at h
    by_cases h4 : c.toNat = 34
    · rw [if_pos (by simp [h4])] at h; exact .inr (.inr (.inr (.inr (.inl ⟨rfl, h4, Lib.hid h⟩))))
    rw [if_neg (by simp [h4])] at h
    by_cases h5 : c.toNat = 92
    · rw [if_pos (by simp [h5])] at h; exact .inr (.inr (.inr (.inr (.inr (.inl ⟨rfl, h5, Lib.hid h⟩)))))
    rw [if_neg (by simp [h5])] at h
    by_cases h6 : 32 < acc.length + 1
    · rw [if_pos h6] at h; exact .inr (.inr (.inr (.inr (.inr (.inr (.inl ⟨by omega, by omega, fun x => by simp at x, fun _ => ⟨h4, h5⟩, h6, Lib.hid h⟩))))))
    · rw [if_neg h6] at h; exact .inr (.inr (.inr (.inr (.inr (.inr (.inr ⟨by omega, by omega, fun x => by simp at x, fun _ => ⟨h4, h5⟩, by omega, Lib.hid h⟩))))))
  · simp only [Bool.true_and, Bool.or_false, Bool.not_true, Bool.false_and, Bool.false_eq_true, if_false] at h
    by_cases h4 : c.toNat = 34
    · rw [if_neg (by simp [h4])] at h
      by_cases h6 : 32 < acc.length + 1
      · rw [if_pos h6] at h; exact .inr (.inr (.inr (.inr (.inr (.inr (.inl ⟨by omega, by omega, fun _ => .inl h4, fun x => by simp at x, h6, Lib.hid h⟩))))))
      · rw [if_neg h6] at h; exact .inr (.inr (.inr (.inr (.inr (.inr (.inr ⟨by omega, by omega, fun _ => .inl h4, fun x => by simp at x, by omega, Lib.hid h⟩))))))
    by_cases h5 : c.toNat = 92
    · rw [if_neg (by simp [h5])] at h
      by_cases h6 : 32 < acc.length + 1
      · rw [if_pos h6] at h; exact .inr (.inr (.inr (.inr (.inr (.inr (.inl ⟨by omega, by omega, fun _ => .inr h5, fun x => by simp at x, h6, Lib.hid h⟩))))))
      · rw [if_neg h6] at h; exact .inr (.inr (.inr (.inr (.inr (.inr (.inr ⟨by omega, by omega, fun _ => .inr h5, fun x => by simp at x, by omega, Lib.hid h⟩))))))
    rw [if_pos (by simp [h4, h5])] at h
    exact .inr (.inr (.inr (.inl ⟨rfl, by omega, by omega, h4, h5, Lib.hid h⟩)))

theorem ne_facts {x k : Int} (h : x ≠ k) : (x == k) = false ∧ (x != k) = true := by
  have : (x == k) = false := by rw [beq_eq_false_iff_ne]; exact h
  exact ⟨this, by rw [bne, this]; rfl⟩
theorem eq_facts {x k : Int} (h : x = k) : (x == k) = true ∧ (x != k) = false := by
  have : (x == k) = true := by rw [beq_iff_eq]; exact h
  exact ⟨this, by rw [bne, this]; rfl⟩

/-- The three results. -/
def contV (T : List UInt8 × Nat × Int) : Value := .tuple #[.string ⟨T.1.toArray⟩, .int .i64 T.2.1, .int .i64 T.2.2]

set_option maxHeartbeats 8000000 in
set_option maxRecDepth 1000000 in
theorem contents_any (s : ByteArray) (hs : s.size ≤ 35184372088832) (w : World) :
    Calls Tryz.prog 55 #[.string s] w fun e w' => e = .returned (contV (contents false [] 0 s.data.toList)) ∧ Ext w w' := by
  obtain ⟨T, hT⟩ : ∃ T, T = contents false [] 0 s.data.toList := ⟨_, rfl⟩
  have HT : Hid (T = contents false [] 0 (s.data.toList.drop 0)) := Lib.hid (by rw [hT]; rfl)
  rw [← hT]; clear hT
  go_enter Tryz.func55, Tryz.ntmps55
  go_wp2
  go_loopw [6] (fun esc wr => ∃ (pos : Nat) (b : Bool) (acc : List UInt8), esc = .bool b ∧ Lib.IsBuilderF 56 5 w.heap.size w.heap.size (Lib.byteCells acc) wr ∧ wr.heap[w.heap.size + 1]? = some (.stringIter s pos) ∧ Below w.heap.size w wr ∧ Hid (T = contents b acc pos (s.data.toList.drop pos)) ∧ acc.length ≤ 32) (fun _ wr => s.size - wr.iterPos (w.heap.size + 1))
  case atStart =>
    refine ⟨0, false, [], rfl, (Lib.IsBuilderF.of (Lib.fresh_isBuilder 56 5 w)).alloc _, ?_, ((Below.refl _ w).alloc (Nat.le_refl _) _).alloc (by simp) _, HT, by simp⟩
    have := World.iter_heap (w.alloc (.cells #[.pointer none, .slice none 0 0] 56)) s 0
    simpa using this
  case round =>
    obtain ⟨pos, b, acc, rfl, hI, hit, hbw, hacc, hal⟩ := hrel
    clear HT
    have hsz : w.heap.size + 1 < wr.heap.size := (Array.getElem?_eq_some_iff.1 hit).1
    by_cases hp : pos < s.size
    · have hst := hacc.out
      rw [drop_at s pos hp] at hst
      have hw := cont_ways b acc pos s[pos] _ T hst
      clear hst hacc
      by_cases ha : s[pos].toNat < 128
      · have hnx : ∀ ty, (Instr.next (.pointer (some ⟨w.heap.size + 1, 0, none⟩)) true ty).run Tryz.prog wr = _ := fun ty => Lib.run_next_ascii_at wr (w.heap.size + 1) s pos ty hit hp ha
        have hI2 := hI.iterAt hit (pos + 1)
        have hit2 := Lib.iterAt_heap wr (w.heap.size + 1) s pos (pos + 1) hit
        have hbw2 := Lib.below_iterAt hbw (k := w.heap.size + 1) (by omega) s (pos + 1)
        have hsz2 : w.heap.size ≤ (wr.iterAt (w.heap.size + 1) s (pos + 1)).heap.size := by rw [Lib.iterAt_size]; omega
        rcases hw with ⟨c1, hf⟩ | ⟨c1, c2, hf⟩ | ⟨c1, c2, hf⟩ | ⟨rfl, c1, c2, c3, c4, hf⟩ | ⟨rfl, c1, hf⟩ | ⟨rfl, c1, hf⟩ | ⟨c1, c2, c3, c4, c5, hf⟩ | ⟨c1, c2, c3, c4, c5, hf⟩
        · go_wp2
          go_returns
          refine ⟨ret_val ?_, hbw2⟩
          rw [hf.out]; rfl
        · obtain ⟨f1, _⟩ := ne_facts (x := (s[pos].toNat : Int)) (k := 10) (by omega)
          obtain ⟨f2, f3⟩ := ne_facts (x := (s[pos].toNat : Int)) (k := 34) (by omega)
          obtain ⟨f4, f5⟩ := ne_facts (x := (s[pos].toNat : Int)) (k := 92) (by omega)
          have f6 : (126 : Int) < (s[pos].toNat : Int) := by omega
          cases b <;> (go_wp2; go_returns; exact ⟨ret_val (by rw [hf.out]; rfl), hbw2⟩)
        · obtain ⟨f1, _⟩ := ne_facts (x := (s[pos].toNat : Int)) (k := 10) (by omega)
          obtain ⟨f2, f3⟩ := ne_facts (x := (s[pos].toNat : Int)) (k := 34) (by omega)
          obtain ⟨f4, f5⟩ := ne_facts (x := (s[pos].toNat : Int)) (k := 92) (by omega)
          have f6 : (s[pos].toNat : Int) < 32 := by omega
          cases b <;> (go_wp2; go_returns; exact ⟨ret_val (by rw [hf.out]; rfl), hbw2⟩)
        · obtain ⟨f1, _⟩ := ne_facts (x := (s[pos].toNat : Int)) (k := 10) (by omega)
          obtain ⟨f2, f3⟩ := ne_facts (x := (s[pos].toNat : Int)) (k := 34) (by omega)
          obtain ⟨f4, f5⟩ := ne_facts (x := (s[pos].toNat : Int)) (k := 92) (by omega)
          go_wp2
          go_returns
          exact ⟨ret_val (by rw [hf.out]; rfl), hbw2⟩
        · go_wp2_with (go_at_call 23; refine (Tryz.Builder_String_any_k w.heap.size w.heap.size acc _ hI2 hsz2).mono ?_)
          rintro e W1 ⟨rfl, _, b1, _⟩
          go_wp2
          go_returns
          exact ⟨ret_val (by rw [hf.out]; rfl), hbw2.trans b1⟩
        · go_wp2
          go_roundw
          case rel => exact ⟨pos + 1, true, acc, rfl, hI2, hit2, hbw2, hf, hal⟩
          case measure =>
            simp only [World.iterPos, hit2, hit]
            omega
        · have g1 : (32 : Int) ≤ (s[pos].toNat : Int) := by omega
          have g2 : (s[pos].toNat : Int) ≤ 126 := by omega
          have g3 : (32 : Int) < ((acc.length + 1 : Nat) : Int) := by omega
          obtain ⟨f1, _⟩ := ne_facts (x := (s[pos].toNat : Int)) (k := 10) (by omega)
          cases b
          · obtain ⟨k1, k2⟩ := c4 rfl
            obtain ⟨f2, f3⟩ := ne_facts (x := (s[pos].toNat : Int)) (k := 34) (by omega)
            obtain ⟨f4, f5⟩ := ne_facts (x := (s[pos].toNat : Int)) (k := 92) (by omega)
            clear c3 c4 k1 k2
            go_wp2_with (go_at_call 69; refine (writeByte_any w.heap.size w.heap.size _ s[pos].toNat _ hI2 (by rw [Lib.byteCells_length]; omega) hsz2).mono ?_)
            rintro e W1 ⟨rfl, h1, b1, k1⟩
            go_wp2_with (go_at_call 85; refine (Tryz.Builder_Len_f w.heap.size w.heap.size _ _ h1).mono ?_)
            rintro e W2 ⟨rfl, rfl⟩
            rw [show ((Lib.byteCells acc ++ [Value.int .u8 s[pos].toNat]).length : Int) = ((acc.length + 1 : Nat) : Int) by simp [Lib.byteCells_length]]
            go_wp2
            go_returns
            exact ⟨ret_val (by rw [hf.out]; rfl), hbw2.trans b1⟩
          · obtain ⟨k2, k3⟩ : (((s[pos].toNat : Int) != 34) = false ∨ ((s[pos].toNat : Int) != 34) = true ∧ ((s[pos].toNat : Int) != 92) = false) ∧ True := by
              rcases c3 rfl with k1 | k1
              · exact ⟨.inl (eq_facts (by omega)).2, trivial⟩
              · exact ⟨.inr ⟨(ne_facts (by omega)).2, (eq_facts (by omega)).2⟩, trivial⟩
            clear c3 c4 k3
            rcases k2 with k2 | ⟨k2, k3⟩
            all_goals
              go_wp2_with (go_at_call 69; refine (writeByte_any w.heap.size w.heap.size _ s[pos].toNat _ hI2 (by rw [Lib.byteCells_length]; omega) hsz2).mono ?_)
              rintro e W1 ⟨rfl, h1, b1, k1⟩
              go_wp2_with (go_at_call 85; refine (Tryz.Builder_Len_f w.heap.size w.heap.size _ _ h1).mono ?_)
              rintro e W2 ⟨rfl, rfl⟩
              rw [show ((Lib.byteCells acc ++ [Value.int .u8 s[pos].toNat]).length : Int) = ((acc.length + 1 : Nat) : Int) by simp [Lib.byteCells_length]]
              go_wp2
              go_returns
              exact ⟨ret_val (by rw [hf.out]; rfl), hbw2.trans b1⟩
        · have g1 : (32 : Int) ≤ (s[pos].toNat : Int) := by omega
          have g2 : (s[pos].toNat : Int) ≤ 126 := by omega
          have g3 : ((acc.length + 1 : Nat) : Int) ≤ 32 := by omega
          obtain ⟨f1, _⟩ := ne_facts (x := (s[pos].toNat : Int)) (k := 10) (by omega)
          cases b
          · obtain ⟨k1, k2⟩ := c4 rfl
            obtain ⟨f2, f3⟩ := ne_facts (x := (s[pos].toNat : Int)) (k := 34) (by omega)
            obtain ⟨f4, f5⟩ := ne_facts (x := (s[pos].toNat : Int)) (k := 92) (by omega)
            clear c3 c4 k1 k2
            go_wp2_with (go_at_call 69; refine (writeByte_any w.heap.size w.heap.size _ s[pos].toNat _ hI2 (by rw [Lib.byteCells_length]; omega) hsz2).mono ?_)
            rintro e W1 ⟨rfl, h1, b1, k1⟩
            go_wp2_with (go_at_call 85; refine (Tryz.Builder_Len_f w.heap.size w.heap.size _ _ h1).mono ?_)
            rintro e W2 ⟨rfl, rfl⟩
            rw [show ((Lib.byteCells acc ++ [Value.int .u8 s[pos].toNat]).length : Int) = ((acc.length + 1 : Nat) : Int) by simp [Lib.byteCells_length]]
            go_wp2
            go_roundw
            case rel =>
              refine ⟨pos + 1, false, acc ++ [s[pos]], rfl, ?_, k1.iter hit2 (by omega), hbw2.trans b1, hf, by simp; omega⟩
              rw [Lib.byteCells_append]; exact h1
            case measure =>
              simp only [World.iterPos, k1.iter hit2 (by omega), hit]
              omega
          · obtain ⟨k2, k3⟩ : (((s[pos].toNat : Int) != 34) = false ∨ ((s[pos].toNat : Int) != 34) = true ∧ ((s[pos].toNat : Int) != 92) = false) ∧ True := by
              rcases c3 rfl with k1 | k1
              · exact ⟨.inl (eq_facts (by omega)).2, trivial⟩
              · exact ⟨.inr ⟨(ne_facts (by omega)).2, (eq_facts (by omega)).2⟩, trivial⟩
            clear c3 c4 k3
            rcases k2 with k2 | ⟨k2, k3⟩
            all_goals
              go_wp2_with (go_at_call 69; refine (writeByte_any w.heap.size w.heap.size _ s[pos].toNat _ hI2 (by rw [Lib.byteCells_length]; omega) hsz2).mono ?_)
              rintro e W1 ⟨rfl, h1, b1, k1⟩
              go_wp2_with (go_at_call 85; refine (Tryz.Builder_Len_f w.heap.size w.heap.size _ _ h1).mono ?_)
              rintro e W2 ⟨rfl, rfl⟩
              rw [show ((Lib.byteCells acc ++ [Value.int .u8 s[pos].toNat]).length : Int) = ((acc.length + 1 : Nat) : Int) by simp [Lib.byteCells_length]]
              go_wp2
              go_roundw
              case rel =>
                refine ⟨pos + 1, false, acc ++ [s[pos]], rfl, ?_, k1.iter hit2 (by omega), hbw2.trans b1, hf, by simp; omega⟩
                rw [Lib.byteCells_append]; exact h1
              case measure =>
                simp only [World.iterPos, k1.iter hit2 (by omega), hit]
                omega
      · have hh := decode_high s pos hp (by omega)
        have hd1 := decode_le s pos
        have hnx : ∀ ty, (Instr.next (.pointer (some ⟨w.heap.size + 1, 0, none⟩)) true ty).run Tryz.prog wr = _ := fun ty => Lib.run_next_any_at wr (w.heap.size + 1) s pos ty hit hp
        have hbw2 := Lib.below_iterAt hbw (k := w.heap.size + 1) (by omega) s (pos + (Utf8.decode s pos).2)
        have hf : Hid (T = ([], 0, 4)) := by
          rcases hw with ⟨c1, hf⟩ | ⟨c1, c2, hf⟩ | ⟨c1, c2, hf⟩ | ⟨_, c1, c2, c3, c4, hf⟩ | ⟨_, c1, hf⟩ | ⟨_, c1, hf⟩ | ⟨c1, c2, c3, c4, c5, hf⟩ | ⟨c1, c2, c3, c4, c5, hf⟩
          all_goals first | exact hf | (exfalso; omega)
        clear hw
        generalize (Utf8.decode s pos).1 = dr at hnx hh hd1
        generalize (Utf8.decode s pos).2 = dw at hnx hh hbw2
        obtain ⟨hh1, hh2⟩ := hh
        obtain ⟨f1, _⟩ := ne_facts (x := (dr : Int)) (k := 10) (by omega)
        obtain ⟨f2, f3⟩ := ne_facts (x := (dr : Int)) (k := 34) (by omega)
        obtain ⟨f4, f5⟩ := ne_facts (x := (dr : Int)) (k := 92) (by omega)
        have f6 : (126 : Int) < (dr : Int) := by omega
        have f7 : (32 : Int) ≤ (dr : Int) := by omega
        cases b <;> (go_wp2; go_returns; exact ⟨ret_val (by rw [hf.out]; rfl), hbw2⟩)
    · have hnx : ∀ ty, (Instr.next (.pointer (some ⟨w.heap.size + 1, 0, none⟩)) true ty).run Tryz.prog wr = _ := fun ty => Lib.run_next_end_at wr (w.heap.size + 1) s pos ty hit hp
      have hf : Hid (T = ([], 0, 3)) := Lib.hid (by rw [hacc.out, drop_end s pos hp]; rfl)
      clear hacc
      go_wp2
      go_returns
      exact ⟨ret_val (by rw [hf.out]; rfl), hbw⟩
end Go.Proofs.YtnjnfkfmkbnkhaaGreatDoor.Lx

/- What the replacer's Replace returns: each mark and each backslash behind a backslash. -/
namespace Go.Proofs.YtnjnfkfmkbnkhaaGreatDoor.Qo
open Go.RowKit Go.Lib Fx Lx

/-- How many bytes are escaped. -/
def ex (l : List UInt8) : Nat := l.countP (fun b => b == 34 || b == 92)
theorem ex_cons (b : UInt8) (r : List UInt8) : ex (b :: r) = ex r + if b = 34 ∨ b = 92 then 1 else 0 := by
  unfold ex; rw [List.countP_cons]; congr 1; by_cases h : b = 34 ∨ b = 92 <;> simp [h]
theorem ex_snoc (l : List UInt8) (b : UInt8) : ex (l ++ [b]) = ex l + if b = 34 ∨ b = 92 then 1 else 0 := by
  unfold ex; rw [List.countP_append]; congr 1; by_cases h : b = 34 ∨ b = 92 <;> simp [h]
theorem ex_le (l : List UInt8) : ex l ≤ l.length := List.countP_le_length
theorem ex_count (l : List UInt8) : ex l = l.count 34 + l.count 92 := by
  induction l with
  | nil => rfl
  | cons b r ih =>
    rw [ex_cons, ih, List.count_cons, List.count_cons]
    by_cases h1 : b = 34
    · subst h1; simp; omega
    · by_cases h2 : b = 92
      · subst h2; simp; omega
      · simp [h1, h2]
theorem escL_len (l : List UInt8) : (escL l).length = l.length + ex l := by
  induction l with
  | nil => rfl
  | cons b r ih =>
    have e : escL (b :: r) = escB b ++ escL r := rfl
    rw [e, List.length_append, ih, ex_cons, List.length_cons]
    unfold escB
    by_cases h : b = 34 ∨ b = 92
    · rw [if_pos h, if_pos h]; simp; omega
    · rw [if_neg h, if_neg h]; simp; omega
theorem escL_id (l : List UInt8) (h : ex l = 0) : escL l = l := by
  induction l with
  | nil => rfl
  | cons b r ih =>
    have e : escL (b :: r) = escB b ++ escL r := rfl
    rw [ex_cons] at h
    have hb : ¬ (b = 34 ∨ b = 92) := fun hb => by rw [if_pos hb] at h; omega
    rw [e, ih (by omega)]
    unfold escB; rw [if_neg hb]; rfl
theorem escL_snoc (l : List UInt8) (b : UInt8) : escL (l ++ [b]) = escL l ++ escB b := by unfold escL; simp
theorem take_at (s : ByteArray) (k : Nat) (h : k < s.size) : s.data.toList.take (k + 1) = s.data.toList.take k ++ [s[k]] := by
  rw [List.take_succ_eq_append_getElem (by rw [← size_len]; exact h)]; rfl
theorem ex_take_le (l : List UInt8) (k : Nat) : ex (l.take k) ≤ ex l := by
  have h : ex l = ex (l.take k) + ex (l.drop k) := by unfold ex; rw [← List.countP_append, List.take_append_drop]
  omega
/-- What stands at a byte. -/
theorem RepAt.at_ {w : World} {k : Nat} (h : RepAt w k) : ∃ s34 s92 v, (∀ i, i < 256 → w.cell? ⟨k, i, none⟩ = some (if i = 34 then s34 else if i = 92 then s92 else .slice none 0 0)) ∧
    (∃ p c, s34 = .slice (some ⟨p, 0, none⟩) 2 c ∧ w.cell? ⟨p, 0, none⟩ = some (.int .u8 92) ∧ w.cell? ⟨p, 1, none⟩ = some (.int .u8 34)) ∧
    (∃ p c, s92 = .slice (some ⟨p, 0, none⟩) 2 c ∧ w.cell? ⟨p, 0, none⟩ = some (.int .u8 92) ∧ w.cell? ⟨p, 1, none⟩ = some (.int .u8 92)) ∧
    w.cell? ⟨k, 256, none⟩ = some v ∧ ∃ t c, v = .slice (some ⟨t, 0, none⟩) 2 c ∧ w.cell? ⟨t, 0, none⟩ = some (.string ⟨#[34]⟩) ∧ w.cell? ⟨t, 1, none⟩ = some (.string ⟨#[92]⟩) := by
  obtain ⟨B, s34, s92, v, hr, ⟨p1, c1, C1, z1, h1, h2, h3⟩, ⟨p2, c2, C2, z2, g1, g2, g3⟩⟩ := h
  refine ⟨s34, s92, v, ?_, ?_, ?_, ?_, ?_⟩
  · intro i hi
    rw [cell_of_blk hr.blk]
    by_cases h34 : i = 34
    · subst h34; rw [if_pos rfl]; exact repC_at34 _ _ _
    · by_cases h92 : i = 92
      · subst h92; rw [if_neg (by decide), if_pos rfl]; exact repC_at92 _ _ _
      · rw [if_neg h34, if_neg h92]; exact repC_else _ _ _ _ hi h34 h92
  · exact ⟨p1, c1, h1, by rw [cell_of_blk h2]; exact h3 0 92 rfl, by rw [cell_of_blk h2]; exact h3 1 34 rfl⟩
  · exact ⟨p2, c2, g1, by rw [cell_of_blk g2]; exact g3 0 92 rfl, by rw [cell_of_blk g2]; exact g3 1 92 rfl⟩
  · rw [cell_of_blk hr.blk]; exact repC_at256 _ _ _
  · rcases hr.own.2 with ⟨_, h0⟩ | ⟨g, cap, cur, hv, _⟩
    · simp [strsV] at h0
    · have hc := hr.own.cells (g := g) (by rw [hv]; rfl)
      refine ⟨g, cap, by rw [hv]; rfl, ?_, ?_⟩
      · simpa [Addr.add] using hc 0 _ rfl
      · simpa [Addr.add] using hc 1 _ rfl
theorem info_u8 : (Tryz.prog.info? 5).map (fun i => (i.zero, i.size, i.bytes)) = some (some (.int .u8 0), 1, 1) := by kernel_rfl

/-- The buffer behind i bytes. -/
def bufC (l : List UInt8) (m i : Nat) : List Value := ((escL (l.take i)).map fun b => Value.int .u8 b.toNat) ++ List.replicate (m - (escL (l.take i)).length) (.int .u8 0)
theorem escL_take_le (l : List UInt8) (i : Nat) : (escL (l.take i)).length ≤ (escL l).length := by
  rw [escL_len, escL_len]
  have := ex_take_le l i
  have := List.length_take_le i l
  simp only [List.length_take]; omega
theorem bufC_len (l : List UInt8) (m i : Nat) (hm : m = (escL l).length) : (bufC l m i).length = m := by
  have := escL_take_le l i
  unfold bufC; simp; omega
theorem bufC_splice (l : List UInt8) (m i : Nat) (b : UInt8) (h : l.take (i + 1) = l.take i ++ [b]) (hm : m = (escL l).length) :
    splice (bufC l m i) (escL (l.take i)).length ((escB b).map fun b => Value.int .u8 b.toNat) = bufC l m (i + 1) := by
  have h1 := escL_take_le l (i + 1)
  have e : escL (l.take (i + 1)) = escL (l.take i) ++ escB b := by rw [h, escL_snoc]
  unfold splice
  rw [show bufC l m (i + 1) = ((escL (l.take i) ++ escB b).map fun b => Value.int .u8 b.toNat) ++ List.replicate (m - (escL (l.take i) ++ escB b).length) (.int .u8 0) by unfold bufC; rw [e]]
  rw [e] at h1
  unfold bufC
  rw [List.take_append_of_le_length (by simp), List.take_of_length_le (by simp), List.map_append, List.append_assoc]
  congr 2
  simp only [List.length_map, List.length_append] at h1 ⊢
  rw [List.drop_append, List.drop_eq_nil_of_le (by simp), List.nil_append, List.drop_replicate]
  congr 1
  simp; omega
theorem bufC_set (l : List UInt8) (m i : Nat) (b : UInt8) (h : l.take (i + 1) = l.take i ++ [b]) (hm : m = (escL l).length) (hb : ¬ (b = 34 ∨ b = 92)) (hq : (escL (l.take i)).length < m) :
    (bufC l m i).toArray.setIfInBounds (escL (l.take i)).length (.int .u8 b.toNat) = (bufC l m (i + 1)).toArray := by
  have hs := bufC_splice l m i b h hm
  rw [← hs, show escB b = [b] from if_neg hb]
  have hl := bufC_len l m i hm
  unfold splice
  rw [List.setIfInBounds_toArray, List.set_eq_take_append_cons_drop, if_pos (by rw [hl]; exact hq)]
  simp
theorem two_at {w : World} {p : Nat} {a b : Value} (h0 : w.cell? ⟨p, 0, none⟩ = some a) (h1 : w.cell? ⟨p, 1, none⟩ = some b) : ∀ j v, [a, b][j]? = some v → w.cell? ((⟨p, 0, none⟩ : Addr).add j) = some v
  | 0, v, h => by simp at h; subst h; simpa [Addr.add] using h0
  | 1, v, h => by simp at h; subst h; simpa [Addr.add] using h1
  | n + 2, v, h => by simp at h
theorem bufC_zero (l : List UInt8) (m : Nat) : madeCells #[.int .u8 0] m = (bufC l m 0).toArray := by
  unfold bufC madeCells
  apply Array.ext
  · simp [escL]
  · intro i h1 h2
    simp [escL, Nat.mod_one]

theorem int_eq {k : IntKind} {a b : Int} (h : a = b) : Value.int k a = .int k b := by rw [h]
theorem RepAt.ext {w w' : World} {k : Nat} (h : RepAt w k) (x : Ext w w') : RepAt w' k := h.kept x.size fun p _ _ _ _ hp => (x.block p (Array.getElem?_eq_some_iff.1 hp).1).trans hp

set_option maxHeartbeats 4000000 in
set_option maxRecDepth 100000 in
theorem repl_big (k : Nat) (s : ByteArray) (w : World) (h1 : 16 ≤ s.size) (h2 : s.size ≤ 32) (hr : RepAt w k) :
    Calls Tryz.prog 195 #[.pointer (some ⟨k, 0, none⟩), .string s] w fun e w' => e = .returned (.string ⟨(escL s.data.toList).toArray⟩) ∧ Ext w w' := by
  have HR := Lib.hid hr
  have hc34 := fun w => Tryz.strings_Count_one s 34 w
  have hc92 := fun w => Tryz.strings_Count_one s 92 w
  obtain ⟨n34, hn34⟩ : ∃ n, n = Lib.countByte s.data.toList 34 := ⟨_, rfl⟩
  obtain ⟨n92, hn92⟩ : ∃ n, n = Lib.countByte s.data.toList 92 := ⟨_, rfl⟩
  rw [← hn34] at hc34
  rw [← hn92] at hc92
  have hex : ex s.data.toList = n34 + n92 := by rw [ex_count, hn34, hn92]; rfl
  have hle : n34 + n92 ≤ s.size := by rw [← hex, size_len]; exact ex_le _
  have HC34 := Lib.hid hc34; have HC92 := Lib.hid hc92; have HEX := Lib.hid hex
  clear hn34 hn92 hc34 hc92 hex
  obtain ⟨s34, s92, v, hc, ⟨p1, c1, rfl, a0, a1⟩, ⟨p2, c2, rfl, b0, b1⟩, hv, t, ct, rfl, t0, t1⟩ := hr.at_
  have HF := Lib.hid hc; have HT0 := Lib.hid t0; have HT1 := Lib.hid t1; have HA0 := Lib.hid a0; have HA1 := Lib.hid a1; have HB0 := Lib.hid b0; have HB1 := Lib.hid b1
  clear hc a0 a1 b0 b1 t0 t1 hr
  have h16 : decide ((16 : Int) ≤ (s.size : Int)) = true := by simp; omega
  go_enter Tryz.func195, Tryz.ntmps195
  go_wp2_with fail
  go_loopw [5, 6, 32] (fun ns an ix wr => ∃ (n : Nat) (bb : Bool), ((ix = .int .i64 0 ∧ n = 0) ∨ (ix = .int .i64 1 ∧ n = n34) ∨ (ix = .int .i64 2 ∧ n = n34 + n92)) ∧ ns = .int .i64 ((s.size : Int) + (n : Int)) ∧ an = .bool bb ∧ Hid (bb = decide (0 < n)) ∧ Ext w wr) (fun _ _ ix _ => 2 - (RowKit.intOf ix).toNat)
  case atStart => exact ⟨0, false, .inl ⟨rfl, rfl⟩, by simp, rfl, Lib.hid (by simp), Ext.refl _⟩
  case round =>
    obtain ⟨n, bb, hcase, rfl, rfl, hbb, hx⟩ := hrel
    rcases hcase with ⟨rfl, hn⟩ | ⟨rfl, hn⟩ | ⟨rfl, hn⟩
    · have k34 := hx.cell (HF.out 34 (by decide))
      simp only [if_true, reduceIte, Nat.reduceEqDiff] at k34
      have t0' := hx.cell HT0.out
      have e34 : ((⟨#[34]⟩ : ByteArray)[0]'(by decide)).toNat = 34 := rfl
      have HN := Lib.hid hn
      have hnb : n + n34 ≤ s.size := by omega
      clear hn
      rcases Nat.eq_zero_or_pos n34 with hz | hz
      · have hnz : ((n34 : Int) != 0) = false := by simp; omega
        have HZ := Lib.hid hz
        clear hz
        go_wp2_with fail
        refine (HC34.out _).mono ?_
        rintro e w1 ⟨rfl, rfl⟩
        go_wp2
        go_roundw
        case rel => exact ⟨n34, bb, .inr (.inl ⟨rfl, rfl⟩), int_eq (by have := HZ.out; have := HN.out; omega), rfl, Lib.hid (by have := HZ.out; have := HN.out; rw [hbb.out, show n34 = n by omega]), hx⟩
        case measure => simp [RowKit.intOf]
      · have hnz : ((n34 : Int) != 0) = true := by simp; omega
        go_wp2_with fail
        refine (HC34.out _).mono ?_
        rintro e w1 ⟨rfl, rfl⟩
        go_wp2_with fail
        go_region
        all_goals
          go_wp2
          go_roundw
          case rel => exact ⟨n34, true, .inr (.inl ⟨rfl, rfl⟩), int_eq (by have := HN.out; omega), rfl, Lib.hid (by simp; omega), hx.drew⟩
          case measure => simp [RowKit.intOf]
    · have k34 := hx.cell (HF.out 92 (by decide))
      simp only [if_true, reduceIte, Nat.reduceEqDiff] at k34
      have t0' := hx.cell HT1.out
      have e34 : ((⟨#[92]⟩ : ByteArray)[0]'(by decide)).toNat = 92 := rfl
      have HN := Lib.hid hn
      have hnb : n + n92 ≤ s.size := by omega
      clear hn
      rcases Nat.eq_zero_or_pos n92 with hz | hz
      · have hnz : ((n92 : Int) != 0) = false := by simp; omega
        have HZ := Lib.hid hz
        clear hz
        go_wp2_with fail
        refine (HC92.out _).mono ?_
        rintro e w1 ⟨rfl, rfl⟩
        go_wp2
        go_roundw
        case rel => exact ⟨n34 + n92, bb, .inr (.inr ⟨rfl, rfl⟩), int_eq (by have := HZ.out; have := HN.out; omega), rfl, Lib.hid (by have := HZ.out; have := HN.out; rw [hbb.out, show n34 + n92 = n by omega]), hx⟩
        case measure => simp [RowKit.intOf]
      · have hnz : ((n92 : Int) != 0) = true := by simp; omega
        go_wp2_with fail
        refine (HC92.out _).mono ?_
        rintro e w1 ⟨rfl, rfl⟩
        go_wp2_with fail
        go_region
        all_goals
          go_wp2
          go_roundw
          case rel => exact ⟨n34 + n92, true, .inr (.inr ⟨rfl, rfl⟩), int_eq (by have := HN.out; omega), rfl, Lib.hid (by simp; omega), hx.drew⟩
          case measure => simp [RowKit.intOf]
    · obtain ⟨m, hm⟩ : ∃ m, m = (escL s.data.toList).length := ⟨_, rfl⟩
      have hmx : m = s.size + (n34 + n92) := by rw [hm, escL_len, ← size_len, HEX.out]
      have hms : (s.size : Int) + (n : Int) = (m : Int) := by omega
      rw [hms]
      have HN := Lib.hid hn
      clear hms hn
      have HM := Lib.hid hm; have HMX := Lib.hid hmx
      have hm64 : m ≤ 64 := by omega
      clear hm hmx
      cases bb
      · have hz : (n34 + n92) = 0 := by have hb := hbb.out; have := HN.out; simp at hb; omega
        have hid : escL s.data.toList = s.data.toList := escL_id _ (by rw [HEX.out]; exact hz)
        have HID := Lib.hid hid
        clear hid hz hbb
        go_wp2_with fail
        go_ret
        exact ⟨ret_val (by rw [HID.out]; rfl), hx⟩
      · clear hbb
        obtain ⟨wo, rfl⟩ : ∃ wo : World, wo = wr := ⟨_, rfl⟩
        have hmk := run_make_row' (P := Tryz.prog) 54 5 (.int .u8 0) 1 Tryz.underlying54 info_u8 rfl .i64 .i64 m (by omega) (by omega)
        go_wp2_with fail
        go_loopw [13, 14] (fun jj ii W => ∃ i q : Nat, i ≤ s.size ∧ ii = .int .i64 i ∧ jj = .int .i64 q ∧ Hid (q = (escL (s.data.toList.take i)).length) ∧ Hid (W.heap[wo.heap.size]? = some (.cells (bufC s.data.toList m i).toArray 5 (0, 0))) ∧ Ext w W) (fun _ ii _ => s.size - (RowKit.intOf ii).toNat)
        case atStart =>
          refine ⟨0, 0, by omega, rfl, rfl, Lib.hid rfl, Lib.hid ?_, hx.alloc _⟩
          rw [← bufC_zero]
          exact heap_alloc_new wo _
        case round =>
          obtain ⟨i, q, hi, rfl, rfl, hq, hW, hxW⟩ := hrel
          clear hmk
          have hnn := fun w a n c => run_neq_slice_nil_any (P := Tryz.prog) w 54 5 a n c 0 0 Tryz.underlying54
          by_cases hlt : i < s.size
          · have hsn := take_at s i hlt
            have hb256 : s[i].toNat < 256 := UInt8.toNat_lt _
            have hle1 := escL_take_le s.data.toList (i + 1)
            rw [hsn, escL_snoc, List.length_append, ← hq.out, ← HM.out] at hle1
            by_cases c34 : s[i].toNat = 34
            · have hbb : s[i] = 34 := UInt8.toNat_inj.1 c34
              have kc := hxW.cell (HF.out 34 (by decide))
              simp only [if_true, reduceIte, Nat.reduceEqDiff] at kc
              rw [hbb] at hsn hle1
              have a0 := hxW.cell HA0.out; have a1 := hxW.cell HA1.out
              rw [show escB 34 = [92, 34] from rfl] at hle1
              simp only [List.length_cons, List.length_nil] at hle1
              have hqm : q < m := by omega
              have hqle : q ≤ m := by omega
              have hqne : ¬ m = q := by omega
              have hwr : IntKind.i64.wrap ((q : Int) + 2) = (q : Int) + 2 := by rw [IntKind.wrap_i64]; omega
              have HSN := Lib.hid hsn
              have HMIN := Lib.hid (show Nat.min 2 (m - q) = 2 from Nat.min_eq_left (by omega))
              clear hsn hbb
              go_wp2_with fail
              go_region_law (refine step_copy_splice rfl (.tmp 105) (.tmp 111) 54 54 rfl 5 Tryz.underlying54 (by kernel_rfl) (some ⟨wo.heap.size, q, none⟩) (some ⟨p1, 0, none⟩) (m - q) (m - q) 2 c1 (by simp [Act.eval, Act.put]) (by simp [Act.eval, Act.put]) wo.heap.size q (bufC s.data.toList m i) 5 hW.out [.int .u8 92, .int .u8 34] (by rw [HMIN.out]; rfl) (fun _ => ⟨rfl, _, rfl, two_at a0 a1⟩) (by rw [bufC_len _ _ _ HM.out]; simp; omega) (by simp [Value.oneCell']) w.heap.size w hxW.drew hx.size ?_; intro w4 hg4 hx4)
              all_goals
                go_wp2
                go_roundw
                case rel =>
                  have e1 : escL (s.data.toList.take (i + 1)) = escL (s.data.toList.take i) ++ [92, 34] := by rw [HSN.out, escL_snoc]; rfl
                  refine ⟨i + 1, q + 2, by omega, by go_num, by go_num, Lib.hid (by rw [e1, List.length_append, ← hq.out]; rfl), Lib.hid ?_, hx4⟩
                  have hs := bufC_splice s.data.toList m i 34 HSN.out HM.out
                  rw [← hq.out] at hs
                  rw [← hs]; exact hg4.out
                case measure => simp [RowKit.intOf]; omega
            · by_cases c92 : s[i].toNat = 92
              · have hbb : s[i] = 92 := UInt8.toNat_inj.1 c92
                have kc := hxW.cell (HF.out 92 (by decide))
                simp only [if_true, reduceIte, Nat.reduceEqDiff] at kc
                rw [hbb] at hsn hle1
                have a0 := hxW.cell HB0.out; have a1 := hxW.cell HB1.out
                rw [show escB 92 = [92, 92] from rfl] at hle1
                simp only [List.length_cons, List.length_nil] at hle1
                have hqm : q < m := by omega
                have hqle : q ≤ m := by omega
                have hqne : ¬ m = q := by omega
                have hwr : IntKind.i64.wrap ((q : Int) + 2) = (q : Int) + 2 := by rw [IntKind.wrap_i64]; omega
                have HSN := Lib.hid hsn
                have HMIN := Lib.hid (show Nat.min 2 (m - q) = 2 from Nat.min_eq_left (by omega))
                clear hsn hbb
                go_wp2_with fail
                go_region_law (refine step_copy_splice rfl (.tmp 105) (.tmp 111) 54 54 rfl 5 Tryz.underlying54 (by kernel_rfl) (some ⟨wo.heap.size, q, none⟩) (some ⟨p2, 0, none⟩) (m - q) (m - q) 2 c2 (by simp [Act.eval, Act.put]) (by simp [Act.eval, Act.put]) wo.heap.size q (bufC s.data.toList m i) 5 hW.out [.int .u8 92, .int .u8 92] (by rw [HMIN.out]; rfl) (fun _ => ⟨rfl, _, rfl, two_at a0 a1⟩) (by rw [bufC_len _ _ _ HM.out]; simp; omega) (by simp [Value.oneCell']) w.heap.size w hxW.drew hx.size ?_; intro w4 hg4 hx4)
                all_goals
                  go_wp2
                  go_roundw
                  case rel =>
                    have e1 : escL (s.data.toList.take (i + 1)) = escL (s.data.toList.take i) ++ [92, 92] := by rw [HSN.out, escL_snoc]; rfl
                    refine ⟨i + 1, q + 2, by omega, by go_num, by go_num, Lib.hid (by rw [e1, List.length_append, ← hq.out]; rfl), Lib.hid ?_, hx4⟩
                    have hs := bufC_splice s.data.toList m i 92 HSN.out HM.out
                    rw [← hq.out] at hs
                    rw [← hs]; exact hg4.out
                  case measure => simp [RowKit.intOf]; omega
              · have hes : ¬ (s[i] = 34 ∨ s[i] = 92) := fun h => h.elim (fun e => c34 (by rw [e]; rfl)) (fun e => c92 (by rw [e]; rfl))
                have kc := hxW.cell (HF.out s[i].toNat hb256)
                rw [if_neg c34, if_neg c92] at kc
                rw [show escB s[i] = [s[i]] from if_neg hes] at hle1
                simp only [List.length_cons, List.length_nil] at hle1
                have hqm : q < m := by omega
                have HSN := Lib.hid hsn
                have HES := Lib.hid hes
                have kq : wr.cell? ⟨wo.heap.size, q, none⟩ = some (.int .u8 0) := by
                  rw [cell_of_blk hW.out, hq.out]
                  unfold bufC
                  rw [List.getElem?_toArray, List.getElem?_append_right (by simp), List.length_map, Nat.sub_self, List.getElem?_replicate, if_pos (by rw [← hq.out]; omega)]
                have kf := frozen_of_blk hW.out q
                clear hsn hes c34 c92
                go_wp2_with fail
                go_roundw
                case rel =>
                  have e1 : escL (s.data.toList.take (i + 1)) = escL (s.data.toList.take i) ++ [s[i]] := by rw [HSN.out, escL_snoc, show escB s[i] = [s[i]] from if_neg HES.out]
                  refine ⟨i + 1, q + 1, by omega, by go_num, by go_num, Lib.hid (by rw [e1, List.length_append, ← hq.out]; rfl), Lib.hid ?_, hxW.setCell (p := ⟨wo.heap.size, q, none⟩) hx.size _⟩
                  have hs := bufC_set s.data.toList m i s[i] HSN.out HM.out HES.out (by rw [← hq.out]; exact hqm)
                  rw [← hq.out] at hs
                  rw [← hs]; exact heap_setCell_same wr _ q _ _ _ hW.out
                case measure => simp [RowKit.intOf]; omega
          · obtain rfl : i = s.size := by omega
            have hfull : bufC s.data.toList m s.size = (escL s.data.toList).map fun b => Value.int .u8 b.toNat := by
              unfold bufC
              rw [List.take_of_length_le (by rw [← size_len]; exact Nat.le_refl _), ← HM.out, Nat.sub_self]
              simp
            have hcv := run_convert_bytes_back (P := Tryz.prog) wr 54 9 5 ⟨wo.heap.size, 0, none⟩ m (escL s.data.toList) Tryz.underlying54 Tryz.underlying5 Tryz.underlying9 (fun j hj => by
              have e : (⟨wo.heap.size, 0, none⟩ : Addr).add j = ⟨wo.heap.size, j, none⟩ := by simp [Addr.add]; exact fun h => h.symm
              rw [e, cell_of_blk hW.out, hfull, List.getElem?_toArray, List.getElem?_map, List.getElem?_eq_getElem hj]; rfl)
            rw [← HM.out] at hcv
            clear hnn
            go_wp2_with fail
            go_ret
            exact ⟨rfl, hxW⟩

set_option maxHeartbeats 4000000 in
set_option maxRecDepth 100000 in
theorem repl_little (k : Nat) (s : ByteArray) (w : World) (h1 : s.size < 16) (hr : RepAt w k) :
    Calls Tryz.prog 195 #[.pointer (some ⟨k, 0, none⟩), .string s] w fun e w' => e = .returned (.string ⟨(escL s.data.toList).toArray⟩) ∧ Ext w w' := by
  obtain ⟨s34, s92, v, hc, ⟨p1, c1, rfl, a0, a1⟩, ⟨p2, c2, rfl, b0, b1⟩, hv, t, ct, rfl, t0, t1⟩ := hr.at_
  have HF := Lib.hid hc; have HA0 := Lib.hid a0; have HA1 := Lib.hid a1; have HB0 := Lib.hid b0; have HB1 := Lib.hid b1
  clear hc a0 a1 b0 b1 t0 t1 hr
  have h16 : decide ((16 : Int) ≤ (s.size : Int)) = false := by simp; omega
  go_enter Tryz.func195, Tryz.ntmps195
  go_wp2_with fail
  go_loopw [5, 6, 10] (fun ns an ix wr => ∃ (i n : Nat) (bb : Bool), i ≤ s.size ∧ ix = .int .i64 i ∧ n ≤ i ∧ Hid (n = ex (s.data.toList.take i)) ∧ ns = .int .i64 ((s.size : Int) + (n : Int)) ∧ an = .bool bb ∧ Hid (bb = decide (0 < n)) ∧ Ext w wr) (fun _ _ ix _ => s.size - (RowKit.intOf ix).toNat)
  case atStart => exact ⟨0, 0, false, by omega, rfl, by omega, Lib.hid rfl, by simp, rfl, Lib.hid (by simp), Ext.refl _⟩
  case round =>
    obtain ⟨i, n, bb, hi, rfl, hni, hn, rfl, rfl, hbb, hx⟩ := hrel
    by_cases hlt : i < s.size
    · have hnn := fun w a n c => run_neq_slice_nil_any (P := Tryz.prog) w 54 5 a n c 0 0 Tryz.underlying54
      have hsn := take_at s i hlt
      have hb256 : s[i].toNat < 256 := UInt8.toNat_lt _
      by_cases c34 : s[i].toNat = 34
      · have hbb' : s[i] = 34 := UInt8.toNat_inj.1 c34
        have kc := hx.cell (HF.out 34 (by decide))
        simp only [if_true, reduceIte, Nat.reduceEqDiff] at kc
        have hex1 := ex_snoc (s.data.toList.take i) 34
        rw [← hbb', ← hsn, hbb', if_pos (by simp), ← hn.out] at hex1
        have HX1 := Lib.hid hex1
        clear hsn hex1 hbb'
        go_wp2_with fail
        go_roundw
        case rel => exact ⟨i + 1, n + 1, true, by omega, by go_num, by omega, Lib.hid HX1.out.symm, by go_num, rfl, Lib.hid (by simp), hx⟩
        case measure => simp [RowKit.intOf]; omega
      · by_cases c92 : s[i].toNat = 92
        · have hbb' : s[i] = 92 := UInt8.toNat_inj.1 c92
          have kc := hx.cell (HF.out 92 (by decide))
          simp only [if_true, reduceIte, Nat.reduceEqDiff] at kc
          have hex1 := ex_snoc (s.data.toList.take i) 92
          rw [← hbb', ← hsn, hbb', if_pos (by simp), ← hn.out] at hex1
          have HX1 := Lib.hid hex1
          clear hsn hex1 hbb'
          go_wp2_with fail
          go_roundw
          case rel => exact ⟨i + 1, n + 1, true, by omega, by go_num, by omega, Lib.hid HX1.out.symm, by go_num, rfl, Lib.hid (by simp), hx⟩
          case measure => simp [RowKit.intOf]; omega
        · have hes : ¬ (s[i] = 34 ∨ s[i] = 92) := fun h => h.elim (fun e => c34 (by rw [e]; rfl)) (fun e => c92 (by rw [e]; rfl))
          have kc := hx.cell (HF.out s[i].toNat hb256)
          rw [if_neg c34, if_neg c92] at kc
          have hex1 := ex_snoc (s.data.toList.take i) s[i]
          rw [← hsn, if_neg hes, ← hn.out] at hex1
          have HX1 := Lib.hid hex1
          clear hsn hex1 hes c34 c92
          go_wp2_with fail
          go_roundw
          case rel => exact ⟨i + 1, n, bb, by omega, by go_num, by omega, Lib.hid HX1.out.symm, rfl, rfl, hbb, hx⟩
          case measure => simp [RowKit.intOf]; omega
    · obtain rfl : i = s.size := by omega
      have HEX : Hid (ex s.data.toList = n) := Lib.hid (by rw [hn.out, List.take_of_length_le (by rw [← size_len]; exact Nat.le_refl _)])
      clear hn
      obtain ⟨m, hm⟩ : ∃ m, m = (escL s.data.toList).length := ⟨_, rfl⟩
      have hmx : m = s.size + n := by rw [hm, escL_len, ← size_len, HEX.out]
      have hms : (s.size : Int) + (n : Int) = (m : Int) := by omega
      rw [hms]
      clear hms
      have HM := Lib.hid hm; have HMX := Lib.hid hmx
      have hm64 : m ≤ 64 := by omega
      clear hm hmx
      cases bb
      · have hz : n = 0 := by have hb := hbb.out; simp at hb; omega
        have hid : escL s.data.toList = s.data.toList := escL_id _ (by rw [HEX.out]; exact hz)
        have HID := Lib.hid hid
        clear hid hz hbb
        go_wp2_with fail
        go_ret
        exact ⟨ret_val (by rw [HID.out]; rfl), hx⟩
      · clear hbb
        obtain ⟨wo, rfl⟩ : ∃ wo : World, wo = wr := ⟨_, rfl⟩
        have hmk := run_make_row' (P := Tryz.prog) 54 5 (.int .u8 0) 1 Tryz.underlying54 info_u8 rfl .i64 .i64 m (by omega) (by omega)
        go_wp2_with fail
        go_loopw [13, 14] (fun jj ii W => ∃ i q : Nat, i ≤ s.size ∧ ii = .int .i64 i ∧ jj = .int .i64 q ∧ Hid (q = (escL (s.data.toList.take i)).length) ∧ Hid (W.heap[wo.heap.size]? = some (.cells (bufC s.data.toList m i).toArray 5 (0, 0))) ∧ Ext w W) (fun _ ii _ => s.size - (RowKit.intOf ii).toNat)
        case atStart =>
          refine ⟨0, 0, by omega, rfl, rfl, Lib.hid rfl, Lib.hid ?_, hx.alloc _⟩
          rw [← bufC_zero]
          exact heap_alloc_new wo _
        case round =>
          obtain ⟨i, q, hi, rfl, rfl, hq, hW, hxW⟩ := hrel
          clear hmk
          have hnn := fun w a n c => run_neq_slice_nil_any (P := Tryz.prog) w 54 5 a n c 0 0 Tryz.underlying54
          by_cases hlt : i < s.size
          · have hsn := take_at s i hlt
            have hb256 : s[i].toNat < 256 := UInt8.toNat_lt _
            have hle1 := escL_take_le s.data.toList (i + 1)
            rw [hsn, escL_snoc, List.length_append, ← hq.out, ← HM.out] at hle1
            by_cases c34 : s[i].toNat = 34
            · have hbb : s[i] = 34 := UInt8.toNat_inj.1 c34
              have kc := hxW.cell (HF.out 34 (by decide))
              simp only [if_true, reduceIte, Nat.reduceEqDiff] at kc
              rw [hbb] at hsn hle1
              have a0 := hxW.cell HA0.out; have a1 := hxW.cell HA1.out
              rw [show escB 34 = [92, 34] from rfl] at hle1
              simp only [List.length_cons, List.length_nil] at hle1
              have hqm : q < m := by omega
              have hqle : q ≤ m := by omega
              have hqne : ¬ m = q := by omega
              have hwr : IntKind.i64.wrap ((q : Int) + 2) = (q : Int) + 2 := by rw [IntKind.wrap_i64]; omega
              have HSN := Lib.hid hsn
              have HMIN := Lib.hid (show Nat.min 2 (m - q) = 2 from Nat.min_eq_left (by omega))
              clear hsn hbb
              go_wp2_with fail
              go_region_law (refine step_copy_splice rfl (.tmp 105) (.tmp 111) 54 54 rfl 5 Tryz.underlying54 (by kernel_rfl) (some ⟨wo.heap.size, q, none⟩) (some ⟨p1, 0, none⟩) (m - q) (m - q) 2 c1 (by simp [Act.eval, Act.put]) (by simp [Act.eval, Act.put]) wo.heap.size q (bufC s.data.toList m i) 5 hW.out [.int .u8 92, .int .u8 34] (by rw [HMIN.out]; rfl) (fun _ => ⟨rfl, _, rfl, two_at a0 a1⟩) (by rw [bufC_len _ _ _ HM.out]; simp; omega) (by simp [Value.oneCell']) w.heap.size w hxW.drew hx.size ?_; intro w4 hg4 hx4)
              all_goals
                go_wp2
                go_roundw
                case rel =>
                  have e1 : escL (s.data.toList.take (i + 1)) = escL (s.data.toList.take i) ++ [92, 34] := by rw [HSN.out, escL_snoc]; rfl
                  refine ⟨i + 1, q + 2, by omega, by go_num, by go_num, Lib.hid (by rw [e1, List.length_append, ← hq.out]; rfl), Lib.hid ?_, hx4⟩
                  have hs := bufC_splice s.data.toList m i 34 HSN.out HM.out
                  rw [← hq.out] at hs
                  rw [← hs]; exact hg4.out
                case measure => simp [RowKit.intOf]; omega
            · by_cases c92 : s[i].toNat = 92
              · have hbb : s[i] = 92 := UInt8.toNat_inj.1 c92
                have kc := hxW.cell (HF.out 92 (by decide))
                simp only [if_true, reduceIte, Nat.reduceEqDiff] at kc
                rw [hbb] at hsn hle1
                have a0 := hxW.cell HB0.out; have a1 := hxW.cell HB1.out
                rw [show escB 92 = [92, 92] from rfl] at hle1
                simp only [List.length_cons, List.length_nil] at hle1
                have hqm : q < m := by omega
                have hqle : q ≤ m := by omega
                have hqne : ¬ m = q := by omega
                have hwr : IntKind.i64.wrap ((q : Int) + 2) = (q : Int) + 2 := by rw [IntKind.wrap_i64]; omega
                have HSN := Lib.hid hsn
                have HMIN := Lib.hid (show Nat.min 2 (m - q) = 2 from Nat.min_eq_left (by omega))
                clear hsn hbb
                go_wp2_with fail
                go_region_law (refine step_copy_splice rfl (.tmp 105) (.tmp 111) 54 54 rfl 5 Tryz.underlying54 (by kernel_rfl) (some ⟨wo.heap.size, q, none⟩) (some ⟨p2, 0, none⟩) (m - q) (m - q) 2 c2 (by simp [Act.eval, Act.put]) (by simp [Act.eval, Act.put]) wo.heap.size q (bufC s.data.toList m i) 5 hW.out [.int .u8 92, .int .u8 92] (by rw [HMIN.out]; rfl) (fun _ => ⟨rfl, _, rfl, two_at a0 a1⟩) (by rw [bufC_len _ _ _ HM.out]; simp; omega) (by simp [Value.oneCell']) w.heap.size w hxW.drew hx.size ?_; intro w4 hg4 hx4)
                all_goals
                  go_wp2
                  go_roundw
                  case rel =>
                    have e1 : escL (s.data.toList.take (i + 1)) = escL (s.data.toList.take i) ++ [92, 92] := by rw [HSN.out, escL_snoc]; rfl
                    refine ⟨i + 1, q + 2, by omega, by go_num, by go_num, Lib.hid (by rw [e1, List.length_append, ← hq.out]; rfl), Lib.hid ?_, hx4⟩
                    have hs := bufC_splice s.data.toList m i 92 HSN.out HM.out
                    rw [← hq.out] at hs
                    rw [← hs]; exact hg4.out
                  case measure => simp [RowKit.intOf]; omega
              · have hes : ¬ (s[i] = 34 ∨ s[i] = 92) := fun h => h.elim (fun e => c34 (by rw [e]; rfl)) (fun e => c92 (by rw [e]; rfl))
                have kc := hxW.cell (HF.out s[i].toNat hb256)
                rw [if_neg c34, if_neg c92] at kc
                rw [show escB s[i] = [s[i]] from if_neg hes] at hle1
                simp only [List.length_cons, List.length_nil] at hle1
                have hqm : q < m := by omega
                have HSN := Lib.hid hsn
                have HES := Lib.hid hes
                have kq : wr.cell? ⟨wo.heap.size, q, none⟩ = some (.int .u8 0) := by
                  rw [cell_of_blk hW.out, hq.out]
                  unfold bufC
                  rw [List.getElem?_toArray, List.getElem?_append_right (by simp), List.length_map, Nat.sub_self, List.getElem?_replicate, if_pos (by rw [← hq.out]; omega)]
                have kf := frozen_of_blk hW.out q
                clear hsn hes c34 c92
                go_wp2_with fail
                go_roundw
                case rel =>
                  have e1 : escL (s.data.toList.take (i + 1)) = escL (s.data.toList.take i) ++ [s[i]] := by rw [HSN.out, escL_snoc, show escB s[i] = [s[i]] from if_neg HES.out]
                  refine ⟨i + 1, q + 1, by omega, by go_num, by go_num, Lib.hid (by rw [e1, List.length_append, ← hq.out]; rfl), Lib.hid ?_, hxW.setCell (p := ⟨wo.heap.size, q, none⟩) hx.size _⟩
                  have hs := bufC_set s.data.toList m i s[i] HSN.out HM.out HES.out (by rw [← hq.out]; exact hqm)
                  rw [← hq.out] at hs
                  rw [← hs]; exact heap_setCell_same wr _ q _ _ _ hW.out
                case measure => simp [RowKit.intOf]; omega
          · obtain rfl : i = s.size := by omega
            have hfull : bufC s.data.toList m s.size = (escL s.data.toList).map fun b => Value.int .u8 b.toNat := by
              unfold bufC
              rw [List.take_of_length_le (by rw [← size_len]; exact Nat.le_refl _), ← HM.out, Nat.sub_self]
              simp
            have hcv := run_convert_bytes_back (P := Tryz.prog) wr 54 9 5 ⟨wo.heap.size, 0, none⟩ m (escL s.data.toList) Tryz.underlying54 Tryz.underlying5 Tryz.underlying9 (fun j hj => by
              have e : (⟨wo.heap.size, 0, none⟩ : Addr).add j = ⟨wo.heap.size, j, none⟩ := by simp [Addr.add]; exact fun h => h.symm
              rw [e, cell_of_blk hW.out, hfull, List.getElem?_toArray, List.getElem?_map, List.getElem?_eq_getElem hj]; rfl)
            rw [← HM.out] at hcv
            clear hnn
            go_wp2_with fail
            go_ret
            exact ⟨rfl, hxW⟩

theorem repl_any (k : Nat) (s : ByteArray) (w : World) (h : s.size ≤ 32) (hr : RepAt w k) :
    Calls Tryz.prog 195 #[.pointer (some ⟨k, 0, none⟩), .string s] w fun e w' => e = .returned (.string ⟨(escL s.data.toList).toArray⟩) ∧ Ext w w' := by
  by_cases h1 : s.size < 16
  · exact repl_little k s w h1 hr
  · exact repl_big k s w (by omega) h hr
end Go.Proofs.YtnjnfkfmkbnkhaaGreatDoor.Qo

/- The document's token at the head of a text, as a plain function, and that it is the program's; no program in sight. -/
namespace Go.Proofs.YtnjnfkfmkbnkhaaGreatDoor.Lx
open Go.Lib Fx

def isM (l : List UInt8) : Bool := l == [123] || l == [125] || l == [91] || l == [93] || l == [59] || l == [44] || l == [61] || l == [58] || l == [45, 62] || l == [45, 45]
def numR (s : List UInt8) : Nat := if isD (bt s 0) || (bt s 0 == 45 && decide (1 < s.length) && isD (bt s 1)) then numN s else 0
def oneR (s : List UInt8) : Tok × Nat × Int :=
  if 0 < wordN s then
    if kw (s.take (wordN s)) then (⟨2, s.take (wordN s), 0, 0⟩, wordN s, 0)
    else if 16 < wordN s then (⟨0, [], 0, 0⟩, 0, 2)
    else (⟨1, s.take (wordN s), 0, 0⟩, wordN s, 0)
  else if 0 < numR s then (⟨3, [], (parse (s.take (numR s))).1, 0⟩, numR s, (parse (s.take (numR s))).2)
  else if bt s 0 == 34 then
    (⟨4, (contents false [] 0 (s.drop 1)).1, 0, 0⟩, if (contents false [] 0 (s.drop 1)).2.2 = 0 then (contents false [] 0 (s.drop 1)).2.1 + 1 else (contents false [] 0 (s.drop 1)).2.1, (contents false [] 0 (s.drop 1)).2.2)
  else if decide (1 < s.length) && isM (s.take 2) then (⟨5, s.take 2, 0, 0⟩, 2, 0)
  else if isM (s.take 1) then (⟨5, s.take 1, 0, 0⟩, 1, 0)
  else (⟨0, [], 0, 0⟩, 0, 4)

theorem mark_ref (s : List UInt8) (h : 0 < s.length) : (match markOf s marks with | some m => ((⟨5, m, 0, 0⟩ : Tok), m.length, (0 : Int)) | none => (⟨0, [], 0, 0⟩, 0, 4)) =
    if decide (1 < s.length) && isM (s.take 2) then (⟨5, s.take 2, 0, 0⟩, 2, 0) else if isM (s.take 1) then (⟨5, s.take 1, 0, 0⟩, 1, 0) else (⟨0, [], 0, 0⟩, 0, 4) := by
  have single : ∀ (a : UInt8) (r : List UInt8), (∀ y, y = 62 ∨ y = 45 → ([45, y] : List UInt8).isPrefixOf (a :: r) = false) →
      (match markOf (a :: r) marks with | some m => ((⟨5, m, 0, 0⟩ : Tok), m.length, (0 : Int)) | none => (⟨0, [], 0, 0⟩, 0, 4)) = if isM [a] then (⟨5, [a], 0, 0⟩, 1, 0) else (⟨0, [], 0, 0⟩, 0, 4) := by
    intro a r h2
    have e1 := h2 62 (.inl rfl)
    have e2 := h2 45 (.inr rfl)
    have e3 : ∀ b : UInt8, ([b] : List UInt8).isPrefixOf (a :: r) = (b == a) := fun b => by simp [List.isPrefixOf]
    simp only [markOf, marks, e1, e2, e3]
    by_cases c1 : a = 123
    · subst c1; rfl
    by_cases c2 : a = 125
    · subst c2; rfl
    by_cases c3 : a = 91
    · subst c3; rfl
    by_cases c4 : a = 93
    · subst c4; rfl
    by_cases c5 : a = 59
    · subst c5; rfl
    by_cases c6 : a = 44
    · subst c6; rfl
    by_cases c7 : a = 61
    · subst c7; rfl
    by_cases c8 : a = 58
    · subst c8; rfl
    have n : ∀ k : UInt8, a ≠ k → (k == a) = false := fun k hk => by rw [beq_eq_false_iff_ne]; exact fun e => hk e.symm
    simp [isM, n 123 c1, n 125 c2, n 91 c3, n 93 c4, n 59 c5, n 44 c6, n 61 c7, n 58 c8, c1, c2, c3, c4, c5, c6, c7, c8]
  match s, h with
  | [a], _ =>
    rw [single a [] (fun y _ => by simp [List.isPrefixOf])]
    rfl
  | a :: b :: r, _ =>
    show _ = (if decide (1 < (a :: b :: r).length) && isM [a, b] then ((⟨5, [a, b], 0, 0⟩ : Tok), (2 : Nat), (0 : Int)) else if isM [a] then ((⟨5, [a], 0, 0⟩ : Tok), (1 : Nat), (0 : Int)) else ((⟨0, [], 0, 0⟩ : Tok), (0 : Nat), (4 : Int)))
    rw [decide_eq_true (show 1 < (a :: b :: r).length by simp), Bool.true_and]
    by_cases h45 : a = 45
    · subst h45
      by_cases hb : b = 62
      · subst hb; rfl
      by_cases hb2 : b = 45
      · subst hb2; rfl
      have hm : isM [45, b] = false := by simp [isM, hb, hb2]
      rw [hm, single 45 (b :: r) (fun y hy => by
        simp only [List.isPrefixOf, beq_self_eq_true, Bool.true_and, Bool.and_true]
        rcases hy with rfl | rfl
        · rw [beq_eq_false_iff_ne]; exact fun e => hb e.symm
        · rw [beq_eq_false_iff_ne]; exact fun e => hb2 e.symm)]
      rfl
    · have hm : isM [a, b] = false := by simp [isM, h45]
      rw [hm, single a (b :: r) (fun y _ => by
        have : ((45 : UInt8) == a) = false := by rw [beq_eq_false_iff_ne]; exact fun e => h45 e.symm
        simp [List.isPrefixOf, this])]
      rfl
theorem numR_pos (s : List UInt8) : (0 < numR s ↔ (isD (bt s 0) || (bt s 0 == 45 && decide (1 < s.length) && isD (bt s 1))) = true) ∧ (0 < numR s → numR s = numN s) := by
  have h := scan_ge (okN s) (s.length - 1) 1
  unfold numR numN
  constructor
  · constructor
    · intro h1
      split at h1
      · assumption
      · omega
    · intro h1
      rw [if_pos h1]; omega
  · intro h1
    split at h1
    · rename_i h2; rw [if_pos h2]
    · omega
/-- The document's token and the program's: the same error, and without an error the same. -/
theorem oneR_next (s : List UInt8) (h : 0 < s.length) : (oneR s).2.2 = (next s).2.2 ∧ ((next s).2.2 = 0 → oneR s = next s) := by
  unfold oneR next
  rw [← mark_ref s h]
  by_cases h1 : 0 < wordN s
  · rw [if_pos h1, if_pos h1]; exact ⟨rfl, fun _ => rfl⟩
  rw [if_neg h1, if_neg h1]
  by_cases h2 : (isD (bt s 0) || (bt s 0 == 45 && decide (1 < s.length) && isD (bt s 1))) = true
  · have h3 := (numR_pos s).1.2 h2
    rw [if_pos h3, if_pos h2, (numR_pos s).2 h3]
    by_cases h4 : (parse (s.take (numN s))).2 = 0
    · rw [if_pos h4]
      exact ⟨h4, fun _ => by rw [h4]⟩
    · rw [if_neg h4]
      exact ⟨rfl, fun x => absurd x h4⟩
  rw [if_neg (fun x => h2 ((numR_pos s).1.1 x)), if_neg h2]
  by_cases h3 : (bt s 0 == 34) = true
  · rw [if_pos h3, if_pos h3]
    by_cases h4 : (contents false [] 0 (s.drop 1)).2.2 = 0
    · rw [if_pos h4, if_pos h4]
      exact ⟨h4, fun _ => by rw [h4]⟩
    · rw [if_neg h4, if_neg h4]
      exact ⟨rfl, fun x => absurd x h4⟩
  rw [if_neg h3, if_neg h3]
  exact ⟨rfl, fun _ => rfl⟩
end Go.Proofs.YtnjnfkfmkbnkhaaGreatDoor.Lx
