/- Packed texts: QuoRep, LexBuild, LexWalkA -/
import Derived.Test.YtnjnfkfmkbnkhaaGreatDoorPa08
import Derived.Test.YtnjnfkfmkbnkhaaGreatDoorRows
import Derived.Test.YtnjnfkfmkbnkhaaGreatDoorShelf
import Derived.WalkKit
import Derived.Lib.Hide
import Derived.BigCall
import Derived.Test.YtnjnfkfmkbnkhaaGreatDoorPa04
import Derived.Test.YtnjnfkfmkbnkhaaGreatDoorPa01
set_option linter.unusedVariables false
set_option linter.unusedSimpArgs false
/- buildOnce and NewReplacer at the four texts of Quote. -/
namespace Go.Proofs.YtnjnfkfmkbnkhaaGreatDoor.Qo
open Go.RowKit Go.Lib Fx

theorem RepAt.kept {w w' : World} {k : Nat} (h : RepAt w k) (hs : w.heap.size ≤ w'.heap.size) (hk : ∀ (p : Nat) (C : Array Value) (T : TypeId) (fz : Nat × Nat), T = 5 ∨ T = 9 ∨ T = 169 → w.heap[p]? = some (.cells C T fz) → w'.heap[p]? = some (.cells C T fz)) : RepAt w' k := by
  obtain ⟨B, s34, s92, v, hr, h34, h92⟩ := h
  refine ⟨B, s34, s92, v, ⟨hk _ _ _ _ (.inr (.inr rfl)) hr.blk, ?_⟩, h34.kept fun p C fz hp => hk _ _ _ _ (.inl rfl) hp, h92.kept fun p C fz hp => hk _ _ _ _ (.inl rfl) hp⟩
  have ho := hr.own
  refine ⟨ho.1, ?_⟩
  rcases ho.2 with h1 | ⟨g, cap, cur, hv, hb, hg, r⟩
  · exact .inl h1
  · exact .inr ⟨g, cap, cur, hv, hb, hk _ _ _ _ (.inr (.inl rfl)) hg, r⟩

/-- What buildOnce leaves. -/
def Built (B rb : Nat) (w w' : World) : Prop := ∃ k, w'.heap[rb]? = some (.cells #[.int .u32 0, .int .i32 1, .int .u32 0, .iface 170 (.pointer (some ⟨k, 0, none⟩)), .slice none 0 0] 136 (0, 0)) ∧ RepAt w' k ∧ Below B w w'

set_option maxHeartbeats 1600000 in
set_option maxRecDepth 100000 in
theorem buildOnce_any (B rb g cap : Nat) (w : World) (hB : B ≤ rb) (hb : w.heap[rb]? = some (.cells #[.int .u32 0, .int .i32 1, .int .u32 0, .nilIface, .slice (some ⟨g, 0, none⟩) 4 cap] 136 (0, 0)))
    (g0 : w.cell? ⟨g, 0, none⟩ = some (.string ⟨#[92]⟩)) (g1 : w.cell? ⟨g, 1, none⟩ = some (.string ⟨#[92, 92]⟩)) (g2 : w.cell? ⟨g, 2, none⟩ = some (.string ⟨#[34]⟩)) (g3 : w.cell? ⟨g, 3, none⟩ = some (.string ⟨#[92, 34]⟩)) :
    Calls Tryz.prog 109 #[.pointer (some ⟨rb, 0, none⟩)] w fun e w' => e = .returned (.tuple #[]) ∧ Built B rb w w' := by
  have c4 : w.cell? ⟨rb, 4, none⟩ = some (.slice (some ⟨g, 0, none⟩) 4 cap) := cell_of_blk hb 4
  have hlt := (Array.getElem?_eq_some_iff.1 hb).1
  have HBd := Lib.hid (build_any rb g cap w c4 g0 g1 g2 g3)
  have HB := Lib.hid hb
  clear g0 g1 g2 g3 c4 hb
  go_enter Tryz.func109, Tryz.ntmps109
  go_wp2_with fail
  refine HBd.out.mono ?_
  rintro e w1 ⟨⟨k, rfl, hk, hr⟩, hx⟩
  have hb1 : w1.heap[rb]? = some (.cells #[.int .u32 0, .int .i32 1, .int .u32 0, .nilIface, .slice (some ⟨g, 0, none⟩) 4 cap] 136 (0, 0)) := (hx.block rb hlt).trans HB.out
  have d3 : w1.cell? ⟨rb, 3, none⟩ = some .nilIface := cell_of_blk hb1 3
  have d4 : w1.cell? ⟨rb, 4, none⟩ = some (.slice (some ⟨g, 0, none⟩) 4 cap) := cell_of_blk hb1 4
  have f3 := frozen_of_blk hb1 3
  have f4 := frozen_of_blk hb1 4
  have HR := Lib.hid hr
  have HB1 := Lib.hid hb1
  clear hb1 hr HBd
  go_wp2_with fail
  go_end0
  refine ⟨rfl, k, ?_, ?_, ?_⟩
  · exact heap_setCell_same _ rb 4 _ 136 (.slice none 0 0) (heap_setCell_same w1 rb 3 _ 136 _ HB1.out)
  · refine HR.out.kept (by simp [World.setCell]) fun p C T fz hT hp => ?_
    have hne : p ≠ rb := by
      rintro rfl
      rw [HB1.out] at hp
      injection hp with hp
      injection hp with _ ht
      rcases hT with rfl | rfl | rfl <;> exact absurd ht (by decide)
    rw [heap_setCell_other _ ⟨rb, 4, none⟩ p _ hne, heap_setCell_other _ ⟨rb, 3, none⟩ p _ hne]; exact hp
  · exact ((hx.mono (by omega)).setCell (p := ⟨rb, 3, none⟩) hB _).setCell (p := ⟨rb, 4, none⟩) hB _

theorem info_str4 : (Tryz.prog.info? 9).map (fun i => (i.zero, i.size, i.bytes)) = some (some (.string ⟨#[]⟩), 1, 16) := info_str
def oldnew : List Value := [.string ⟨#[92]⟩, .string ⟨#[92, 92]⟩, .string ⟨#[34]⟩, .string ⟨#[92, 34]⟩]

set_option maxHeartbeats 1600000 in
set_option maxRecDepth 100000 in
theorem newReplacer_any (w : World) :
    Calls Tryz.prog 95 #[.slice (some ⟨w.heap.size, 0, none⟩) 4 4] (w.alloc (.cells oldnew.toArray 9)) fun e w' => ∃ rb g cap, e = .returned (.pointer (some ⟨rb, 0, none⟩)) ∧ w.heap.size ≤ rb ∧
      w'.heap[rb]? = some (.cells #[.int .u32 0, .int .i32 0, .int .u32 0, .nilIface, .slice (some ⟨g, 0, none⟩) 4 cap] 136 (0, 0)) ∧
      (∀ j u, oldnew[j]? = some u → w'.cell? ⟨g, j, none⟩ = some u) ∧ g ≠ rb ∧ Ext w w' := by
  obtain ⟨i0, hi, hz0, hz1, hz2⟩ := info_parts info_str
  have hb0 := heap_alloc_new w (.cells oldnew.toArray 9)
  obtain ⟨w0, hw0⟩ : ∃ w0, w0 = w.alloc (.cells oldnew.toArray 9) := ⟨_, rfl⟩
  have hx0 : Ext w w0 := by rw [hw0]; exact (Ext.refl _).alloc _
  rw [← hw0] at hb0 ⊢
  have hs0 : w0.heap.size = w.heap.size + 1 := by rw [hw0]; simp
  have HB := Lib.hid hb0
  have HS := Lib.hid hs0
  clear hw0 hb0 hs0
  go_enter Tryz.func95, Tryz.ntmps95
  go_wp2_with (at_builtin; refine wpList_append_own _ rfl _ _ 37 rfl w.heap.size 9 i0 (.string ⟨#[]⟩) 1 16 Tryz.underlying37 hi hz0 hz1 hz2 rfl (by decide) _ 0 [] rfl (World.ownsRow_nil _ _ _ _) ⟨w.heap.size, 0, none⟩ 4 4 oldnew rfl rfl ?c1 ?c2 ?c3 ?c4 ?c5 ?_)
  case c1 =>
    intro j u hj
    have e : (⟨w.heap.size, 0, none⟩ : Addr).add j = ⟨w.heap.size, j, none⟩ := by simp [Addr.add]; exact fun h => h.symm
    rw [e, cell_of_blk HB.out]
    simpa using hj
  case c2 => intro u hu; simp [oldnew] at hu; rcases hu with rfl | rfl | rfl | rfl <;> rfl
  case c3 => simp [maxLen]
  case c4 => simp
  case c5 => have := HS.out; omega
  intro v' w2 hown' hgrow _
  obtain ⟨q, cp, rfl⟩ : ∃ q cp, v' = .slice (some ⟨q, 0, none⟩) 4 cp := by
    rcases hown'.2 with ⟨_, h0⟩ | ⟨q, cp, cur, hv, _⟩
    · simp at h0
    · exact ⟨q, cp, by simpa using hv⟩
  have HO := Lib.hid hown'
  have HG := Lib.hid hgrow
  clear hown' hgrow
  go_wp2_with fail
  go_ret
  have hx2 : Ext w w2 := Below.grown hx0 HG.out (by have := HS.out; omega) (fun k hk => by cases hk)
  refine ⟨w2.heap.size, q, cp, rfl, by have := hx2.size; omega, ?_, ?_, ?_, hx2.alloc _⟩
  · exact heap_alloc_new w2 _
  · intro j u hj
    have hc := HO.out.cells (g := q) rfl j u (by simpa using hj)
    have e : (⟨q, 0, none⟩ : Addr).add j = ⟨q, j, none⟩ := by simp [Addr.add]; exact fun h => h.symm
    rw [e] at hc
    rw [World.cell?_alloc_past _ _ _ (HO.out.lt q rfl).2]; exact hc
  · have := (HO.out.lt q rfl).2; omega
end Go.Proofs.YtnjnfkfmkbnkhaaGreatDoor.Qo

/- (*strings.Builder).copyCheck and WriteByte as they lie in this translation (copyCheck's panicking row is refused by the loader, so the shelf's contracts do not lie at it). -/
namespace Go.Proofs.YtnjnfkfmkbnkhaaGreatDoor.Lx
open Go.RowKit Go.Shelf

set_option maxHeartbeats 2000000 in
set_option maxRecDepth 100000 in
theorem copyCheck_any (B b : Nat) (bs : List Value) (w : World) (h : Lib.IsBuilderF 56 5 B b bs w) :
    Calls Tryz.prog 92 #[.pointer (some ⟨b, 0, none⟩)] w fun e w' => e = .returned (.tuple #[]) ∧ (Lib.BuilderAtF 56 5 B b (.pointer (some ⟨b, 0, none⟩)) bs w' ∧ Below B w w' ∧ Lib.OthersKept 5 (some b) w w') := by
  obtain ⟨j, hj, hjs⟩ : ∃ j, Tryz.prog.info? 56 = some j ∧ j.size = 2 := Option.map_eq_some_iff.1 Tryz.Builder_Extra_169.sizeBuilder
  rcases h with h | h
  · have c0 := h.cell0
    have sh := h.shape
    have fz := h.frozen0
    have c0' : (w.setCell ⟨b, 0, none⟩ (.pointer (some ⟨b, 0, none⟩))).cell? ⟨b, 0, none⟩ = some (.pointer (some ⟨b, 0, none⟩)) := (h.used _).cell0
    go_enter Tryz.func92, Tryz.ntmps92
    go_wp2
    rw [Lib.run_to_unsafe w ⟨b, 0, none⟩ Tryz.underlying53 Tryz.underlying119 hj (by rw [hjs]; decide) sh (Nat.zero_lt_succ 1)]
    simp only [Result.andThen]
    rw [Oper.upon_value]
    go_wp2
    rw [run_callFunc_extern Tryz.func107 (by kernel_rfl) (by kernel_rfl) (by kernel_rfl) (e := Extern.AbiNoEscape.same) (by kernel_rfl)]
    rw [Lib.run_noEscape]
    simp only [Result.andThen]
    rw [Oper.upon_value]
    go_wp2
    rw [Lib.run_from_unsafe w ⟨b, 0, none⟩ Tryz.underlying119 Tryz.underlying53 hj sh Tryz.Builder_Extra_169.liesBuilder]
    simp only [Result.andThen]
    rw [Oper.upon_value]
    go_wp2
    go_end0
    exact ⟨rfl, h.used _, (Below.refl B w).setCell (p := ⟨b, 0, none⟩) h.1 _, (Lib.OthersKept.refl _ _ w).setCell ⟨b, 0, none⟩ rfl _⟩
  · have c0 := h.cell0
    go_enter Tryz.func92, Tryz.ntmps92
    go_wp2
    rw [Lib.run_neq_ptr_same w _ Tryz.underlying53 hj]
    go_wp2
    go_end0
    exact ⟨rfl, h, Below.refl B _, Lib.OthersKept.refl _ _ _⟩

set_option maxHeartbeats 2000000 in
set_option maxRecDepth 100000 in
theorem writeByte_any (B b : Nat) (bs : List Value) (c : Int) (w : World) (h : Lib.IsBuilderF 56 5 B b bs w) (hlen : bs.length + 1 ≤ 140737488355328) (hBw : B ≤ w.heap.size) :
    Calls Tryz.prog 69 #[.pointer (some ⟨b, 0, none⟩), .int .u8 c] w fun e w' => e = .returned .nilIface ∧ (Lib.IsBuilderF 56 5 B b (bs ++ [.int .u8 c]) w' ∧ Below B w w' ∧ Lib.OthersKept 5 (some b) w w') := by
  obtain ⟨i0, hi, hz0, hz1, hz2⟩ := info_parts Tryz.Builder_Extra_169.infoByte
  go_enter Tryz.func69, Tryz.ntmps69
  go_wp2_with fail
  refine (copyCheck_any B b bs _ h).mono ?_
  rintro e w1 ⟨rfl, h1, hb1, hk1⟩
  obtain ⟨hB, v, hbk, hown, hne⟩ := h1
  have c0 : w1.cell? ⟨b, 0, none⟩ = some (.pointer (some ⟨b, 0, none⟩)) := by rw [Lib.cell_of_heap hbk]; rfl
  have c1 : w1.cell? ⟨b, 1, none⟩ = some v := by rw [Lib.cell_of_heap hbk]; rfl
  go_wp2_with (at_builtin; refine wpList_append_ownF _ rfl _ _ 54 rfl B 5 i0 (.int .u8 0) 1 1 Tryz.underlying54 hi hz0 hz1 hz2 rfl (by decide) _ _ _ rfl (hown.alloc _) ⟨w1.heap.size, 0, none⟩ 1 1 [.int .u8 c] rfl rfl ?c1 ?c2 ?c3 ?c4 ?c5 ?_)
  case c1 =>
    intro j u hj
    match j, hj with
    | 0, hj => simp at hj; subst hj; simp [Addr.add]
  case c2 => intro u hu; simp at hu; subst hu; rfl
  case c3 => unfold maxLen; omega
  case c4 => omega
  case c5 => have := hb1.size; simp; omega
  intro v' w2 hown' hgrow _
  have hlt : b < w1.heap.size := by
    rcases Nat.lt_or_ge b w1.heap.size with h' | h'
    · exact h'
    · simp [Array.getElem?_eq_none h'] at hbk
  have hb2 : w2.heap[b]? = some (.cells #[.pointer (some ⟨b, 0, none⟩), v] 56 (0, 0)) := by
    rw [hgrow.block b (by simp; omega) (fun e => hne e.symm), Lib.alloc_old w1 _ b hlt]
    exact hbk
  have d0 : w2.cell? ⟨b, 0, none⟩ = some (.pointer (some ⟨b, 0, none⟩)) := by rw [Lib.cell_of_heap hb2]; rfl
  have d1 : w2.cell? ⟨b, 1, none⟩ = some v := by rw [Lib.cell_of_heap hb2]; rfl
  have f1 : w2.frozen? ⟨b, 1, none⟩ = false := Lib.frozen_of_heap hb2 1
  obtain ⟨g, cap, rfl⟩ : ∃ g cap, v' = .slice (some ⟨g, 0, none⟩) (bs.length + 1) cap := by
    rcases hown'.2 with ⟨_, h0⟩ | ⟨g, cap, cur, fz, hv, _⟩
    · omega
    · exact ⟨g, cap, hv⟩
  go_wp2
  go_ret
  refine ⟨rfl, .inr ?_, ?_, ((hk1.alloc _).grown hgrow (Lib.ownsRowF_kind (hown.alloc _))).setCell ⟨b, 1, none⟩ rfl _⟩
  · exact Lib.BuilderAtF.put (T := 56) (e := 5) hB hb2 (bs' := bs ++ [.int .u8 c]) (by simpa using hown') Tryz.Builder_Extra_169.neB5
  · exact ((hb1.alloc (by have := hb1.size; omega) _).grown hgrow (by have := hb1.size; simp; omega) (fun k hk => (hown.lt k hk).1)).setCell (p := ⟨b, 1, none⟩) hB _
end Go.Proofs.YtnjnfkfmkbnkhaaGreatDoor.Lx

/- What the small functions of the lexer return: letter, digit, word, IsKeyword, IsName, and the document's twins. -/
namespace Go.Proofs.YtnjnfkfmkbnkhaaGreatDoor.Lx
open Go.RowKit Go.Sort Go.Lib Go.Shelf Fx

theorem letter_any (b : UInt8) (w : World) : Calls Tryz.prog 53 #[.int .u8 b.toNat] w fun e w' => e = .returned (.bool (isL b)) ∧ w = w' := by
  go_enter Tryz.func53, Tryz.ntmps53
  go_wp2
  all_goals
    go_ret
    exact ⟨ret_bool (by rw [Bool.eq_iff_iff]; unfold isL; simp only [Bool.or_eq_true, decide_eq_true_eq, beq_iff_eq, true_iff]; omega), rfl⟩
theorem letterR_any (b : UInt8) (w : World) : Calls Tryz.prog 87 #[.int .u8 b.toNat] w fun e w' => e = .returned (.bool (isL b)) ∧ w = w' := by
  go_enter Tryz.func87, Tryz.ntmps87
  go_wp2
  all_goals
    go_ret
    exact ⟨ret_bool (by rw [Bool.eq_iff_iff]; unfold isL; simp only [Bool.or_eq_true, decide_eq_true_eq, beq_iff_eq, true_iff]; omega), rfl⟩
theorem digit_any (b : UInt8) (w : World) : Calls Tryz.prog 52 #[.int .u8 b.toNat] w fun e w' => e = .returned (.bool (isD b)) ∧ w = w' := by
  go_enter Tryz.func52, Tryz.ntmps52
  go_wp2
  all_goals
    go_ret
    exact ⟨ret_bool (by rw [Bool.eq_iff_iff]; unfold isD; simp only [decide_eq_true_eq, false_iff, Bool.false_eq_true]; omega), rfl⟩
theorem digitR_any (b : UInt8) (w : World) : Calls Tryz.prog 88 #[.int .u8 b.toNat] w fun e w' => e = .returned (.bool (isD b)) ∧ w = w' := by
  go_enter Tryz.func88, Tryz.ntmps88
  go_wp2
  all_goals
    go_ret
    exact ⟨ret_bool (by rw [Bool.eq_iff_iff]; unfold isD; simp only [decide_eq_true_eq, false_iff, Bool.false_eq_true]; omega), rfl⟩
theorem isKeyword_any (s : ByteArray) (w : World) : Calls Tryz.prog 51 #[.string s] w fun e w' => e = .returned (.bool (kw s.data.toList)) ∧ w = w' := by
  go_enter Tryz.func51, Tryz.ntmps51
  go_wp2
  all_goals
    go_ret
    exact ⟨ret_bool (by rw [← ByteArray.toList_eq]; unfold kw; simp_all), rfl⟩
theorem isKeywordR_any (s : ByteArray) (w : World) : Calls Tryz.prog 59 #[.string s] w fun e w' => e = .returned (.bool (kw s.data.toList)) ∧ w = w' := by
  go_enter Tryz.func59, Tryz.ntmps59
  go_wp2
  all_goals
    go_ret
    exact ⟨ret_bool (by rw [← ByteArray.toList_eq]; unfold kw; simp_all), rfl⟩

theorem bt_at (s : ByteArray) (k : Nat) (hk : k < s.size) : bt s.data.toList k = s[k] := by
  unfold bt
  have h : k < s.data.toList.length := by rw [← size_len]; exact hk
  rw [List.getElem?_eq_getElem h]; rfl

theorem scan_step (p : Nat → Bool) (l k : Nat) (hk : k < l) : scan p (l - k) k = if p k then scan p (l - (k + 1)) (k + 1) else k := by
  rw [show l - k = (l - (k + 1)) + 1 by omega]; rfl

set_option maxHeartbeats 1600000 in
theorem word_any (s : ByteArray) (hs : s.size ≤ 9223372036854775807) (w : World) :
    Calls Tryz.prog 50 #[.string s] w fun e w' => e = .returned (.int .i64 (wordN s.data.toList)) ∧ w = w' := by
  obtain ⟨N, hN⟩ : ∃ N, N = wordN s.data.toList := ⟨_, rfl⟩
  have HN : Hid (N = scan (okW s.data.toList) (s.size - 0) 0) := Lib.hid (by rw [hN]; unfold wordN; rw [← size_len]; rfl)
  rw [← hN]; clear hN
  go_enter Tryz.func50, Tryz.ntmps50
  go_wp2_with fail
  go_loop [3] (fun n => ∃ k : Nat, k ≤ s.size ∧ Hid (N = scan (okW s.data.toList) (s.size - k) k) ∧ n = .int .i64 k) (fun n => s.size - (RowKit.intOf n).toNat)
  case atStart => exact ⟨0, by omega, HN, rfl⟩
  case round =>
    obtain ⟨k, hk, ha, rfl⟩ := hrel
    clear HN
    by_cases hlt : k < s.size
    · have hst := ha.out
      rw [scan_step _ _ _ hlt] at hst
      have hok : okW s.data.toList k = (isL s[k] || (decide (0 < k) && isD s[k])) := by unfold okW; rw [bt_at s k hlt]
      rw [hok] at hst
      have HS := Lib.hid hst; clear hst hok ha
      by_cases c1 : isL s[k] = true
      · have HF : Hid (N = scan (okW s.data.toList) (s.size - (k + 1)) (k + 1)) := Lib.hid (by rw [HS.out, c1]; rfl)
        clear HS
        go_wp2_with fail
        refine (letter_any s[k] _).mono ?_
        rintro e w1 ⟨rfl, rfl⟩
        go_wp2
        go_round
        case rel => exact ⟨k + 1, by omega, HF, by go_num⟩
        case measure => simp [RowKit.intOf]; omega
      · have c1' : isL s[k] = false := by simpa using c1
        clear c1
        by_cases c2 : 0 < k
        · by_cases c3 : isD s[k] = true
          · have HF : Hid (N = scan (okW s.data.toList) (s.size - (k + 1)) (k + 1)) := Lib.hid (by rw [HS.out, c1', c3]; simp [c2])
            clear HS
            go_wp2_with fail
            refine (letter_any s[k] _).mono ?_
            rintro e w1 ⟨rfl, rfl⟩
            go_wp2_with fail
            refine (digit_any s[k] _).mono ?_
            rintro e w1 ⟨rfl, rfl⟩
            go_wp2
            go_round
            case rel => exact ⟨k + 1, by omega, HF, by go_num⟩
            case measure => simp [RowKit.intOf]; omega
          · have c3' : isD s[k] = false := by simpa using c3
            have HF : Hid (N = k) := Lib.hid (by rw [HS.out, c1', c3']; simp)
            clear HS c3
            go_wp2_with fail
            refine (letter_any s[k] _).mono ?_
            rintro e w1 ⟨rfl, rfl⟩
            go_wp2_with fail
            refine (digit_any s[k] _).mono ?_
            rintro e w1 ⟨rfl, rfl⟩
            go_wp2
            go_ret
            exact ⟨ret_int (by rw [HF.out]), rfl⟩
        · have HF : Hid (N = k) := Lib.hid (by rw [HS.out, c1']; simp [c2])
          clear HS
          go_wp2_with fail
          refine (letter_any s[k] _).mono ?_
          rintro e w1 ⟨rfl, rfl⟩
          go_wp2
          go_ret
          exact ⟨ret_int (by rw [HF.out]), rfl⟩
    · have HF : Hid (N = k) := Lib.hid (by rw [ha.out, show s.size - k = 0 by omega]; rfl)
      clear ha
      go_wp2
      go_ret
      exact ⟨ret_int (by rw [HF.out]), rfl⟩
set_option maxHeartbeats 1600000 in
theorem wordR_any (s : ByteArray) (hs : s.size ≤ 9223372036854775807) (w : World) :
    Calls Tryz.prog 58 #[.string s] w fun e w' => e = .returned (.int .i64 (wordN s.data.toList)) ∧ w = w' := by
  obtain ⟨N, hN⟩ : ∃ N, N = wordN s.data.toList := ⟨_, rfl⟩
  have HN : Hid (N = scan (okW s.data.toList) (s.size - 0) 0) := Lib.hid (by rw [hN]; unfold wordN; rw [← size_len]; rfl)
  rw [← hN]; clear hN
  go_enter Tryz.func58, Tryz.ntmps58
  go_wp2_with fail
  go_loop [3] (fun n => ∃ k : Nat, k ≤ s.size ∧ Hid (N = scan (okW s.data.toList) (s.size - k) k) ∧ n = .int .i64 k) (fun n => s.size - (RowKit.intOf n).toNat)
  case atStart => exact ⟨0, by omega, HN, rfl⟩
  case round =>
    obtain ⟨k, hk, ha, rfl⟩ := hrel
    clear HN
    by_cases hlt : k < s.size
    · have hst := ha.out
      rw [scan_step _ _ _ hlt] at hst
      have hok : okW s.data.toList k = (isL s[k] || (decide (0 < k) && isD s[k])) := by unfold okW; rw [bt_at s k hlt]
      rw [hok] at hst
      have HS := Lib.hid hst; clear hst hok ha
      by_cases c1 : isL s[k] = true
      · have HF : Hid (N = scan (okW s.data.toList) (s.size - (k + 1)) (k + 1)) := Lib.hid (by rw [HS.out, c1]; rfl)
        clear HS
        go_wp2_with fail
        refine (letterR_any s[k] _).mono ?_
        rintro e w1 ⟨rfl, rfl⟩
        go_wp2
        go_round
        case rel => exact ⟨k + 1, by omega, HF, by go_num⟩
        case measure => simp [RowKit.intOf]; omega
      · have c1' : isL s[k] = false := by simpa using c1
        clear c1
        by_cases c2 : 0 < k
        · by_cases c3 : isD s[k] = true
          · have HF : Hid (N = scan (okW s.data.toList) (s.size - (k + 1)) (k + 1)) := Lib.hid (by rw [HS.out, c1', c3]; simp [c2])
            clear HS
            go_wp2_with fail
            refine (letterR_any s[k] _).mono ?_
            rintro e w1 ⟨rfl, rfl⟩
            go_wp2_with fail
            refine (digitR_any s[k] _).mono ?_
            rintro e w1 ⟨rfl, rfl⟩
            go_wp2
            go_round
            case rel => exact ⟨k + 1, by omega, HF, by go_num⟩
            case measure => simp [RowKit.intOf]; omega
          · have c3' : isD s[k] = false := by simpa using c3
            have HF : Hid (N = k) := Lib.hid (by rw [HS.out, c1', c3']; simp)
            clear HS c3
            go_wp2_with fail
            refine (letterR_any s[k] _).mono ?_
            rintro e w1 ⟨rfl, rfl⟩
            go_wp2_with fail
            refine (digitR_any s[k] _).mono ?_
            rintro e w1 ⟨rfl, rfl⟩
            go_wp2
            go_ret
            exact ⟨ret_int (by rw [HF.out]), rfl⟩
        · have HF : Hid (N = k) := Lib.hid (by rw [HS.out, c1']; simp [c2])
          clear HS
          go_wp2_with fail
          refine (letterR_any s[k] _).mono ?_
          rintro e w1 ⟨rfl, rfl⟩
          go_wp2
          go_ret
          exact ⟨ret_int (by rw [HF.out]), rfl⟩
    · have HF : Hid (N = k) := Lib.hid (by rw [ha.out, show s.size - k = 0 by omega]; rfl)
      clear ha
      go_wp2
      go_ret
      exact ⟨ret_int (by rw [HF.out]), rfl⟩
theorem isName_any (s : ByteArray) (hs : s.size ≤ 9223372036854775807) (w : World) : Calls Tryz.prog 34 #[.string s] w fun e w' => e = .returned (.bool (nameB s.data.toList)) ∧ w = w' := by
  have hsz := size_len s
  rcases Nat.eq_zero_or_pos s.size with h0 | h0
  · obtain ⟨e1, e2, e3⟩ := tl_nil s h0
    go_enter Tryz.func34, Tryz.ntmps34
    go_wp2
    go_ret
    exact ⟨ret_bool (by rw [e3]; rfl), rfl⟩
  · obtain ⟨e1, e2, e3⟩ := tl_cons s h0
    have HB : Hid (nameB s.data.toList = (decide (s.size ≤ 16) && decide (wordN s.data.toList = s.size) && !kw s.data.toList)) := Lib.hid (by have e4 := e2; rw [ByteArray.toList_eq] at e4; unfold nameB; rw [← hsz, e4]; rfl)
    clear hsz e3
    generalize nameB s.data.toList = NB at HB ⊢
    go_enter Tryz.func34, Tryz.ntmps34
    go_wp2_with (first | (go_at_call 50; refine (word_any s hs _).mono ?_; rintro e w1 ⟨rfl, rfl⟩) | (go_at_call 51; refine (isKeyword_any s _).mono ?_; rintro e w1 ⟨rfl, rfl⟩))
    all_goals
      go_ret
      refine ⟨ret_bool ?_, rfl⟩
      rw [HB.out]
      first
        | (rw [decide_eq_true (show s.size ≤ 16 by omega), decide_eq_true (show wordN s.data.toList = s.size by omega)]; rfl)
        | (rw [decide_eq_false (show ¬ wordN s.data.toList = s.size by omega)]; simp)
        | (rw [decide_eq_false (show ¬ s.size ≤ 16 by omega)]; simp)
theorem isNameR_any (s : ByteArray) (hs : s.size ≤ 9223372036854775807) (w : World) : Calls Tryz.prog 79 #[.string s] w fun e w' => e = .returned (.bool (nameB s.data.toList)) ∧ w = w' := by
  have hsz := size_len s
  rcases Nat.eq_zero_or_pos s.size with h0 | h0
  · obtain ⟨e1, e2, e3⟩ := tl_nil s h0
    go_enter Tryz.func79, Tryz.ntmps79
    go_wp2
    go_ret
    exact ⟨ret_bool (by rw [e3]; rfl), rfl⟩
  · obtain ⟨e1, e2, e3⟩ := tl_cons s h0
    have HB : Hid (nameB s.data.toList = (decide (s.size ≤ 16) && decide (wordN s.data.toList = s.size) && !kw s.data.toList)) := Lib.hid (by have e4 := e2; rw [ByteArray.toList_eq] at e4; unfold nameB; rw [← hsz, e4]; rfl)
    clear hsz e3
    generalize nameB s.data.toList = NB at HB ⊢
    go_enter Tryz.func79, Tryz.ntmps79
    go_wp2_with (first | (go_at_call 58; refine (wordR_any s hs _).mono ?_; rintro e w1 ⟨rfl, rfl⟩) | (go_at_call 59; refine (isKeywordR_any s _).mono ?_; rintro e w1 ⟨rfl, rfl⟩))
    all_goals
      go_ret
      refine ⟨ret_bool ?_, rfl⟩
      rw [HB.out]
      first
        | (rw [decide_eq_true (show s.size ≤ 16 by omega), decide_eq_true (show wordN s.data.toList = s.size by omega)]; rfl)
        | (rw [decide_eq_false (show ¬ wordN s.data.toList = s.size by omega)]; simp)
        | (rw [decide_eq_false (show ¬ s.size ≤ 16 by omega)]; simp)
end Go.Proofs.YtnjnfkfmkbnkhaaGreatDoor.Lx
