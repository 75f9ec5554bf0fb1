/- buildOnce and NewReplacer at the four texts of Quote. -/
import Derived.Test.YtfnbllchebohcaaGreatDoorQuoBuild
namespace Go.Proofs.YtfnbllchebohcaaGreatDoor.Qo
open Go.RowKit Go.Lib Fx

theorem RepAt.kept {w w' : World} {k : Nat} (h : RepAt w k) (hs : w.heap.size ≤ w'.heap.size) (hk : ∀ (p : Nat) (C : Array Value) (T : TypeId) (fz : Nat × Nat), T = 5 ∨ T = 9 ∨ T = 111 → w.heap[p]? = some (.cells C T fz) → w'.heap[p]? = some (.cells C T fz)) : RepAt w' k := by
  obtain ⟨B, s34, s92, v, hr, h34, h92⟩ := h
  refine ⟨B, s34, s92, v, ⟨hk _ _ _ _ (.inr (.inr rfl)) hr.blk, ?_⟩, h34.kept fun p C fz hp => hk _ _ _ _ (.inl rfl) hp, h92.kept fun p C fz hp => hk _ _ _ _ (.inl rfl) hp⟩
  have ho := hr.own
  refine ⟨ho.1, ?_⟩
  rcases ho.2 with h1 | ⟨g, cap, cur, hv, hb, hg, r⟩
  · exact .inl h1
  · exact .inr ⟨g, cap, cur, hv, hb, hk _ _ _ _ (.inr (.inl rfl)) hg, r⟩

/-- What buildOnce leaves. -/
def Built (B rb : Nat) (w w' : World) : Prop := ∃ k, w'.heap[rb]? = some (.cells #[.int .u32 0, .int .i32 1, .int .u32 0, .iface 112 (.pointer (some ⟨k, 0, none⟩)), .slice none 0 0] 73 (0, 0)) ∧ RepAt w' k ∧ Below B w w'

set_option maxHeartbeats 1600000 in
set_option maxRecDepth 100000 in
theorem buildOnce_any (B rb g cap : Nat) (w : World) (hB : B ≤ rb) (hb : w.heap[rb]? = some (.cells #[.int .u32 0, .int .i32 1, .int .u32 0, .nilIface, .slice (some ⟨g, 0, none⟩) 4 cap] 73 (0, 0)))
    (g0 : w.cell? ⟨g, 0, none⟩ = some (.string ⟨#[92]⟩)) (g1 : w.cell? ⟨g, 1, none⟩ = some (.string ⟨#[92, 92]⟩)) (g2 : w.cell? ⟨g, 2, none⟩ = some (.string ⟨#[34]⟩)) (g3 : w.cell? ⟨g, 3, none⟩ = some (.string ⟨#[92, 34]⟩)) :
    Calls Tryz.prog 29 #[.pointer (some ⟨rb, 0, none⟩)] w fun e w' => e = .returned (.tuple #[]) ∧ Built B rb w w' := by
  have c4 : w.cell? ⟨rb, 4, none⟩ = some (.slice (some ⟨g, 0, none⟩) 4 cap) := cell_of_blk hb 4
  have hlt := (Array.getElem?_eq_some_iff.1 hb).1
  have HBd := Lib.hid (build_any rb g cap w c4 g0 g1 g2 g3)
  have HB := Lib.hid hb
  clear g0 g1 g2 g3 c4 hb
  go_enter Tryz.func29, Tryz.ntmps29
  go_wp2_with fail
  refine HBd.out.mono ?_
  rintro e w1 ⟨⟨k, rfl, hk, hr⟩, hx⟩
  have hb1 : w1.heap[rb]? = some (.cells #[.int .u32 0, .int .i32 1, .int .u32 0, .nilIface, .slice (some ⟨g, 0, none⟩) 4 cap] 73 (0, 0)) := (hx.block rb hlt).trans HB.out
  have d3 : w1.cell? ⟨rb, 3, none⟩ = some .nilIface := cell_of_blk hb1 3
  have d4 : w1.cell? ⟨rb, 4, none⟩ = some (.slice (some ⟨g, 0, none⟩) 4 cap) := cell_of_blk hb1 4
  have f3 := frozen_of_blk hb1 3
  have f4 := frozen_of_blk hb1 4
  have HR := Lib.hid hr
  have HB1 := Lib.hid hb1
  clear hb1 hr HBd
  go_wp2_with fail
  go_end0
  refine ⟨rfl, k, ?_, ?_, ?_⟩
  · exact heap_setCell_same _ rb 4 _ 73 (.slice none 0 0) (heap_setCell_same w1 rb 3 _ 73 _ HB1.out)
  · refine HR.out.kept (by simp [World.setCell]) fun p C T fz hT hp => ?_
    have hne : p ≠ rb := by
      rintro rfl
      rw [HB1.out] at hp
      injection hp with hp
      injection hp with _ ht
      rcases hT with rfl | rfl | rfl <;> exact absurd ht (by decide)
    rw [heap_setCell_other _ ⟨rb, 4, none⟩ p _ hne, heap_setCell_other _ ⟨rb, 3, none⟩ p _ hne]; exact hp
  · exact ((hx.mono (by omega)).setCell (p := ⟨rb, 3, none⟩) hB _).setCell (p := ⟨rb, 4, none⟩) hB _

theorem info_str4 : (Tryz.prog.info? 9).map (fun i => (i.zero, i.size, i.bytes)) = some (some (.string ⟨#[]⟩), 1, 16) := info_str
def oldnew : List Value := [.string ⟨#[92]⟩, .string ⟨#[92, 92]⟩, .string ⟨#[34]⟩, .string ⟨#[92, 34]⟩]

set_option maxHeartbeats 1600000 in
set_option maxRecDepth 100000 in
theorem newReplacer_any (w : World) :
    Calls Tryz.prog 15 #[.slice (some ⟨w.heap.size, 0, none⟩) 4 4] (w.alloc (.cells oldnew.toArray 9)) fun e w' => ∃ rb g cap, e = .returned (.pointer (some ⟨rb, 0, none⟩)) ∧ w.heap.size ≤ rb ∧
      w'.heap[rb]? = some (.cells #[.int .u32 0, .int .i32 0, .int .u32 0, .nilIface, .slice (some ⟨g, 0, none⟩) 4 cap] 73 (0, 0)) ∧
      (∀ j u, oldnew[j]? = some u → w'.cell? ⟨g, j, none⟩ = some u) ∧ g ≠ rb ∧ Ext w w' := by
  obtain ⟨i0, hi, hz0, hz1, hz2⟩ := info_parts info_str
  have hb0 := heap_alloc_new w (.cells oldnew.toArray 9)
  obtain ⟨w0, hw0⟩ : ∃ w0, w0 = w.alloc (.cells oldnew.toArray 9) := ⟨_, rfl⟩
  have hx0 : Ext w w0 := by rw [hw0]; exact (Ext.refl _).alloc _
  rw [← hw0] at hb0 ⊢
  have hs0 : w0.heap.size = w.heap.size + 1 := by rw [hw0]; simp
  have HB := Lib.hid hb0
  have HS := Lib.hid hs0
  clear hw0 hb0 hs0
  go_enter Tryz.func15, Tryz.ntmps15
  go_wp2_with (at_builtin; refine wpList_append_own _ rfl _ _ 57 rfl w.heap.size 9 i0 (.string ⟨#[]⟩) 1 16 Tryz.underlying57 hi hz0 hz1 hz2 rfl (by decide) _ 0 [] rfl (World.ownsRow_nil _ _ _ _) ⟨w.heap.size, 0, none⟩ 4 4 oldnew rfl rfl ?c1 ?c2 ?c3 ?c4 ?c5 ?_)
  case c1 =>
    intro j u hj
    have e : (⟨w.heap.size, 0, none⟩ : Addr).add j = ⟨w.heap.size, j, none⟩ := by simp [Addr.add]; exact fun h => h.symm
    rw [e, cell_of_blk HB.out]
    simpa using hj
  case c2 => intro u hu; simp [oldnew] at hu; rcases hu with rfl | rfl | rfl | rfl <;> rfl
  case c3 => simp [maxLen]
  case c4 => simp
  case c5 => have := HS.out; omega
  intro v' w2 hown' hgrow _
  obtain ⟨q, cp, rfl⟩ : ∃ q cp, v' = .slice (some ⟨q, 0, none⟩) 4 cp := by
    rcases hown'.2 with ⟨_, h0⟩ | ⟨q, cp, cur, hv, _⟩
    · simp at h0
    · exact ⟨q, cp, by simpa using hv⟩
  have HO := Lib.hid hown'
  have HG := Lib.hid hgrow
  clear hown' hgrow
  go_wp2_with fail
  go_ret
  have hx2 : Ext w w2 := Below.grown hx0 HG.out (by have := HS.out; omega) (fun k hk => by cases hk)
  refine ⟨w2.heap.size, q, cp, rfl, by have := hx2.size; omega, ?_, ?_, ?_, hx2.alloc _⟩
  · exact heap_alloc_new w2 _
  · intro j u hj
    have hc := HO.out.cells (g := q) rfl j u (by simpa using hj)
    have e : (⟨q, 0, none⟩ : Addr).add j = ⟨q, j, none⟩ := by simp [Addr.add]; exact fun h => h.symm
    rw [e] at hc
    rw [World.cell?_alloc_past _ _ _ (HO.out.lt q rfl).2]; exact hc
  · have := (HO.out.lt q rfl).2; omega
end Go.Proofs.YtfnbllchebohcaaGreatDoor.Qo
