/- Packed texts: TreValid, TrePrt, TreVldR -/
import Derived.Test.YtnjnfkfmkbnkhaaGreatDoorPa26
import Derived.Test.YtnjnfkfmkbnkhaaGreatDoorPa22
import Derived.Test.YtnjnfkfmkbnkhaaGreatDoorPa23
set_option linter.unusedVariables false
set_option linter.unusedSimpArgs false
/- What the tree's Count and Valid return. -/
namespace Go.Proofs.YtnjnfkfmkbnkhaaGreatDoor.Tr
open Go.RowKit Go.Sort Go.Lib Go.Shelf Fx Lx

theorem two_new (w : World) (o o' : Obj) : ((w.alloc o).alloc o').heap[w.heap.size + 1]? = some o' := by
  have h := heap_alloc_new (w.alloc o) o'
  rw [show (w.alloc o).heap.size = w.heap.size + 1 by simp] at h
  exact h
set_option maxHeartbeats 4000000 in
theorem count_any (nm : ByteArray) (dir : Bool) (b : Option Addr) (L : List Stm) (cap n : Nat) (w : World) (hn : n ≤ w.heap.size) (h : StmsAt n w b L) (hs : sizeL L ≤ 1048576) :
    Calls Tryz.prog 35 #[.agg #[.string nm, .bool dir, .slice b L.length cap]] w fun e w' => e = .returned (.int .i64 (flatL 0 L).length) ∧ Ext w w' := by
  have hx : Ext w ((w.alloc (.cells #[.string nm, .bool dir, .slice b L.length cap] 24)).alloc (.cells #[.int .i64 0] 3)) := ((Ext.refl w).alloc _).alloc _
  have hv := visitC_any 1048576 L b cap 0 0 n (w.heap.size + 1) ((w.alloc (.cells #[.string nm, .bool dir, .slice b L.length cap] 24)).alloc (.cells #[.int .i64 0] 3)) hs (by unfold maxLen; omega) (by omega) (StmsAt.below (hx.mono hn) L h) (by omega) (two_new w _ _)
  have hfl := flatL_len 0 L
  rw [runC_len (flatL 0 L) 0 (by omega) (by omega), Int.zero_add] at hv
  generalize (flatL 0 L).length = F at *
  generalize L.length = N at *
  have HV := Lib.hid hv
  have HX := Lib.hid hx
  clear hv h hfl hs hx
  go_enter Tryz.func35, Tryz.ntmps35
  go_wp2_with (go_at_call 36; refine HV.out.mono ?_; rintro e w1 ⟨rfl, h1, x1⟩; have q0 : w1.cell? ⟨w.heap.size + 1, 0, none⟩ = some (.int .i64 F) := (by rw [Lib.cell_of_heap h1]; rfl); clear h1)
  go_ret
  exact ⟨rfl, But.fresh HX.out x1 (by omega)⟩
set_option maxHeartbeats 4000000 in
theorem valid_any (nm : ByteArray) (dir : Bool) (b : Option Addr) (L : List Stm) (cap n : Nat) (w : World) (hn : n ≤ w.heap.size) (h : StmsAt n w b L) (hs : sizeL L ≤ 1048576) (hnm : nm.size ≤ 9223372036854775807) :
    Calls Tryz.prog 21 #[.agg #[.string nm, .bool dir, .slice b L.length cap]] w fun e w' => e = .returned (.int .i64 (validE nm L)) ∧ Ext w w' := by
  have hx0 : Ext w (w.alloc (.cells #[.string nm, .bool dir, .slice b L.length cap] 24)) := (Ext.refl w).alloc _
  have hnx := fun w' => isName_any nm hnm w'
  have hct := fun w' (x : Ext w w') => count_any nm dir b L cap n w' (Nat.le_trans hn x.size) (StmsAt.below (x.mono hn) L h) hs
  have hvv := fun w' (x : Ext w w') => visitV_any 1048576 L b cap 0 0 n w'.heap.size (w'.alloc (.cells #[.int .i64 0] 33)) hs (by unfold maxLen; omega) (by omega) (StmsAt.below ((x.alloc _).mono hn) L h) (Nat.le_trans hn x.size) (heap_alloc_new _ _)
  rw [runV_first] at hvv
  have hcl : ∀ w1, Ext (w.alloc (.cells #[.string nm, .bool dir, .slice b L.length cap] 24)) w1 → w1.cell? ⟨w.heap.size, 0, none⟩ = some (.string nm) ∧ w1.cell? ⟨w.heap.size, 1, none⟩ = some (.bool dir) ∧ w1.cell? ⟨w.heap.size, 2, none⟩ = some (.slice b L.length cap) := fun w1 x => by
    have hb := heap_alloc_new w (.cells #[.string nm, .bool dir, .slice b L.length cap] 24)
    refine ⟨x.cell ?_, x.cell ?_, x.cell ?_⟩ <;> rw [Lib.cell_of_heap hb] <;> rfl
  obtain ⟨V, hV⟩ : ∃ V, V = validE nm L := ⟨_, rfl⟩
  rw [← hV]
  unfold validE at hV
  generalize nameB nm.data.toList = p at *
  generalize (flatL 0 L).length = F at *
  generalize firstE (flatL 0 L) = E at *
  generalize (runA stepV 0 (flatL 0 L)).2 = B at *
  generalize L.length = N at *
  have HN := Lib.hid hnx; have HC := Lib.hid hct; have HVV := Lib.hid hvv; have HX := Lib.hid hx0; have HCL := Lib.hid hcl
  clear hnx hct hvv h hs hx0 hnm hcl
  cases p
  · have hf : Hid (V = 5) := Lib.hid (by rw [hV, if_pos rfl])
    clear hV
    go_enter Tryz.func21, Tryz.ntmps21
    go_wp2_with (go_at_call 34; refine (HN.out _).mono ?_; rintro e w3 ⟨rfl, rfl⟩)
    go_ret
    exact ⟨ret_int (by rw [hf.out]), HX.out⟩
  rw [if_neg (by decide)] at hV
  by_cases hF : 512 < F
  · have hf : Hid (V = 2) := Lib.hid (by rw [hV, if_pos hF])
    have g1 : decide ((512 : Int) < F) = true := decide_eq_true (by omega)
    clear hV
    go_enter Tryz.func21, Tryz.ntmps21
    go_wp2_with (first | (go_at_call 34; refine (HN.out _).mono ?_; rintro e w3 ⟨rfl, rfl⟩) | (go_at_call 35; refine (HC.out _ HX.out).mono ?_; rintro e w1 ⟨rfl, x1⟩))
    go_ret
    exact ⟨ret_int (by rw [hf.out]), HX.out.trans x1⟩
  · have hf : Hid (V = E) := Lib.hid (by rw [hV, if_neg hF])
    have g1 : decide ((512 : Int) < F) = false := decide_eq_false (by omega)
    clear hV
    go_enter Tryz.func21, Tryz.ntmps21
    go_wp2_with (first | (go_at_call 34; refine (HN.out _).mono ?_; rintro e w3 ⟨rfl, rfl⟩) | (go_at_call 35; refine (HC.out _ HX.out).mono ?_; rintro e w1 ⟨rfl, x1⟩; obtain ⟨k0, k1, k2⟩ := HCL.out _ (x1.alloc (.cells #[.int .i64 0] 33))) | (go_at_call 36; refine (HVV.out _ (HX.out.trans x1)).mono ?_; rintro e w2 ⟨rfl, h2, x2⟩; have q0 : w2.cell? ⟨w1.heap.size, 0, none⟩ = some (.int .i64 E) := (by rw [Lib.cell_of_heap h2]; rfl); clear h2))
    go_ret
    exact ⟨ret_int (by rw [hf.out]), (HX.out.trans x1).trans (But.fresh ((Ext.refl _).alloc _) x2 (Nat.le_refl _))⟩
end Go.Proofs.YtnjnfkfmkbnkhaaGreatDoor.Tr

/- What the printer's Print returns. -/
namespace Go.Proofs.YtnjnfkfmkbnkhaaGreatDoor.Tr
open Go.RowKit Go.Sort Go.Lib Go.Shelf Fx Lx

theorem first_zero : ∀ (l : List (Stm × Nat)), firstE l = 0 → ∀ p ∈ l, stmE p = 0
  | q :: r, h, p, hp => by
    rw [firstE] at h
    by_cases hq : stmE q = 0
    · rw [if_neg (fun h' => h' hq)] at h
      rcases List.mem_cons.1 hp with rfl | hp
      · exact hq
      · exact first_zero r h p hp
    · rw [if_pos hq] at h; exact absurd h hq
theorem formed_valid (nm : ByteArray) (L : List Stm) (h : validE nm L = 0) : Formed L := fun lev p hp => by
  unfold validE at h
  by_cases h1 : nameB nm.data.toList = false
  · rw [if_pos h1] at h; exact absurd h (by decide)
  rw [if_neg h1] at h
  by_cases h2 : 512 < (flatL 0 L).length
  · rw [if_pos h2] at h; exact absurd h (by decide)
  rw [if_neg h2] at h
  have h3 : p.1 ∈ (flatL lev L).map Prod.fst := List.mem_map_of_mem hp
  rw [flatL_fst lev 0 L] at h3
  obtain ⟨p', hp', e⟩ := List.mem_map.1 h3
  have h4 := first_zero _ h p' hp'
  unfold stmE at h4
  rw [← e]
  cases hf : formB p'.1
  · rw [if_pos hf] at h4; exact absurd h4 (by decide)
  · rfl
theorem tree_cells (w : World) (nm : ByteArray) (dir : Bool) (b : Option Addr) (N cap : Nat) : ∀ w1, Ext (w.alloc (.cells #[.string nm, .bool dir, .slice b N cap] 24)) w1 → w1.cell? ⟨w.heap.size, 0, none⟩ = some (.string nm) ∧ w1.cell? ⟨w.heap.size, 1, none⟩ = some (.bool dir) ∧ w1.cell? ⟨w.heap.size, 2, none⟩ = some (.slice b N cap) := fun w1 x => by
  have hb := heap_alloc_new w (.cells #[.string nm, .bool dir, .slice b N cap] 24)
  refine ⟨x.cell ?_, x.cell ?_, x.cell ?_⟩ <;> rw [Lib.cell_of_heap hb] <;> rfl
theorem wr_new (w w1 : World) (x : Ext w w1) : Wr w.heap.size w1.heap.size ⟨#[45, 45]⟩ 0 [] (w1.alloc (.cells #[.pointer none, .slice none 0 0, .string ⟨#[45, 45]⟩, .int .i64 0] 58)) :=
  .inl ⟨x.size, _, heap_alloc_new w1 _, World.ownsRowF_nil _ _ _ _, by simp [Value.ownBlock]⟩
theorem wr_new2 (w w1 : World) (x : Ext w w1) : Wr w.heap.size w1.heap.size ⟨#[45, 62]⟩ 0 [] (w1.alloc (.cells #[.pointer none, .slice none 0 0, .string ⟨#[45, 62]⟩, .int .i64 0] 58)) :=
  .inl ⟨x.size, _, heap_alloc_new w1 _, World.ownsRowF_nil _ _ _ _, by simp [Value.ownBlock]⟩
set_option maxHeartbeats 4000000 in
theorem print_true (nm : ByteArray) (b : Option Addr) (L : List Stm) (cap : Nat) (w : World) (he : Env w) (h : StmsAt w.heap.size w b L) (hs : sizeL L ≤ 1048576) (hnm : nm.size ≤ 1048576) (hlen : (printT true nm L).length + 1000 ≤ 140737488355328) (hv : validE nm L = 0) :
    Calls Tryz.prog 9 #[.agg #[.string nm, .bool true, .slice b L.length cap]] w fun e w' => e = .returned (.string ⟨(printT true nm L).toArray⟩) ∧ Ext w w' := by
  have hx0 : Ext w (w.alloc (.cells #[.string nm, .bool true, .slice b L.length cap] 24)) := (Ext.refl _).alloc _
  have hval := fun w' (x : Ext w w') => valid_any nm true b L cap w.heap.size w' x.size (StmsAt.below x L h) hs (by omega)
  rw [hv] at hval
  have hfm := formed_valid nm L hv
  have hhd : (⟨#[100, 105, 103, 114, 97, 112, 104, 32]⟩ ++ nm : ByteArray).data.toList = [100, 105, 103, 114, 97, 112, 104, 32] ++ nm.data.toList := by simp [ByteArray.data_append]
  have hbt : blockT true 0 (⟨#[100, 105, 103, 114, 97, 112, 104, 32]⟩ ++ nm : ByteArray).data.toList L = printT true nm L := by
    rw [hhd]; unfold blockT printT; rw [show indT 0 = [] from rfl]; simp [List.append_assoc]
  have hcl := fun w1 (x : Ext (w.alloc (.cells #[.string nm, .bool true, .slice b L.length cap] 24)) w1) => tree_cells w nm true b L.length cap w1 x
  have hblk := fun w1 (x : Ext w w1) => block_any w he w1.heap.size ⟨#[45, 62]⟩ true (by rfl) (by decide) 1048576 L b cap 0 [] (⟨#[100, 105, 103, 114, 97, 112, 104, 32]⟩ ++ nm) (w1.alloc (.cells #[.pointer none, .slice none 0 0, .string ⟨#[45, 62]⟩, .int .i64 0] 58)) hs (by omega) (by omega) hfm (StmsAt.below (x.alloc _) L h) (x.alloc _) (wr_new2 w w1 x) (by rw [hbt]; simp; omega)
  rw [hbt, List.nil_append] at hblk
  have hne : printT true nm L ≠ [] := by unfold printT; simp
  have hadd : ∀ w, (Op.stringOp .add ⟨#[100, 105, 103, 114, 97, 112, 104, 32]⟩ nm).run Tryz.prog w = .ok (.string (⟨#[100, 105, 103, 114, 97, 112, 104, 32]⟩ ++ nm)) w := fun w => run_string_add_sum w _ _ (by show 8 + _ ≤ _; omega)
  have HVAL := Lib.hid hval; have HCL := Lib.hid hcl; have HBLK := Lib.hid hblk; have HX := Lib.hid hx0; have HNE := Lib.hid hne
  clear hval hcl hblk hx0 hne h hs hnm hlen hv hfm hhd hbt he
  generalize printT true nm L = P at *
  generalize L.length = N at *
  go_enter Tryz.func9, Tryz.ntmps9
  go_wp2_with (first
    | (go_at_call 21; refine (HVAL.out _ HX.out).mono ?_; rintro e w1 ⟨rfl, x1⟩; obtain ⟨k0, k1, k2⟩ := HCL.out _ (x1.alloc (.cells #[.pointer none, .slice none 0 0, .string ⟨#[45, 45]⟩, .int .i64 0] 58)); obtain ⟨m0, m1, m2⟩ := HCL.out _ (x1.alloc (.cells #[.pointer none, .slice none 0 0, .string ⟨#[45, 62]⟩, .int .i64 0] 58)))
    | (go_at_call 22; refine (HBLK.out _ (HX.out.trans x1)).mono ?_; rintro e w2 ⟨rfl, h2, x2⟩)
    | (go_at_call 23; refine (strOf_any _ _ _ _ P _ h2 HNE.out).mono ?_; rintro e w3 ⟨rfl, x3⟩))
  go_ret
  exact ⟨rfl, Below.trans (Below.trans ((HX.out.trans x1).alloc _) x2.1) x3⟩

set_option maxHeartbeats 4000000 in
theorem print_false (nm : ByteArray) (b : Option Addr) (L : List Stm) (cap : Nat) (w : World) (he : Env w) (h : StmsAt w.heap.size w b L) (hs : sizeL L ≤ 1048576) (hnm : nm.size ≤ 1048576) (hlen : (printT false nm L).length + 1000 ≤ 140737488355328) (hv : validE nm L = 0) :
    Calls Tryz.prog 9 #[.agg #[.string nm, .bool false, .slice b L.length cap]] w fun e w' => e = .returned (.string ⟨(printT false nm L).toArray⟩) ∧ Ext w w' := by
  have hx0 : Ext w (w.alloc (.cells #[.string nm, .bool false, .slice b L.length cap] 24)) := (Ext.refl _).alloc _
  have hval := fun w' (x : Ext w w') => valid_any nm false b L cap w.heap.size w' x.size (StmsAt.below x L h) hs (by omega)
  rw [hv] at hval
  have hfm := formed_valid nm L hv
  have hhd : (⟨#[103, 114, 97, 112, 104, 32]⟩ ++ nm : ByteArray).data.toList = [103, 114, 97, 112, 104, 32] ++ nm.data.toList := by simp [ByteArray.data_append]
  have hbt : blockT false 0 (⟨#[103, 114, 97, 112, 104, 32]⟩ ++ nm : ByteArray).data.toList L = printT false nm L := by
    rw [hhd]; unfold blockT printT; rw [show indT 0 = [] from rfl]; simp [List.append_assoc]
  have hcl := fun w1 (x : Ext (w.alloc (.cells #[.string nm, .bool false, .slice b L.length cap] 24)) w1) => tree_cells w nm false b L.length cap w1 x
  have hblk := fun w1 (x : Ext w w1) => block_any w he w1.heap.size ⟨#[45, 45]⟩ false (by rfl) (by decide) 1048576 L b cap 0 [] (⟨#[103, 114, 97, 112, 104, 32]⟩ ++ nm) (w1.alloc (.cells #[.pointer none, .slice none 0 0, .string ⟨#[45, 45]⟩, .int .i64 0] 58)) hs (by omega) (by omega) hfm (StmsAt.below (x.alloc _) L h) (x.alloc _) (wr_new w w1 x) (by rw [hbt]; simp; omega)
  rw [hbt, List.nil_append] at hblk
  have hne : printT false nm L ≠ [] := by unfold printT; simp
  have hadd : ∀ w, (Op.stringOp .add ⟨#[103, 114, 97, 112, 104, 32]⟩ nm).run Tryz.prog w = .ok (.string (⟨#[103, 114, 97, 112, 104, 32]⟩ ++ nm)) w := fun w => run_string_add_sum w _ _ (by show 6 + _ ≤ _; omega)
  have HVAL := Lib.hid hval; have HCL := Lib.hid hcl; have HBLK := Lib.hid hblk; have HX := Lib.hid hx0; have HNE := Lib.hid hne
  clear hval hcl hblk hx0 hne h hs hnm hlen hv hfm hhd hbt he
  generalize printT false nm L = P at *
  generalize L.length = N at *
  go_enter Tryz.func9, Tryz.ntmps9
  go_wp2_with (first
    | (go_at_call 21; refine (HVAL.out _ HX.out).mono ?_; rintro e w1 ⟨rfl, x1⟩; obtain ⟨k0, k1, k2⟩ := HCL.out _ (x1.alloc (.cells #[.pointer none, .slice none 0 0, .string ⟨#[45, 45]⟩, .int .i64 0] 58)); skip)
    | (go_at_call 22; refine (HBLK.out _ (HX.out.trans x1)).mono ?_; rintro e w2 ⟨rfl, h2, x2⟩)
    | (go_at_call 23; refine (strOf_any _ _ _ _ P _ h2 HNE.out).mono ?_; rintro e w3 ⟨rfl, x3⟩))
  go_ret
  exact ⟨rfl, Below.trans (Below.trans ((HX.out.trans x1).alloc _) x2.1) x3⟩
end Go.Proofs.YtnjnfkfmkbnkhaaGreatDoor.Tr

/- What the document's Valid returns. -/
namespace Go.Proofs.YtnjnfkfmkbnkhaaGreatDoor.Tr
open Go.RowKit Go.Sort Go.Lib Go.Shelf Fx Lx

/-- The six cells of a flat statement that Preorder handed back. -/
theorem six_cells {n B g c : Nat} {F : List (Stm × Nat)} {C : List Value} {w : World} (ho : w.ownsRow B 49 6 (.slice (some ⟨g, 0, none⟩) F.length c) F.length C) (hs : Sixes n w C F) (k : Nat) (hk : k < F.length) :
    ∃ r a b rc ac bc, FlatAt n w r a b rc ac bc F[k] ∧ w.cell? ⟨g, k * 6, none⟩ = some (.int .i64 F[k].1.kind) ∧ w.cell? ⟨g, k * 6 + 1, none⟩ = some (.string F[k].1.name) ∧ w.cell? ⟨g, k * 6 + 2, none⟩ = some (.slice r F[k].1.refs.length rc) ∧ w.cell? ⟨g, k * 6 + 3, none⟩ = some (.slice a F[k].1.attrs.length ac) ∧ w.cell? ⟨g, k * 6 + 4, none⟩ = some (.slice b F[k].1.body.length bc) ∧ w.cell? ⟨g, k * 6 + 5, none⟩ = some (.int .i64 F[k].2) := by
  obtain ⟨r, a, b, rc, ac, bc, hf, hc⟩ := hs.at k hk
  have h := fun j u hj => ho.cells (g := g) rfl (k * 6 + j) u (hc j u hj)
  have e : ∀ j, (⟨g, 0, none⟩ : Addr).add j = ⟨g, j, none⟩ := fun j => by unfold Addr.add; split <;> simp_all
  simp only [e] at h
  exact ⟨r, a, b, rc, ac, bc, hf, h 0 _ rfl, h 1 _ rfl, h 2 _ rfl, h 3 _ rfl, h 4 _ rfl, h 5 _ rfl⟩
theorem mem_flat_size (lev : Nat) : ∀ (L : List Stm) (p : Stm × Nat), p ∈ flatL lev L → sizeS p.1 ≤ sizeL L := by
  suffices H : ∀ (M : Nat) (L : List Stm) (lev : Nat), sizeL L ≤ M → ∀ p ∈ flatL lev L, sizeS p.1 ≤ sizeL L from fun L p hp => H (sizeL L) L lev (Nat.le_refl _) p hp
  intro M
  induction M using Nat.strongRecOn with
  | _ M ih =>
  intro L
  induction L with
  | nil => intro lev _ p hp; rw [flatL_nil] at hp; cases hp
  | cons x r ihr =>
    intro lev hM p hp
    rw [sizeL_cons] at hM ⊢
    rw [flatL_cons, List.mem_append] at hp
    rcases hp with hp | hp
    · rw [flatS_eq] at hp
      rcases List.mem_cons.1 hp with rfl | hp
      · show sizeS x ≤ _; omega
      · have hb := sizeS_body x
        have := ih (sizeL x.body) (by omega) x.body _ (Nat.le_refl _) p hp
        omega
    · have := ihr lev (by omega) p hp
      omega
set_option maxHeartbeats 4000000 in
set_option maxRecDepth 100000 in
theorem validR_any (nm : ByteArray) (dir : Bool) (b : Option Addr) (L : List Stm) (cap n : Nat) (w : World) (hn : n ≤ w.heap.size) (h : StmsAt n w b L) (hs : sizeL L ≤ 1048576) (hnm : nm.size ≤ 9223372036854775807) :
    Calls Tryz.prog 13 #[.agg #[.string nm, .bool dir, .slice b L.length cap]] w fun e w' => e = .returned (.int .i64 (validE nm L)) ∧ Ext w w' := by
  have hx0 : Ext w (w.alloc (.cells #[.string nm, .bool dir, .slice b L.length cap] 24)) := (Ext.refl _).alloc _
  have hcl := tree_cells w nm dir b L.length cap
  have hpre := fun w1 (x : Ext w w1) => preR_any 1048576 L b cap 0 n w1 hs (Nat.le_refl _) (by decide) (StmsAt.below (Below.mono x hn) L h) (by have h := x.size; omega)
  have hname := fun w => name07_any nm hnm w
  obtain ⟨V, hV⟩ : ∃ V, V = validE nm L := ⟨_, rfl⟩
  rw [← hV]
  unfold validE at hV
  obtain ⟨k0, k1, k2⟩ := hcl _ (Ext.refl _)
  have HSM : Hid (∀ p ∈ flatL 0 L, sizeS p.1 ≤ 1048576) := Lib.hid (fun p hp => Nat.le_trans (mem_flat_size 0 L p hp) hs)
  have HFS : Hid ((flatL 0 L).length ≤ 1048576) := Lib.hid (Nat.le_trans (flatL_len 0 L) hs)
  generalize flatL 0 L = F at *
  generalize L.length = N at *
  generalize nameB nm.data.toList = nb at hV hname
  have HCL := Lib.hid hcl; have HPRE := Lib.hid hpre; have HNM := Lib.hid hname; have HN := Lib.hid hn
  clear hcl hpre hname h hs hnm hn
  cases nb
  · rw [if_pos rfl] at hV
    have HF := Lib.hid hV
    clear hV
    go_enter Tryz.func13, Tryz.ntmps13
    go_wp2_with (go_at_call 27; refine (HNM.out _).mono ?_; rintro e w3 ⟨rfl, rfl⟩)
    go_returns
    exact ⟨by rw [HF.out]; rfl, hx0⟩
  rw [if_neg (by decide)] at hV
  by_cases h5 : 512 < F.length
  · rw [if_pos h5] at hV
    have HF := Lib.hid hV
    have g5 : decide ((512 : Int) < F.length) = true := decide_eq_true (by omega)
    clear hV h5
    go_enter Tryz.func13, Tryz.ntmps13
    go_wp2_with (first | (go_at_call 27; refine (HNM.out _).mono ?_; rintro e w3 ⟨rfl, rfl⟩) | (go_at_call 20; refine (HPRE.out _ hx0).mono ?_; rintro e w4 ⟨⟨g, c, C, rfl, ho, hsx⟩, x4⟩))
    go_returns
    exact ⟨by rw [HF.out]; rfl, hx0.trans x4⟩
  · rw [if_neg h5] at hV
    have HF : Hid (V = firstE (F.drop 0)) := Lib.hid (by rw [hV, List.drop_zero])
    have g5 : decide ((512 : Int) < F.length) = false := decide_eq_false (by omega)
    have h6 : F.length ≤ 512 := by omega
    clear hV h5
    go_enter Tryz.func13, Tryz.ntmps13
    go_wp2_with (first | (go_at_call 27; refine (HNM.out _).mono ?_; rintro e w3 ⟨rfl, rfl⟩) | (go_at_call 20; refine (HPRE.out _ hx0).mono ?_; rintro e w4 ⟨⟨g, c, C, rfl, ho, hsx⟩, x4⟩))
    have HO := Lib.hid ho; have HSX := Lib.hid hsx
    have hx4 := hx0.trans x4
    clear ho hsx k0 k1 k2 x4
    go_loopw [4] (fun i' wr => ∃ k : Nat, k ≤ F.length ∧ i' = .int .i64 k ∧ Ext w4 wr ∧ Hid (V = firstE (F.drop k))) (fun i' _ => F.length - (RowKit.intOf i').toNat)
    case atStart => exact ⟨0, by omega, rfl, Ext.refl _, HF⟩
    case round =>
      obtain ⟨k, hk, rfl, hx, hb⟩ := hrel
      clear HF
      by_cases hlt : k < F.length
      · obtain ⟨r, a, b', rc, ac, bc, hfl, c0, c1, c2, c3, c4, c5⟩ := six_cells (own_ext' HO.out hx) (HSX.out.below (Below.mono hx (by have h := hx4.size; have := HN.out; omega))) k hlt
        have hst := hb.out
        rw [List.drop_eq_getElem_cons hlt, firstE] at hst
        have hsz := HSM.out F[k] (List.getElem_mem hlt)
        obtain ⟨p, hp⟩ : ∃ p, p = F[k] := ⟨_, rfl⟩
        rw [← hp] at hst hfl c0 c1 c2 c3 c4 c5 hsz
        clear hp hb
        obtain ⟨⟨kind, sn, rs, al, body⟩, lev⟩ := p
        have hbd := sizeS_body (.mk kind sn rs al body)
        simp only [Stm.body, Stm.name, Stm.refs, Stm.attrs, Stm.kind] at hbd c0 c1 c2 c3 c4 c5
        replace hsz : sizeS (.mk kind sn rs al body) ≤ 1048576 := hsz
        have hs1 : ∀ q ∈ al, q.1.size ≤ 9223372036854775807 ∧ q.2.size ≤ 9223372036854775807 := fun q hq => by have := sizeTwo_at al q hq; omega
        have ht1 : ∀ q ∈ rs, q.1.size ≤ 9223372036854775807 ∧ q.2.size ≤ 9223372036854775807 := fun q hq => by have := sizeTwo_at rs q hq; omega
        have hrl : rs.length ≤ maxLen := by have := sizeTwo_len rs; unfold maxLen; omega
        have hsta := statR_any kind sn rs al body r a b' rc ac bc lev wr hfl.hr.in hfl.ha.in hrl (by omega) hs1 ht1
        generalize stmE (.mk kind sn rs al body, lev) = E at hst hsta
        generalize rs.length = R at *
        generalize al.length = A at *
        generalize body.length = B at *
        have HSTA := Lib.hid hsta
        clear hsta hfl hbd hsz hs1 ht1 hrl
        by_cases hE : E = 0
        · rw [if_neg (fun h => h hE)] at hst
          subst hE
          have hf := Lib.hid hst
          clear hst
          go_wp2_with (go_at_call 28; refine HSTA.out.mono ?_; rintro e w5 ⟨rfl, x5⟩)
          go_roundw
          case rel => exact ⟨k + 1, by omega, by go_num, hx.trans x5, hf⟩
          case measure => simp [RowKit.intOf]; omega
        · rw [if_pos hE] at hst
          obtain ⟨f0, f0'⟩ := ne_facts hE
          have hf := Lib.hid hst
          clear hst hE
          go_wp2_with (go_at_call 28; refine HSTA.out.mono ?_; rintro e w5 ⟨rfl, x5⟩)
          go_returns
          exact ⟨by rw [hf.out]; rfl, hx4.trans (hx.trans x5)⟩
      · have hf : Hid (V = 0) := Lib.hid (by rw [hb.out, List.drop_eq_nil_of_le (by omega)]; rfl)
        clear hb
        go_wp2
        go_returns
        exact ⟨by rw [hf.out]; rfl, hx4.trans hx⟩
end Go.Proofs.YtnjnfkfmkbnkhaaGreatDoor.Tr
