/- Packed texts: TrePrt, TrePrA, TreLisR, TreLen -/
import Derived.Test.YtjaeedbjknejdaaGreatDoorPt47
set_option linter.unusedVariables false
set_option linter.unusedSimpArgs false
set_option maxHeartbeats 16000000
set_option maxRecDepth 100000
namespace Go.Proofs.YtjaeedbjknejdaaGreatDoor.Tr
open Go.RowKit Go.Sort Go.Lib Go.Shelf Fx Lx
theorem wr_new (w w1 : World) (x : Ext w w1) : Wr w.heap.size w1.heap.size ⟨#[45, 45]⟩ 0 [] (w1.alloc (.cells #[.pointer none, .slice none 0 0, .string ⟨#[45, 45]⟩, .int .i64 0] 152)) :=
  .inl ⟨x.size, _, heap_alloc_new w1 _, World.ownsRowF_nil _ _ _ _, by simp [Value.ownBlock]⟩
theorem wr_new2 (w w1 : World) (x : Ext w w1) : Wr w.heap.size w1.heap.size ⟨#[45, 62]⟩ 0 [] (w1.alloc (.cells #[.pointer none, .slice none 0 0, .string ⟨#[45, 62]⟩, .int .i64 0] 152)) :=
  .inl ⟨x.size, _, heap_alloc_new w1 _, World.ownsRowF_nil _ _ _ _, by simp [Value.ownBlock]⟩
theorem print_true (nm : ByteArray) (b : Option Addr) (L : List Stm) (cap : Nat) (w : World) (he : Env w) (h : StmsAt w.heap.size w b L) (hs : sizeL L <= 1048576) (hnm : nm.size <= 1048576) (hlen : (printT true nm L).length + 1000 <= 140737488355328) (hv : validE nm L = 0) :
    Calls Tryz.prog 37 #[.agg #[.string nm, .bool true, .slice b L.length cap]] w fun e w' => e = .returned (.string ⟨(printT true nm L).toArray⟩) /\ Ext w w' := by
  have hx0 : Ext w (w.alloc (.cells #[.string nm, .bool true, .slice b L.length cap] 33)) := (Ext.refl _).alloc _
  have hval := fun w' (x : Ext w w') => valid_any nm true b L cap w.heap.size w' x.size (StmsAt.below x L h) hs (by omega)
  rw [hv] at hval
  have hfm := formed_valid nm L hv
  have hhd : (⟨#[100, 105, 103, 114, 97, 112, 104, 32]⟩ ++ nm : ByteArray).data.toList = [100, 105, 103, 114, 97, 112, 104, 32] ++ nm.data.toList := by simp [ByteArray.data_append]
  have hbt : blockT true 0 (⟨#[100, 105, 103, 114, 97, 112, 104, 32]⟩ ++ nm : ByteArray).data.toList L = printT true nm L := by
    rw [hhd]; unfold blockT printT; rw [show indT 0 = [] from rfl]; simp [List.append_assoc]
  have hcl := fun w1 (x : Ext (w.alloc (.cells #[.string nm, .bool true, .slice b L.length cap] 33)) w1) => tree_cells w nm true b L.length cap w1 x
  have hblk := fun w1 (x : Ext w w1) => block_any w he w1.heap.size ⟨#[45, 62]⟩ true (by rfl) (by decide) 1048576 L b cap 0 [] (⟨#[100, 105, 103, 114, 97, 112, 104, 32]⟩ ++ nm) (w1.alloc (.cells #[.pointer none, .slice none 0 0, .string ⟨#[45, 62]⟩, .int .i64 0] 152)) hs (by omega) (by omega) hfm (StmsAt.below (x.alloc _) L h) (x.alloc _) (wr_new2 w w1 x) (by rw [hbt]; simp; omega)
  rw [hbt, List.nil_append] at hblk
  have hne : printT true nm L ≠ [] := by unfold printT; simp
  have hadd : ∀ w, (Op.stringOp .add ⟨#[100, 105, 103, 114, 97, 112, 104, 32]⟩ nm).run Tryz.prog w = .ok (.string (⟨#[100, 105, 103, 114, 97, 112, 104, 32]⟩ ++ nm)) w := fun w => run_string_add_sum w _ _ (by show 8 + _ <= _; omega)
  have HVAL := Lib.hid hval; have HCL := Lib.hid hcl; have HBLK := Lib.hid hblk; have HX := Lib.hid hx0; have HNE := Lib.hid hne
  clear hval hcl hblk hx0 hne h hs hnm hlen hv hfm hhd hbt he
  generalize printT true nm L = P at *
  generalize L.length = N at *
  go_enter Tryz.func37, Tryz.ntmps37
  go_wp2_with (first
    | (go_at_call 30; refine (HVAL.out _ HX.out).mono ?_; rintro e w1 ⟨rfl, x1⟩; obtain ⟨k0, k1, k2⟩ := HCL.out _ (x1.alloc (.cells #[.pointer none, .slice none 0 0, .string ⟨#[45, 45]⟩, .int .i64 0] 152)); obtain ⟨m0, m1, m2⟩ := HCL.out _ (x1.alloc (.cells #[.pointer none, .slice none 0 0, .string ⟨#[45, 62]⟩, .int .i64 0] 152)))
    | (go_at_call 81; refine (HBLK.out _ (HX.out.trans x1)).mono ?_; rintro e w2 ⟨rfl, h2, x2⟩)
    | (go_at_call 82; refine (strOf_any _ _ _ _ P _ h2 HNE.out).mono ?_; rintro e w3 ⟨rfl, x3⟩))
  go_ret
  exact ⟨rfl, Below.trans (Below.trans ((HX.out.trans x1).alloc _) x2.1) x3⟩
theorem print_false (nm : ByteArray) (b : Option Addr) (L : List Stm) (cap : Nat) (w : World) (he : Env w) (h : StmsAt w.heap.size w b L) (hs : sizeL L <= 1048576) (hnm : nm.size <= 1048576) (hlen : (printT false nm L).length + 1000 <= 140737488355328) (hv : validE nm L = 0) :
    Calls Tryz.prog 37 #[.agg #[.string nm, .bool false, .slice b L.length cap]] w fun e w' => e = .returned (.string ⟨(printT false nm L).toArray⟩) /\ Ext w w' := by
  have hx0 : Ext w (w.alloc (.cells #[.string nm, .bool false, .slice b L.length cap] 33)) := (Ext.refl _).alloc _
  have hval := fun w' (x : Ext w w') => valid_any nm false b L cap w.heap.size w' x.size (StmsAt.below x L h) hs (by omega)
  rw [hv] at hval
  have hfm := formed_valid nm L hv
  have hhd : (⟨#[103, 114, 97, 112, 104, 32]⟩ ++ nm : ByteArray).data.toList = [103, 114, 97, 112, 104, 32] ++ nm.data.toList := by simp [ByteArray.data_append]
  have hbt : blockT false 0 (⟨#[103, 114, 97, 112, 104, 32]⟩ ++ nm : ByteArray).data.toList L = printT false nm L := by
    rw [hhd]; unfold blockT printT; rw [show indT 0 = [] from rfl]; simp [List.append_assoc]
  have hcl := fun w1 (x : Ext (w.alloc (.cells #[.string nm, .bool false, .slice b L.length cap] 33)) w1) => tree_cells w nm false b L.length cap w1 x
  have hblk := fun w1 (x : Ext w w1) => block_any w he w1.heap.size ⟨#[45, 45]⟩ false (by rfl) (by decide) 1048576 L b cap 0 [] (⟨#[103, 114, 97, 112, 104, 32]⟩ ++ nm) (w1.alloc (.cells #[.pointer none, .slice none 0 0, .string ⟨#[45, 45]⟩, .int .i64 0] 152)) hs (by omega) (by omega) hfm (StmsAt.below (x.alloc _) L h) (x.alloc _) (wr_new w w1 x) (by rw [hbt]; simp; omega)
  rw [hbt, List.nil_append] at hblk
  have hne : printT false nm L ≠ [] := by unfold printT; simp
  have hadd : ∀ w, (Op.stringOp .add ⟨#[103, 114, 97, 112, 104, 32]⟩ nm).run Tryz.prog w = .ok (.string (⟨#[103, 114, 97, 112, 104, 32]⟩ ++ nm)) w := fun w => run_string_add_sum w _ _ (by show 6 + _ <= _; omega)
  have HVAL := Lib.hid hval; have HCL := Lib.hid hcl; have HBLK := Lib.hid hblk; have HX := Lib.hid hx0; have HNE := Lib.hid hne
  clear hval hcl hblk hx0 hne h hs hnm hlen hv hfm hhd hbt he
  generalize printT false nm L = P at *
  generalize L.length = N at *
  go_enter Tryz.func37, Tryz.ntmps37
  go_wp2_with (first
    | (go_at_call 30; refine (HVAL.out _ HX.out).mono ?_; rintro e w1 ⟨rfl, x1⟩; obtain ⟨k0, k1, k2⟩ := HCL.out _ (x1.alloc (.cells #[.pointer none, .slice none 0 0, .string ⟨#[45, 45]⟩, .int .i64 0] 152)); skip)
    | (go_at_call 81; refine (HBLK.out _ (HX.out.trans x1)).mono ?_; rintro e w2 ⟨rfl, h2, x2⟩)
    | (go_at_call 82; refine (strOf_any _ _ _ _ P _ h2 HNE.out).mono ?_; rintro e w3 ⟨rfl, x3⟩))
  go_ret
  exact ⟨rfl, Below.trans (Below.trans ((HX.out.trans x1).alloc _) x2.1) x3⟩
end Go.Proofs.YtjaeedbjknejdaaGreatDoor.Tr

namespace Go.Proofs.YtjaeedbjknejdaaGreatDoor.Tr
open Go.RowKit Go.Sort Go.Lib Go.Shelf Fx Lx
theorem print_bad (nm : ByteArray) (dir : Bool) (b : Option Addr) (L : List Stm) (cap : Nat) (w : World) (h : StmsAt w.heap.size w b L) (hs : sizeL L <= 1048576) (hnm : nm.size <= 1048576) (hv : validE nm L ≠ 0) :
    Calls Tryz.prog 37 #[.agg #[.string nm, .bool dir, .slice b L.length cap]] w fun e w' => e = .returned (.string ⟨#[]⟩) /\ Ext w w' := by
  have hx0 : Ext w (w.alloc (.cells #[.string nm, .bool dir, .slice b L.length cap] 33)) := (Ext.refl _).alloc _
  have hval := fun w' (x : Ext w w') => valid_any nm dir b L cap w.heap.size w' x.size (StmsAt.below x L h) hs (by omega)
  generalize validE nm L = V at *
  obtain ⟨f0, f0'⟩ := ne_facts hv
  generalize L.length = N at *
  have HVAL := Lib.hid hval; have HX := Lib.hid hx0
  clear hval hx0 h hs hnm hv
  go_enter Tryz.func37, Tryz.ntmps37
  go_wp2_with (go_at_call 30; refine (HVAL.out _ HX.out).mono ?_; rintro e w1 ⟨rfl, x1⟩)
  go_ret
  exact ⟨rfl, HX.out.trans x1⟩
theorem print_any (nm : ByteArray) (dir : Bool) (b : Option Addr) (L : List Stm) (cap : Nat) (w : World) (he : Env w) (h : StmsAt w.heap.size w b L) (hs : sizeL L <= 1048576) (hnm : nm.size <= 1048576) (hlen : validE nm L = 0 -> (printT dir nm L).length + 1000 <= 140737488355328) :
    Calls Tryz.prog 37 #[.agg #[.string nm, .bool dir, .slice b L.length cap]] w fun e w' => e = .returned (.string ⟨(if validE nm L = 0 then printT dir nm L else []).toArray⟩) /\ Ext w w' := by
  by_cases hv : validE nm L = 0
  · rw [if_pos hv]
    cases dir
    · exact print_false nm b L cap w he h hs hnm (hlen hv) hv
    exact print_true nm b L cap w he h hs hnm (hlen hv) hv
  rw [if_neg hv]
  exact print_bad nm dir b L cap w h hs hnm hv
end Go.Proofs.YtjaeedbjknejdaaGreatDoor.Tr

namespace Go.Proofs.YtjaeedbjknejdaaGreatDoor.Tr
open Go.RowKit Go.Sort Go.Lib Go.Shelf Fx Lx
abbrev bs (l : List UInt8) : ByteArray := ⟨l.toArray⟩
end Go.Proofs.YtjaeedbjknejdaaGreatDoor.Tr

namespace Go.Proofs.YtjaeedbjknejdaaGreatDoor.Tr
open Go.Lib Fx Lx
theorem valueT_len (s : ByteArray) : (valueT s).length <= 2 * s.size + 2 := by
  have e : s.size = s.data.toList.length := by simp
  unfold valueT
  split
  · omega
  split
  · omega
  unfold quote
  split
  · simp
  split
  · simp
  have := escL_le s.data.toList
  simp only [List.length_cons, List.length_append, List.length_nil]; omega
theorem attrT_len (q : Two) : (attrT q).length + 2 <= 5 * (q.1.size + q.2.size + 1) := by
  have e : q.1.size = q.1.data.toList.length := by simp
  have := valueT_len q.2
  unfold attrT
  rw [List.length_append, List.length_cons]; omega
theorem sepT_len (sep : List UInt8) (F : Two -> List UInt8) (h : ∀ q, (F q).length + sep.length <= 5 * (q.1.size + q.2.size + 1)) : ∀ L : List Two, (sepT sep (L.map F)).length <= 5 * sizeTwo L
  | [] => by simp [sepT]
  | [q] => by have := h q; show (F q).length <= _; simp only [sizeTwo]; omega
  | q :: r :: L => by
    have h1 := h q
    have ih := sepT_len sep F h (r :: L)
    show (F q ++ sep ++ sepT sep ((r :: L).map F)).length <= _
    rw [List.length_append, List.length_append]
    rw [sizeTwo]; omega
theorem listedT_len (L : List Two) : (listedT L).length <= 5 * sizeTwo L + 2 := by
  have := sepT_len [44, 32] attrT attrT_len L
  unfold listedT
  simp only [List.length_cons, List.length_append, List.length_nil]; omega
theorem tailT_len (L : List Two) : (tailT L).length <= 5 * sizeTwo L + 4 := by
  have := listedT_len L
  unfold tailT
  split
  · simp
  simp only [List.length_cons, List.length_append, List.length_nil]; omega
theorem refT_len (d : Bool) (q : Two) : (refT q).length + (arrow d).length <= 5 * (q.1.size + q.2.size + 1) := by
  have e : q.1.size = q.1.data.toList.length := by simp
  have e2 : q.2.size = q.2.data.toList.length := by simp
  have : (arrow d).length = 4 := by cases d <;> rfl
  unfold refT
  rw [List.length_append]
  split
  · simp only [List.length_nil]; omega
  rw [List.length_cons]; omega
theorem indT_len (n : Nat) : (indT n).length = 4 * n := by unfold indT; simp
mutual
theorem printS_len (d : Bool) : ∀ (x : Stm) (lev : Nat), (printS d lev x).length <= sizeS x * (30 + 8 * (lev + sizeS x))
  | .mk k n r a b, lev => by
    have ih := printL_len d b (lev + 1)
    have hr := sepT_len (arrow d) refT (refT_len d) r
    have hl := listedT_len a
    have ht := tailT_len a
    have hi := indT_len lev
    have hn : n.data.toList.length = n.size := by simp
    have hv : (valueT (a.headD (⟨#[]⟩, ⟨#[]⟩)).2).length <= 2 * sizeTwo a + 2 := by
      have := valueT_len (a.headD (⟨#[]⟩, ⟨#[]⟩)).2
      cases a with
      | nil => exact this
      | cons q t => rw [sizeTwo]; simp only [List.headD_cons] at this ⊢; omega
    obtain ⟨S, hS⟩ : ∃ S, S = sizeS (.mk k n r a b) := ⟨_, rfl⟩
    rw [<- hS]
    rw [sizeS] at hS
    have key : (n.size + sizeTwo r + sizeTwo a + 1) * (30 + 8 * lev) + sizeL b * (30 + 8 * (lev + S)) <= S * (30 + 8 * (lev + S)) := by
      have h1 : (n.size + sizeTwo r + sizeTwo a + 1) * (30 + 8 * lev) <= (n.size + sizeTwo r + sizeTwo a + 1) * (30 + 8 * (lev + S)) := Nat.mul_le_mul_left _ (by omega)
      have h2 : S * (30 + 8 * (lev + S)) = (n.size + sizeTwo r + sizeTwo a + 1) * (30 + 8 * (lev + S)) + sizeL b * (30 + 8 * (lev + S)) := by
        rw [<- Nat.add_mul]; congr 1; omega
      omega
    have low : n.size * 30 + sizeTwo r * 30 + sizeTwo a * 30 + 30 + 8 * lev <= (n.size + sizeTwo r + sizeTwo a + 1) * (30 + 8 * lev) := by
      rw [Nat.mul_add]
      have : 1 * (8 * lev) <= (n.size + sizeTwo r + sizeTwo a + 1) * (8 * lev) := Nat.mul_le_mul_right _ (by omega)
      omega
    have ih2 : (printL d (lev + 1) b).length <= sizeL b * (30 + 8 * (lev + S)) := Nat.le_trans ih (Nat.mul_le_mul_left _ (by omega))
    have goal : ∀ m, m <= n.size * 30 + sizeTwo r * 30 + sizeTwo a * 30 + 30 + 8 * lev + (printL d (lev + 1) b).length -> m <= S * (30 + 8 * (lev + S)) := fun m hm => by omega
    rw [printS]
    apply goal
    split
    · simp only [List.length_append, List.length_cons, List.length_nil]; omega
    · split
      · simp only [List.length_append, List.length_cons, List.length_nil]; omega
      split
      · simp only [List.length_append, List.length_cons, List.length_nil]; omega
      split
      · simp only [List.length_append, List.length_cons, List.length_nil]; omega
      simp only [List.length_append, List.length_cons, List.length_nil]; omega
theorem printL_len (d : Bool) : ∀ (L : List Stm) (lev : Nat), (printL d lev L).length <= sizeL L * (30 + 8 * (lev + sizeL L))
  | [], lev => by rw [printL, sizeL]; simp
  | x :: r, lev => by
    have h1 := printS_len d x lev
    have h2 := printL_len d r lev
    rw [printL, sizeL, List.length_append, Nat.add_mul]
    have h3 : sizeS x * (30 + 8 * (lev + sizeS x)) <= sizeS x * (30 + 8 * (lev + (sizeS x + sizeL r))) := Nat.mul_le_mul_left _ (by omega)
    have h4 : sizeL r * (30 + 8 * (lev + sizeL r)) <= sizeL r * (30 + 8 * (lev + (sizeS x + sizeL r))) := Nat.mul_le_mul_left _ (by omega)
    omega
end
theorem printT_len (d : Bool) (name : ByteArray) (L : List Stm) (hn : name.size <= 1048576) (hL : sizeL L <= 1048576) : (printT d name L).length + 1000 <= 140737488355328 := by
  have h1 := printL_len d L 1
  have h2 : sizeL L * (30 + 8 * (1 + sizeL L)) <= 1048576 * (30 + 8 * (1 + 1048576)) := Nat.mul_le_mul hL (by omega)
  have hn2 : name.data.toList.length = name.size := by simp
  unfold printT
  simp only [List.length_append, List.length_cons, List.length_nil]
  have : (if d = true then [100, 105, 103, 114, 97, 112, 104, 32] else [103, 114, 97, 112, 104, 32] : List UInt8).length <= 8 := by cases d <;> decide
  omega
end Go.Proofs.YtjaeedbjknejdaaGreatDoor.Tr
