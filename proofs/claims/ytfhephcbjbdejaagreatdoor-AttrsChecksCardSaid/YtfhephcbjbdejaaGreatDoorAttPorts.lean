/- What the program's Ports returns: the walk. -/
import Derived.Lib.Builder
import Derived.Test.YtfhephcbjbdejaaGreatDoorAttMem
import Derived.Test.YtfhephcbjbdejaaGreatDoorFixParse
namespace Go.Proofs.YtfhephcbjbdejaaGreatDoor.At
open Go.RowKit Go.Sort Go.Lib Go.Shelf Fx Lx

theorem info_prt : (Tryz.prog.info? 49).map (fun i => (i.zero, i.size, i.bytes)) = some (some (.agg #[.string ⟨#[]⟩, .int .i64 0]), 2, 24) := by kernel_rfl
theorem ne_facts {x k : Int} (h : x ≠ k) : (x == k) = false ∧ (x != k) = true := by
  have : (x == k) = false := by rw [beq_eq_false_iff_ne]; exact h
  exact ⟨this, by rw [bne, this]; rfl⟩
theorem eq_facts {x k : Int} (h : x = k) : (x == k) = true ∧ (x != k) = false := by
  have : (x == k) = true := by rw [beq_iff_eq]; exact h
  exact ⟨this, by rw [bne, this]; rfl⟩

theorem own_base {w : World} {B B' n : Nat} {e : TypeId} {v : Value} {size : Nat} {xs : List Value} (h : w.ownsRow B e size v n xs) (hb : B' ≤ B) : w.ownsRow B' e size v n xs := by
  refine ⟨h.1, ?_⟩
  rcases h.2 with h1 | ⟨g, cap, cur, hv, hg0, r⟩
  · exact .inl h1
  · exact .inr ⟨g, cap, cur, hv, by omega, r⟩
theorem own_ext {w w' : World} {B n : Nat} {e : TypeId} {v : Value} {size : Nat} {xs : List Value} (h : w.ownsRow B e size v n xs) (x : Ext w w') : w'.ownsRow B e size v n xs := by
  refine ⟨h.1, ?_⟩
  rcases h.2 with h1 | ⟨g, cap, cur, hv, hb, hg, r⟩
  · exact .inl h1
  · refine .inr ⟨g, cap, cur, hv, hb, ?_, r⟩
    rw [x.block g (Array.getElem?_eq_some_iff.1 hg).1]; exact hg

theorem cell_new2 (w : World) (A C : Obj) (l : List Value) (T : TypeId) (hC : C = .cells l.toArray T) (j : Nat) (u : Value) (h : l[j]? = some u) :
    ((w.alloc A).alloc C).cell? ((⟨w.heap.size + 1, 0, none⟩ : Addr).add j) = some u := by
  have hb := heap_alloc_new (w.alloc A) C
  rw [World.size_alloc, hC] at hb
  have e : (⟨w.heap.size + 1, 0, none⟩ : Addr).add j = ⟨w.heap.size + 1, j, none⟩ := by simp [Addr.add]; exact fun h => h.symm
  rw [e, hC, Lib.cell_of_heap hb]
  simpa using h
theorem cell_new1 (w : World) (l : List Value) (T : TypeId) (j : Nat) (u : Value) (h : l[j]? = some u) :
    (w.alloc (.cells l.toArray T)).cell? ((⟨w.heap.size, 0, none⟩ : Addr).add j) = some u := by
  have hb := heap_alloc_new w (.cells l.toArray T)
  have e : (⟨w.heap.size, 0, none⟩ : Addr).add j = ⟨w.heap.size, j, none⟩ := by simp [Addr.add]; exact fun h => h.symm
  rw [e, Lib.cell_of_heap hb]
  simpa using h
/-- A list of ports and its error, as they are handed back in w. -/
def PrtRes (B : Nat) (R : List Prt × Int) (e : Ending) (w : World) : Prop :=
  ∃ v, e = .returned (.tuple #[v, .int .i64 R.2]) ∧ w.ownsRow B 49 2 v R.1.length (prtsC R.1)
def sidesC : Array Value := #[.string ⟨#[116, 111, 112]⟩, .string ⟨#[114, 105, 103, 104, 116]⟩, .string ⟨#[98, 111, 116, 116, 111, 109]⟩, .string ⟨#[108, 101, 102, 116]⟩]
theorem sides_cell (w : World) (j : Nat) (hj : j < sidesL.length) : (w.alloc (.cells sidesC 9)).cell? ⟨w.heap.size, 0 + j, none⟩ = some (.string (sidesL.getD j ByteArray.empty)) := by
  have hb := heap_alloc_new w (.cells sidesC 9)
  rw [Lib.cell_of_heap hb]
  have : j < 4 := hj
  match j, this with
  | 0, _ => rfl
  | 1, _ => rfl
  | 2, _ => rfl
  | 3, _ => rfl
theorem side_any (x : ByteArray) (d : Int) (w : World) (o : Obj) (hd : sideN x = d) :
    Calls Tryz.prog 39 #[.slice (some ⟨w.heap.size + 1, 0, none⟩) 4 4, .string x] ((w.alloc o).alloc (.cells #[.string ⟨#[116, 111, 112]⟩, .string ⟨#[114, 105, 103, 104, 116]⟩, .string ⟨#[98, 111, 116, 116, 111, 109]⟩, .string ⟨#[108, 101, 102, 116]⟩] 9)) fun e w' => e = .returned (.int .i64 d) ∧ w' = (w.alloc o).alloc (.cells #[.string ⟨#[116, 111, 112]⟩, .string ⟨#[114, 105, 103, 104, 116]⟩, .string ⟨#[98, 111, 116, 116, 111, 109]⟩, .string ⟨#[108, 101, 102, 116]⟩] 9) := by
  have hz := sides_cell (w.alloc o)
  rw [World.size_alloc] at hz
  have h := Tryz.slices_Index_string (w.heap.size + 1) 0 4 4 sidesL x ((w.alloc o).alloc (.cells sidesC 9)) (by decide) (by decide) hz
  rw [show sidesL.take 4 = sidesL from rfl, show Lib.idxOfS sidesL x = sideN x from rfl, hd] at h
  exact h
theorem cell_new (w : World) (n : ByteArray) : ∀ o, ((w.alloc (.cells #[.string n] 9)).alloc o).cell? ⟨w.heap.size, 0, none⟩ = some (.string n) := fun o => by
  have hb := heap_alloc_new w (.cells #[.string n] 9)
  have h0 : (w.alloc (.cells #[.string n] 9)).cell? ⟨w.heap.size, 0, none⟩ = some (.string n) := by rw [Lib.cell_of_heap hb]; rfl
  exact ((Ext.refl _).alloc o).cell h0
theorem cut_hit (p n x : ByteArray) (w : World) (hs : p.size < 4294967281) (he : Env w) (hg : 0 ≤ gapN p) (hn : nmOf p = n) (hx : wdOf p = x) :
    Calls Tryz.prog 38 #[.string p, .string ⟨#[32]⟩] w fun e w' => e = .returned (.tuple #[.string n, .string x, .bool true]) ∧ Ext w w' := by
  subst hn; subst hx
  obtain ⟨m, hm⟩ := he.2
  have h := Tryz.strings_Cut p ⟨#[32]⟩ m w hs hm
  obtain ⟨h1, h2, h3⟩ := (cut_gap p).1 hg
  rw [show (⟨#[32]⟩ : ByteArray).data.toList = [32] from rfl, h1, h2, h3] at h
  refine h.mono ?_
  rintro e w' ⟨rfl, n, rfl⟩
  exact ⟨rfl, (Ext.refl _).drewN n⟩
theorem cut_miss (p : ByteArray) (w : World) (hs : p.size < 4294967281) (he : Env w) (hg : gapN p < 0) :
    Calls Tryz.prog 38 #[.string p, .string ⟨#[32]⟩] w fun e w' => (∃ b, e = .returned (.tuple #[.string b, .string ⟨#[]⟩, .bool false])) ∧ Ext w w' := by
  obtain ⟨m, hm⟩ := he.2
  have h := Tryz.strings_Cut p ⟨#[32]⟩ m w hs hm
  obtain ⟨h2, h3⟩ := (cut_gap p).2 hg
  rw [show (⟨#[32]⟩ : ByteArray).data.toList = [32] from rfl, h2, h3] at h
  refine h.mono ?_
  rintro e w' ⟨rfl, n, rfl⟩
  exact ⟨⟨_, rfl⟩, (Ext.refl _).drewN n⟩
theorem split_any (s : ByteArray) (w : World) (hs : s.size < 4294967281) (he : Env w) :
    Calls Tryz.prog 37 #[.string s, .string ⟨#[44, 32]⟩] w fun e w' => e = .returned (.slice (some ⟨w.heap.size, 0, none⟩) (parts s).length (parts s).length) ∧ w' = w.alloc (.cells ((parts s).map Value.string).toArray 9) := by
  obtain ⟨m, hm⟩ := he.2
  have h := Tryz.strings_Split s ⟨#[44, 32]⟩ m w hs hm (by decide)
  have hl : (parts s).length = Lib.countB s comma + 1 := Lib.splitB_all comma (by decide) 0 _ s rfl
  rw [hl]
  exact h
theorem parts_cell (w : World) (L : List ByteArray) (k : Nat) (h : k < L.length) : (w.alloc (.cells (L.map Value.string).toArray 9)).cell? ⟨w.heap.size, k, none⟩ = some (.string L[k]) := by
  have hb := heap_alloc_new w (.cells (L.map Value.string).toArray 9)
  rw [Lib.cell_of_heap hb]
  simp [h]
theorem split_small (sep : ByteArray) : ∀ (k : Nat) (s p : ByteArray), p ∈ Lib.splitB sep 0 k s → p.size ≤ s.size
  | 0, s, p, h => by
    rw [Lib.splitB_zero] at h; simp at h; rw [h]; exact Nat.le_refl _
  | k + 1, s, p, h => by
    rcases Lib.indexB_cases s sep with hm | ⟨i, hi, hle⟩
    · rw [Lib.splitB_miss _ _ _ _ hm] at h; simp at h; rw [h]; exact Nat.le_refl _
    · rw [Lib.splitB_hit _ _ _ _ i hi] at h
      rcases List.mem_cons.1 h with rfl | h'
      · rw [ByteArray.size_extract]; omega
      · have := split_small sep k _ p h'
        rw [ByteArray.size_extract] at this; omega
end Go.Proofs.YtfhephcbjbdejaaGreatDoor.At
