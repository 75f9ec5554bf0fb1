/- Packed texts: PrtInc, PrtCls, PrtRef -/
import Derived.Test.YtaipcpdncmnelaaPu03
set_option linter.unusedVariables false
set_option linter.unusedSimpArgs false
/- The search's state in memory as begin lays it: an incidence, two rows of numbers, the blocks under way. -/
namespace Go.Proofs.Ytaipcpdncmnelaa.Pt
open Go.RowKit Go.Sort Go.Lib Fx Tp

/-! ### the lists of edges -/
def loopK (A : Arcs) (k : Nat) : List (List Nat) := ((List.range k).filter (fun i => (arcN A i).1 == (arcN A i).2)).map (fun i => [i])
def loopT (A : Arcs) : List (List Nat) := loopK A A.length
theorem arcN_at {A : Arcs} {k : Nat} (h : k < A.length) : arcN A k = A[k] := by unfold arcN; rw [List.getD_eq_getElem?_getD, List.getElem?_eq_getElem h]; rfl
theorem incK_len (A : Arcs) (k v : Nat) : (incK A k v).length ≤ k := Nat.le_trans (List.length_filter_le _ _) (by simp)
theorem loopK_len (A : Arcs) (k : Nat) : (loopK A k).length ≤ k := by
  unfold loopK; rw [List.length_map]; exact Nat.le_trans (List.length_filter_le _ _) (by simp)
theorem incK_succ (A : Arcs) (k v : Nat) : incK A (k + 1) v = incK A k v ++ (if touch (arcN A k) v = true then [k] else []) := range_filter' _ _
theorem loopK_succ (A : Arcs) (k : Nat) : loopK A (k + 1) = loopK A k ++ (if (arcN A k).1 = (arcN A k).2 then [[k]] else []) := by
  unfold loopK; rw [range_filter', List.map_append]
  by_cases h : (arcN A k).1 = (arcN A k).2
  · rw [if_pos h, if_pos (by simpa using h)]; rfl
  · rw [if_neg h, if_neg (by simpa using h)]; rfl
theorem incK_loop (A : Arcs) (k : Nat) (h : (arcN A k).1 = (arcN A k).2) : incK A (k + 1) = incK A k := by
  funext v; rw [incK_succ, if_neg (by unfold touch; simp [h]), List.append_nil]
theorem incK_arc (A : Arcs) (k : Nat) (h : (arcN A k).1 ≠ (arcN A k).2) : (fun u => if u = (arcN A k).2 then (if u = (arcN A k).1 then incK A k u ++ [k] else incK A k u) ++ [k] else (if u = (arcN A k).1 then incK A k u ++ [k] else incK A k u)) = incK A (k + 1) := by
  funext u
  rw [incK_succ]
  generalize arcN A k = p at h
  obtain ⟨x, y⟩ := p
  dsimp only at h ⊢
  unfold touch
  dsimp only
  by_cases h1 : u = y
  · subst h1
    rw [if_pos rfl, if_neg (fun e => h e.symm), if_pos (by simpa using h)]
  · rw [if_neg h1]
    by_cases h2 : u = x
    · subst h2
      rw [if_pos rfl, if_pos (by simpa using h)]
    · rw [if_neg h2, if_neg (by simp only [bne_iff_ne, ne_eq, Bool.and_eq_true, Bool.or_eq_true, beq_iff_eq, not_and, not_or]; exact fun _ => ⟨fun e => h2 e.symm, fun e => h1 e.symm⟩), List.append_nil]

/-! ### memory -/
structure SLie (h bs bi ba bn bl B : Nat) : Prop where
  gs : h ≤ bs
  gi : h ≤ bi
  ga : h ≤ ba
  gn : h ≤ bn
  gl : h ≤ bl
  ls : bs < B
  li : bi < B
  la : ba < B
  ln : bn < B
  ll : bl < B
  si : bs ≠ bi
  sa : bs ≠ ba
  sn : bs ≠ bn
  sl : bs ≠ bl
  ia : bi ≠ ba
  in_ : bi ≠ bn
  il : bi ≠ bl
  an : ba ≠ bn
  al : ba ≠ bl
  nl : bn ≠ bl
structure Beg (w0 : World) (a : Option Addr) (M cap N bs bi ba bn bl B : Nat) (w : World) (fv : Value) (fs : List Value) (cs : Array Value) (f : Nat → List Nat) (F : List (List Nat)) : Prop where
  S : w.heap[bs]? = some (.cells #[.pointer (some ⟨bi, 0, none⟩), .slice (some ⟨bn, 0, none⟩) N N, .slice (some ⟨bl, 0, none⟩) N N, .int .i64 0, .slice none 0 0, fv] 45 (0, 0))
  I : w.heap[bi]? = some (.cells #[.slice a M cap, .slice (some ⟨ba, 0, none⟩) N N] 57 (0, 0))
  n : BlkI w bn (List.replicate N 0)
  l : BlkI w bl (List.replicate N 0)
  H : w.heap[ba]? = some (.cells cs 31 (0, 0))
  Hn : cs.size = N
  Hr : ∀ v, v < N → ∃ sv, cs[v]? = some sv ∧ w.ownsRow B 3 1 sv (f v).length (iv (zl (f v)))
  Hs : ∀ (u v : Nat) (su sv : Value), u ≠ v → cs[u]? = some su → cs[v]? = some sv → su.ownBlock = none ∨ su.ownBlock ≠ sv.ownBlock
  R : RowsF w B fv fs F
  C : ∀ (v : Nat) (sv : Value) (g : Nat), cs[v]? = some sv → sv.ownBlock = some g → ¬ Uses fv fs g
  X : Ext w0 w
  Z : B ≤ w.heap.size
variable {w0 w w2 : World} {a : Option Addr} {M cap N bs bi ba bn bl B : Nat} {fv : Value} {fs : List Value} {cs : Array Value} {f : Nat → List Nat} {F : List (List Nat)}
theorem Beg.ext (h : Beg w0 a M cap N bs bi ba bn bl B w fv fs cs f F) (x : Ext w w2) : Beg w0 a M cap N bs bi ba bn bl B w2 fv fs cs f F :=
  ⟨heap_ext h.S x, heap_ext h.I x, h.n.ext x, h.l.ext x, heap_ext h.H x, h.Hn, fun v hv => by
    obtain ⟨sv, h1, h2⟩ := h.Hr v hv
    exact ⟨sv, h1, own_ext' h2 x⟩, h.Hs, h.R.ext x, h.C, h.X.trans x, Nat.le_trans h.Z x.size⟩
theorem Beg.cells (h : Beg w0 a M cap N bs bi ba bn bl B w fv fs cs f F) : w.cell? ⟨bs, 0, none⟩ = some (.pointer (some ⟨bi, 0, none⟩)) ∧ w.cell? ⟨bs, 5, none⟩ = some fv ∧ w.cell? ⟨bi, 0, none⟩ = some (.slice a M cap) ∧ w.cell? ⟨bi, 1, none⟩ = some (.slice (some ⟨ba, 0, none⟩) N N) := by
  refine ⟨?_, ?_, ?_, ?_⟩ <;> first | (rw [Lib.cell_of_heap h.S]; rfl) | (rw [Lib.cell_of_heap h.I]; rfl)
/-- An edge is laid at an end. -/
theorem Beg.put (h : Beg w0 a M cap N bs bi ba bn bl B w fv fs cs f F) (lie : SLie w0.heap.size bs bi ba bn bl B) {x : Nat} (hx : x < N) : ∃ sv, w.cell? ⟨ba, x, none⟩ = some sv ∧ w.ownsRow B 3 1 sv (f x).length (iv (zl (f x))) ∧
    ∀ (w2 : World) (g c y : Nat), w2.ownsRow B 3 1 (.slice (some ⟨g, 0, none⟩) ((f x).length + 1) c) ((f x).length + 1) (iv (zl (f x)) ++ [.int .i64 y]) → w.grownBy w2 sv.ownBlock → (sv.ownBlock = some g ∨ w.heap.size ≤ g) →
      ∃ cs2, Beg w0 a M cap N bs bi ba bn bl B (w2.setCell ⟨ba, x, none⟩ (.slice (some ⟨g, 0, none⟩) ((f x).length + 1) c)) fv fs cs2 (fun u => if u = x then f u ++ [y] else f u) F := by
  obtain ⟨sv, h5, h6⟩ := h.Hr x hx
  refine ⟨sv, by rw [Lib.cell_of_heap h.H]; exact h5, h6, fun w2 g c y hown hg hat => ?_⟩
  have hlo : ∀ b, sv.ownBlock = some b → B ≤ b := fun b hb => (h6.lt b hb).1
  have far : ∀ {b : Nat} {o : Obj}, w.heap[b]? = some o → b < B → w2.heap[b]? = some o := fun {b o} hb hlt => heap_grown hb hg (fun e => by have := hlo b e.symm; omega)
  have kk : Keep (fun b => sv.ownBlock = some b) w w2 := (Keep.refl _ w).grown hg (fun k hk _ => hk)
  have ks : Keep (· = ba) w2 (w2.setCell ⟨ba, x, none⟩ (.slice (some ⟨g, 0, none⟩) ((f x).length + 1) c)) := (Keep.refl _ w2).setCell _ _ (.inl rfl)
  have hvs : x < cs.size := by rw [h.Hn]; exact hx
  have own2 : ∀ {u : Value} {n : Nat} {xs : List Value}, w2.ownsRow B 3 1 u n xs → (w2.setCell ⟨ba, x, none⟩ (.slice (some ⟨g, 0, none⟩) ((f x).length + 1) c)).ownsRow B 3 1 u n xs := fun {u n xs} hu =>
    own_keep hu ks (fun q hq e => by have := (hu.lt q hq).1; have := lie.la; omega)
  have far2 : ∀ y sy, y ≠ x → cs[y]? = some sy → sy.ownBlock = none ∨ sy.ownBlock ≠ some g := fun y sy hy hsy => by
    rcases hat with hat | hat
    · rw [← hat]; exact h.Hs y x sy sv hy hsy h5
    · have hyN : y < N := by rw [← h.Hn]; exact (Array.getElem?_eq_some_iff.1 hsy).1
      obtain ⟨sy', h8, h9⟩ := h.Hr y hyN
      rw [hsy] at h8; cases h8
      cases hb : sy.ownBlock with
      | none => exact .inl rfl
      | some q => right; intro e; cases e; have := (h9.lt g hb).2; omega
  refine ⟨cs.setIfInBounds x (.slice (some ⟨g, 0, none⟩) ((f x).length + 1) c), heap_other (far h.S lie.ls) _ _ lie.sa, heap_other (far h.I lie.li) _ _ lie.ia, heap_other (far h.n lie.ln) _ _ (fun e => lie.an e.symm), heap_other (far h.l lie.ll) _ _ (fun e => lie.al e.symm), heap_set (far h.H lie.la) x _, by rw [Array.size_setIfInBounds]; exact h.Hn, fun u hu => ?_, fun u u' su su' hne2 hsu hsu' => ?_, ?_, fun v s q hs hq => ?_, ?_, ?_⟩
  · by_cases e : u = x
    · subst e
      refine ⟨_, by rw [Array.getElem?_setIfInBounds_self_of_lt hvs], ?_⟩
      rw [if_pos rfl, zl_app, iv_app]
      have e2 : (f u ++ [y]).length = (f u).length + 1 := by simp
      rw [e2]
      exact own2 hown
    · obtain ⟨su, h8, h9⟩ := h.Hr u hu
      refine ⟨su, by rw [Array.getElem?_setIfInBounds_ne (fun z => e z.symm)]; exact h8, ?_⟩
      rw [if_neg e]
      exact own2 (h9.kept hg (h.Hs u x su sv e h8 h5))
  · by_cases e : u = x
    · subst e
      rw [Array.getElem?_setIfInBounds_self_of_lt hvs] at hsu
      cases hsu
      rw [Array.getElem?_setIfInBounds_ne hne2] at hsu'
      rcases far2 u' su' (fun z => hne2 z.symm) hsu' with h8 | h8
      · right; rw [h8]; simp [Value.ownBlock]
      · right; exact fun z => h8 z.symm
    · rw [Array.getElem?_setIfInBounds_ne (fun z => e z.symm)] at hsu
      by_cases e' : u' = x
      · subst e'
        rw [Array.getElem?_setIfInBounds_self_of_lt hvs] at hsu'
        cases hsu'
        exact far2 u su e hsu
      · rw [Array.getElem?_setIfInBounds_ne (fun z => e' z.symm)] at hsu'
        exact h.Hs u u' su su' hne2 hsu hsu'
  · exact (h.R.keep kk (fun q hq e => h.C x sv q h5 e hq)).keep ks (fun q hq e => by
      have := (h.R.uses hq).1; have := lie.la; omega)
  · by_cases e : v = x
    · subst e
      rw [Array.getElem?_setIfInBounds_self_of_lt hvs] at hs
      cases hs
      have hq : g = q := by simpa [Value.ownBlock] using hq
      subst hq
      rcases hat with hat | hat
      · exact h.C v sv g h5 hat
      · intro hu; have := (h.R.uses hu).2; omega
    · rw [Array.getElem?_setIfInBounds_ne (fun z => e z.symm)] at hs
      exact h.C v s q hs hq
  · exact (Below.grown h.X hg h.X.size (fun b hb => by have := hlo b hb; have := lie.ga; have := lie.la; omega)).setCell lie.ga _
  · have := hg.size; have := h.Z; simp [World.setCell]; omega
/-- A loop is a block of its own. -/
theorem Beg.loop {g c b : Nat} {k : List Nat} {pc : Nat} (h : Beg w0 a M cap N bs bi ba bn bl B w fv fs cs f F) (lie : SLie w0.heap.size bs bi ba bn bl B)
    (hp : IntIn w (some ⟨b, 0, none⟩) (zl k)) (hpb : B ≤ b ∧ b < w.heap.size ∧ fv.ownBlock ≠ some b) (hpc : ∀ (v : Nat) (sv : Value), cs[v]? = some sv → sv.ownBlock ≠ some b)
    (f1' : w2.ownsRow B 31 1 (.slice (some ⟨g, 0, none⟩) (F.length + 1) c) (F.length + 1) (fs ++ [.slice (some ⟨b, 0, none⟩) k.length pc])) (hg : w.grownBy w2 fv.ownBlock) (hat : fv.ownBlock = some g ∨ w.heap.size ≤ g) :
    ∃ fs2, Beg w0 a M cap N bs bi ba bn bl B (w2.setCell ⟨bs, 5, none⟩ (.slice (some ⟨g, 0, none⟩) (F.length + 1) c)) (.slice (some ⟨g, 0, none⟩) (F.length + 1) c) fs2 cs f (F ++ [k]) := by
  have hlo : ∀ b, fv.ownBlock = some b → B ≤ b := fun b hb => (h.R.own.lt b hb).1
  have far : ∀ {b : Nat} {o : Obj}, w.heap[b]? = some o → b < B → w2.heap[b]? = some o := fun {b o} hb hlt => heap_grown hb hg (fun e => by have := hlo b e.symm; omega)
  have kk : Keep (fun b => fv.ownBlock = some b) w w2 := (Keep.refl _ w).grown hg (fun k hk _ => hk)
  have ks : Keep (· = bs) w2 (w2.setCell ⟨bs, 5, none⟩ (.slice (some ⟨g, 0, none⟩) (F.length + 1) c)) := (Keep.refl _ w2).setCell _ _ (.inl rfl)
  have P := RowsF.push h.R hp (fun q e => by cases e; exact hpb) f1' rfl hg hat
  have hW := heap_set (far h.S lie.ls) 5 (.slice (some ⟨g, 0, none⟩) (F.length + 1) c)
  refine ⟨_, ?_, heap_other (far h.I lie.li) _ _ (fun e => lie.si e.symm), heap_other (far h.n lie.ln) _ _ (fun e => lie.sn e.symm), heap_other (far h.l lie.ll) _ _ (fun e => lie.sl e.symm), heap_other (far h.H lie.la) _ _ (fun e => lie.sa e.symm), h.Hn, fun u hu => ?_, h.Hs, P.keep ks (fun q hq e => by
      have := (P.uses hq).1; have := lie.ls; omega), fun v s q hs hq => ?_, (Below.grown h.X hg h.X.size (fun b hb => by have := hlo b hb; have := lie.ga; have := lie.la; omega)).setCell lie.gs _, ?_⟩
  · rw [hW]; rfl
  · obtain ⟨su, h8, h9⟩ := h.Hr u hu
    refine ⟨su, h8, own_keep (own_keep h9 kk (fun q hq e => h.C u su q h8 hq (.inl e))) ks (fun q hq e => by have := (h9.lt q hq).1; have := lie.ls; omega)⟩
  · intro hu
    have hvN : v < N := by rw [← h.Hn]; exact (Array.getElem?_eq_some_iff.1 hs).1
    obtain ⟨su, h8, h9⟩ := h.Hr v hvN
    rw [hs] at h8; cases h8
    rcases hu with hu | ⟨s2, hs2, hu⟩
    · have hu : g = q := by simpa [Value.ownBlock] using hu
      subst hu
      rcases hat with hat | hat
      · exact h.C v s g hs hq (.inl hat)
      · have := (h9.lt g hq).2; omega
    · rcases List.mem_append.1 hs2 with hs2 | hs2
      · exact h.C v s q hs hq (.inr ⟨s2, hs2, hu⟩)
      · have e := List.mem_singleton.1 hs2
        subst e
        have hu : b = q := by simpa [Value.ownBlock] using hu
        subst hu
        exact hpc v s hs hq
  · have := hg.size; have := h.Z; simp [World.setCell]; omega
end Go.Proofs.Ytaipcpdncmnelaa.Pt

/- What the document's classes returns. -/
namespace Go.Proofs.Ytaipcpdncmnelaa.Pt
open Go.RowKit Go.Sort Go.Lib Fx Tp

set_option maxHeartbeats 8000000 in
set_option maxRecDepth 100000 in
theorem classes_any (a : Option Addr) (l : List Int) (cap : Nat) (w : World) (h : IntIn w a l) (hl : l.length ≤ 300) :
    Calls Try.prog 32 #[.slice a l.length cap] w fun e w' => (∃ fv, e = .returned fv ∧ RowsAt w' w.heap.size fv (classesT l)) ∧ Ext w w' := by
  obtain ⟨M, hM⟩ : ∃ M, M = l.length := ⟨_, rfl⟩
  rw [← hM] at hl ⊢
  obtain ⟨i0, hi, hz0, hz1, hz2⟩ := info_parts info_int
  obtain ⟨j0, hj, hjz0, hjz1, hjz2⟩ := info_parts info_row
  have HI := Lib.hid h
  have HM := Lib.hid hM
  clear h hM
  go_enter Try.func32, Try.ntmps32
  go_wp2
  go_loopw [3, 4] (fun o' i' wr => ∃ (i : Nat) (fv : Value), i ≤ M ∧ fv = o' ∧ i' = .int .i64 i ∧ Hid (RowsAt wr w.heap.size fv (clsK l i)) ∧ Ext w wr) (fun _ i' _ => M - (RowKit.intOf i').toNat)
  case atStart => exact ⟨0, _, Nat.zero_le _, rfl, rfl, Lib.hid (RowsAt.lit w w.heap.size (Nat.le_refl _)), (Ext.refl _).alloc _⟩
  case round =>
    obtain ⟨i, fv, hi', rfl, rfl, hf, hx⟩ := hrel
    by_cases hlt : i < M
    · have hfl := clsK_len l i
      have hss := clsK_succ l i
      obtain ⟨F, hF⟩ : ∃ F, F = clsK l i := ⟨_, rfl⟩
      rw [← hF] at hf hfl hss
      clear hF
      have HSS := Lib.hid hss
      clear hss
      obtain ⟨g, o, rfl, e0⟩ := HI.out i (by rw [← HM.out]; exact hlt)
      have ei := hx.cell e0
      have hxi : l[i]'(by rw [← HM.out]; exact hlt) = l.getD i 0 := by rw [List.getD_eq_getElem?_getD, List.getElem?_eq_getElem (by rw [← HM.out]; exact hlt)]; rfl
      rw [hxi] at ei
      clear hxi e0
      obtain ⟨p, hp⟩ : ∃ p, p = l.getD i 0 := ⟨_, rfl⟩
      rw [← hp] at ei
      have HP := Lib.hid hp
      clear hp
      obtain ⟨wo, hwo⟩ : ∃ wo : World, wo = wr := ⟨_, rfl⟩
      subst hwo
      go_wp2
      go_loopw [5, 6] (fun f' k' wr => ∃ k : Nat, k ≤ i ∧ f' = .bool (clsF l i k) ∧ k' = .int .i64 k ∧ Ext wo wr) (fun _ k' _ => i - (RowKit.intOf k').toNat)
      case atStart => exact ⟨0, Nat.zero_le _, rfl, rfl, Ext.refl _⟩
      case round =>
        obtain ⟨k, hk, rfl, rfl, hy⟩ := hrel
        have eiy := hy.cell ei
        by_cases hlt' : k < i
        · have hkl : k < l.length := by rw [← HM.out]; omega
          obtain ⟨g2, o2, ha, e0⟩ := HI.out k hkl
          cases ha
          have ek := hy.cell (hx.cell e0)
          have hxk : l[k] = l.getD k 0 := by rw [List.getD_eq_getElem?_getD, List.getElem?_eq_getElem hkl]; rfl
          rw [hxk] at ek
          have hst := clsF_succ l i k
          obtain ⟨q, hq⟩ : ∃ q, q = l.getD k 0 := ⟨_, rfl⟩
          rw [← hq] at ek hst
          rw [← HP.out] at hst
          clear hxk hq e0
          have b0 : (0 : Int) ≤ (k : Int) := by omega
          have b1 : (k : Int) < (M : Int) := by omega
          have b2 : (0 : Int) ≤ (i : Int) := by omega
          have b3 : (i : Int) < (M : Int) := by omega
          by_cases hb : clsF l i k = true
          · rw [hb, Bool.true_and] at hst
            rw [hb]
            by_cases hpq : q = p
            · obtain ⟨f1, f2⟩ := eq_facts hpq
              rw [f2] at hst
              have HST := Lib.hid hst
              clear hst hb hpq
              go_wp2_with fail
              go_quiet (fail)
              go_wp2
              go_roundw
              case rel => exact ⟨k + 1, by omega, by rw [HST.out], by go_num, by first | exact hy.drewN _ | exact hy.drew⟩
              case measure => simp [RowKit.intOf]; omega
            · obtain ⟨f1, f2⟩ := neq_facts hpq
              rw [f2] at hst
              have HST := Lib.hid hst
              clear hst hb hpq
              go_wp2_with fail
              go_quiet (fail)
              go_wp2
              go_roundw
              case rel => exact ⟨k + 1, by omega, by rw [HST.out], by go_num, by first | exact hy.drewN _ | exact hy.drew⟩
              case measure => simp [RowKit.intOf]; omega
          · have hb : clsF l i k = false := by simpa using hb
            rw [hb, Bool.false_and] at hst
            rw [hb]
            have HST := Lib.hid hst
            clear hst hb
            go_wp2_with fail
            go_quiet (fail)
            go_wp2
            go_roundw
            case rel => exact ⟨k + 1, by omega, by rw [HST.out], by go_num, by first | exact hy.drewN _ | exact hy.drew⟩
            case measure => simp [RowKit.intOf]; omega
        · obtain rfl : k = i := by omega
          by_cases hb : clsF l k k = true
          · rw [hb]
            have hss := HSS.out
            rw [if_pos hb] at hss
            have HSS := Lib.hid hss
            have hf2 := Lib.hid (hf.out.ext hy)
            have hx2 := hx.trans hy
            clear hss hb hf hy ei hx
            obtain ⟨w5, hw5⟩ : ∃ w5 : World, w5 = wr := ⟨_, rfl⟩
            subst hw5
            go_wp2
            go_loopw [7, 8] (fun c' m' wr => ∃ (m : Nat) (cv : Value), k ≤ m ∧ m ≤ M ∧ cv = c' ∧ m' = .int .i64 m ∧ Hid (wr.ownsRow w5.heap.size 3 1 cv (clsR l k m).length (iv (zl (clsR l k m)))) ∧ Ext w5 wr) (fun _ m' _ => M - (RowKit.intOf m').toNat)
            case atStart => exact ⟨k, _, Nat.le_refl _, hi', rfl, rfl, Lib.hid (by rw [clsR_zero]; exact World.ownsRow_lit w5 #[] 0 (Nat.le_refl _) (by unfold maxLen; omega) rfl), (Ext.refl _).alloc _⟩
            case round =>
              obtain ⟨m, cv, hkm, hmM, rfl, rfl, hown, hy⟩ := hrel
              have eiy2 := hy.cell eiy
              by_cases hlt2 : m < M
              · have hml : m < l.length := by rw [← HM.out]; omega
                obtain ⟨g2, o2, ha, e0⟩ := HI.out m hml
                cases ha
                have em := hy.cell (hx2.cell e0)
                have hxm : l[m] = l.getD m 0 := by rw [List.getD_eq_getElem?_getD, List.getElem?_eq_getElem hml]; rfl
                rw [hxm] at em
                have hst := clsR_succ l k m hkm
                have hlen := clsR_len l k m
                obtain ⟨R, hR⟩ : ∃ R, R = clsR l k m := ⟨_, rfl⟩
                rw [← hR] at hst hown hlen
                obtain ⟨q, hq⟩ : ∃ q, q = l.getD m 0 := ⟨_, rfl⟩
                rw [← hq] at em hst
                rw [← HP.out] at hst
                clear hxm hq e0 hR
                have b0 : (0 : Int) ≤ (m : Int) := by omega
                have b1 : (m : Int) < (M : Int) := by omega
                have b2 : (0 : Int) ≤ (k : Int) := by omega
                have b3 : (k : Int) < (M : Int) := by omega
                by_cases hpq : q = p
                · obtain ⟨f1, f2⟩ := eq_facts hpq
                  rw [if_pos hpq] at hst
                  have HST := Lib.hid hst
                  clear hst hpq
                  go_wp2_with fail
                  go_quiet (fail)
                  have x9 : Ext wr (wr.drewN nq) := (Ext.refl _).drewN _
                  obtain ⟨wt, hwt⟩ : ∃ wt, wt = wr.drewN nq := ⟨_, rfl⟩
                  rw [← hwt] at x9 ⊢
                  clear hwt
                  have hown9 := Lib.hid (own_ext' hown.out x9)
                  have hy9 := hy.trans x9
                  clear hown hy x9
                  go_wp2_with (at_builtin; refine wpList_append_lies _ rfl _ _ 31 rfl w5.heap.size 3 i0 _ 1 8 Try.underlying31 hi hz0 hz1 hz2 rfl (by decide) _ _ _ rfl (hown9.out.alloc _) ⟨wt.heap.size, 0, none⟩ 1 1 [.int .i64 m] rfl rfl ?c1 ?c2 (by decide) ?c3 ?c4 ?c5 _ rfl ?_)
                  case c1 => exact new_cells' _ [_] _ _ rfl
                  case c2 => simp [Value.oneCell']
                  case c3 => unfold maxLen; omega
                  case c4 => omega
                  case c5 => have := hy9.size; simp; omega
                  intro gg cc w3 hown3 hgrow3 _ _
                  have hx3 : Ext w5 w3 := Below.grown (hy9.alloc _) hgrow3 (by have := hy9.size; simp; omega) (fun q hq => by have := (hown9.out.lt q hq).1; omega)
                  have hown4 : Hid (w3.ownsRow w5.heap.size 3 1 (.slice (some ⟨gg, 0, none⟩) (R.length + 1) cc) (R ++ [m]).length (iv (zl (R ++ [m])))) := Lib.hid (by rw [zl_app, iv_app, List.length_append]; exact hown3)
                  clear hown3 hgrow3
                  go_wp2
                  go_roundw
                  case rel => exact ⟨m + 1, _, by omega, by omega, rfl, by go_num, by rw [HST.out]; exact hown4, hx3⟩
                  case measure => simp [RowKit.intOf]; omega
                · obtain ⟨f1, f2⟩ := neq_facts hpq
                  rw [if_neg hpq, List.append_nil] at hst
                  have HST := Lib.hid hst
                  clear hst hpq
                  go_wp2_with fail
                  go_quiet (fail)
                  go_wp2
                  go_roundw
                  case rel => exact ⟨m + 1, _, by omega, by omega, rfl, by go_num, by rw [HST.out]; exact Lib.hid (own_ext' hown.out (by first | exact (Ext.refl _).drew | exact (Ext.refl _).drewN _)), by first | exact hy.drewN _ | exact hy.drew⟩
                  case measure => simp [RowKit.intOf]; omega
              · have hmM' : m = l.length := by have := HM.out; omega
                rw [hmM'] at hown
                have hcl := clsR_len l k l.length
                obtain ⟨C, hC⟩ : ∃ C, C = clsR l k l.length := ⟨_, rfl⟩
                have hss := HSS.out
                rw [← hC] at hown hcl hss
                have HSS2 := Lib.hid hss
                rw [← HM.out] at hcl
                clear hC hmM' hss
                obtain ⟨pa, pc, rfl, hpi, hpg⟩ := own_ints hown.out (by rw [zl_len])
                rw [zl_len] at *
                have hpa := fun q (e : pa = some q) => hown.out.lt q.block (by rw [e]; rfl)
                obtain ⟨fs, ⟨g1, g2⟩⟩ := hf2.out.ext hy
                have G1 := Lib.hid g1; have G2 := Lib.hid g2; have HPI := Lib.hid hpi; have HPA := Lib.hid hpa
                obtain ⟨cn, hcn⟩ : ∃ cn, cn = C.length := ⟨_, rfl⟩
                have HCN := Lib.hid hcn
                rw [← hcn] at hown hcl ⊢
                have hxy := hx2.trans hy
                clear g1 g2 hpi hpa hpg hcn eiy2
                go_wp2_with (at_builtin; refine wpList_append_lies _ rfl _ _ 28 rfl w.heap.size 31 j0 _ 1 24 Try.underlying28 hj hjz0 hjz1 hjz2 rfl (by decide) _ _ _ rfl (G1.out.alloc _) ⟨wr.heap.size, 0, none⟩ 1 1 [.slice pa cn pc] rfl rfl ?k1 ?k2 (by decide) ?k3 ?k4 ?k5 _ rfl ?_)
                case k1 => exact new_cells' _ [_] _ _ rfl
                case k2 => simp [Value.oneCell']
                case k3 => unfold maxLen; omega
                case k4 => omega
                case k5 => have := hxy.size; simp; omega
                intro gg cc w7 hown7 hgrow7 hat7 _
                have P := RowsAt.push (w := wr.alloc (.cells #[.slice pa cn pc] 31)) (w2 := w7) (B := w.heap.size) (k := C) (pa := pa) (pc := pc) (g := gg) (n := F.length + 1) (c := cc) (HPI.out.ext ((Ext.refl _).alloc _)) (fun q1 e => by
                    obtain ⟨r1, r2⟩ := HPA.out q1 e
                    refine ⟨Nat.le_trans hx2.size r1, by simp; omega, fun e2 => ?_⟩
                    obtain ⟨fs0, ⟨u1, -⟩⟩ := hf2.out
                    have := (u1.lt q1.block e2).2
                    omega) (own_ext' G1.out ((Ext.refl wr).alloc _)) (fun i hi => by
                    obtain ⟨a, c, h3, h4, h5⟩ := G2.out i hi
                    exact ⟨a, c, h3, h4.ext ((Ext.refl wr).alloc _), fun q e => by
                      obtain ⟨h6, h7, h8⟩ := h5 q e
                      exact ⟨h6, by simp; omega, h8⟩⟩) (by rw [← HCN.out]; exact hown7) rfl hgrow7 (hat7.elim .inl (fun e => .inr (by rw [e]; simp)))
                rw [← HSS2.out] at P
                have hP := Lib.hid P
                have hx7 : Hid (Ext w w7) := Lib.hid (Below.grown (hxy.alloc _) hgrow7 (by have := hxy.size; simp; omega) (fun q hq => by have := (G1.out.lt q hq).1; omega))
                clear P hown7 hgrow7 hat7
                go_wp2
                go_roundw
                case rel => exact ⟨k + 1, _, by omega, rfl, by go_num, hP, hx7.out⟩
                case measure => simp [RowKit.intOf]; omega
          · have hb : clsF l k k = false := by simpa using hb
            rw [hb]
            have hss := HSS.out
            rw [if_neg (by rw [hb]; decide), List.append_nil] at hss
            have HSS := Lib.hid hss
            have hf2 := Lib.hid (hf.out.ext hy)
            have hx2 := hx.trans hy
            clear hss hb hf hy ei hx
            go_wp2
            go_roundw
            case rel => exact ⟨k + 1, _, by omega, rfl, by go_num, by rw [HSS.out]; exact hf2, hx2⟩
            case measure => simp [RowKit.intOf]; omega
    · have hkM : i = l.length := by have := HM.out; omega
      rw [hkM] at hf
      clear hkM
      go_wp2
      go_ret
      exact ⟨⟨_, rfl, hf.out⟩, hx⟩
end Go.Proofs.Ytaipcpdncmnelaa.Pt

/- The document's Components and Connected. -/
namespace Go.Proofs.Ytaipcpdncmnelaa.Pt
open Go.RowKit Go.Sort Go.Lib Fx Tp

theorem valid_ok {N : Nat} {A : Arcs} (hN : N ≤ 64) (hA : A.length ≤ 256) (ok : Ok N A) : validL N (zarc A) = true := by
  unfold validL
  rw [decide_eq_true (by rw [zarc_len]; omega), Bool.true_and, List.all_eq_true]
  intro p hp
  obtain ⟨q, hq, rfl⟩ := List.mem_map.1 hp
  have := ok q hq
  unfold goodP; exact decide_eq_true (by simp only; omega)
theorem zarc_ok {N : Nat} {A : Arcs} (hN : N ≤ 64) (ok : Ok N A) : ArcOk (zarc A) := fun p hp => by
  obtain ⟨q, hq, rfl⟩ := List.mem_map.1 hp
  have := ok q hq
  simp only; omega
/-- The document's components. -/
def compR (N : Nat) (A : Arcs) : List (List Nat) := classesT (labT N A (-1) (-1))
theorem box_load {w w1 : World} {x y : Value} {T : TypeId} (h : Ext (w.alloc (.cells #[x, y] T)) w1) : w1.cell? ⟨w.heap.size, 0, none⟩ = some x ∧ w1.cell? ⟨w.heap.size, 1, none⟩ = some y := box_two h
set_option maxHeartbeats 4000000 in
set_option maxRecDepth 100000 in
theorem compR_any (N : Nat) (a : Option Addr) (A : Arcs) (cap : Nat) (w : World) (hN : N ≤ 64) (h : ArcIn w a (zarc A)) (hA : A.length ≤ 256) (ok : Ok N A) :
    Calls Try.prog 12 #[.agg #[.int .i64 N, .slice a A.length cap]] w fun e w' => (∃ fv, e = .returned fv ∧ RowsAt w' w.heap.size fv (compR N A)) ∧ Ext w w' := by
  have hval := fun w1 (x : Ext w w1) => validR_any N a (zarc A) cap w1 (by omega) (by omega) (h.ext x) (zarc_ok hN ok) (by rw [zarc_len]; omega)
  rw [valid_ok hN hA ok, zarc_len] at hval
  have hlab := fun w1 (x : Ext w w1) => labels_any N a A cap (-1) (-1) w1 hN (h.ext x) hA ok (by omega) (by omega)
  have hcls := fun b c w1 (h : IntIn w1 b (labT N A (-1) (-1))) => classes_any b (labT N A (-1) (-1)) c w1 h (by rw [labT_len]; omega)
  rw [labT_len] at hcls
  obtain ⟨M, hM⟩ : ∃ M, M = A.length := ⟨_, rfl⟩
  rw [← hM] at hA hval hlab ⊢
  have HV := Lib.hid hval; have HL := Lib.hid hlab; have HC := Lib.hid hcls
  clear h hM hval hlab hcls ok
  go_enter Try.func12, Try.ntmps12
  go_wp2_with (first
    | (go_at_call 32; refine (HC.out _ _ _ hin2).mono ?_; rintro e w3 ⟨⟨fv, rfl, hr⟩, x3⟩; have HR := Lib.hid hr; clear hr)
    | (go_at_call 33; refine (HL.out _ (((Ext.refl _).alloc _).trans x1)).mono ?_; rintro e w2 ⟨⟨a2, c2, rfl, hin2, -⟩, x2⟩)
    | (go_at_call 24; refine (HV.out _ ((Ext.refl _).alloc _)).mono ?_; rintro e w1 ⟨rfl, x1⟩; have b1 := box_load x1; have b10 := b1.1; have b11 := b1.2))
  go_ret
  have y1 : Ext w w1 := ((Ext.refl _).alloc _).trans x1
  have y2 := y1.trans x2
  refine ⟨⟨_, rfl, ?_⟩, y2.trans x3⟩
  exact RowsAt.low HR.out y2.size
set_option maxHeartbeats 4000000 in
set_option maxRecDepth 100000 in
theorem compR_bad (n : Int) (a : Option Addr) (L : ArcZ) (cap : Nat) (w : World) (hn0 : -9223372036854775808 ≤ n) (hn1 : n ≤ 9223372036854775807) (h : ArcIn w a L) (hk : ArcOk L) (hL : L.length ≤ 9223372036854775807) (hv : validL n L = false) :
    Calls Try.prog 12 #[.agg #[.int .i64 n, .slice a L.length cap]] w fun e w' => e = .returned (.slice none 0 0) ∧ Ext w w' := by
  have hval := fun w1 (x : Ext w w1) => validR_any n a L cap w1 hn0 hn1 (h.ext x) hk hL
  rw [hv] at hval
  obtain ⟨M, hM⟩ : ∃ M, M = L.length := ⟨_, rfl⟩
  rw [← hM] at hL hval ⊢
  have HV := Lib.hid hval
  clear h hM hval hk hv
  go_enter Try.func12, Try.ntmps12
  go_wp2_with (go_at_call 24; refine (HV.out _ ((Ext.refl _).alloc _)).mono ?_; rintro e w1 ⟨rfl, x1⟩; have b1 := box_load x1; have b10 := b1.1; have b11 := b1.2)
  go_ret
  exact ⟨rfl, ((Ext.refl _).alloc _).trans x1⟩
set_option maxHeartbeats 4000000 in
set_option maxRecDepth 100000 in
theorem connR_any (N : Nat) (a : Option Addr) (A : Arcs) (cap : Nat) (w : World) (hN : N ≤ 64) (h : ArcIn w a (zarc A)) (hA : A.length ≤ 256) (ok : Ok N A) :
    Calls Try.prog 14 #[.agg #[.int .i64 N, .slice a A.length cap]] w fun e w' => e = .returned (.bool (((compR N A).length : Int) == 1)) ∧ Ext w w' := by
  have hc := fun w1 (x : Ext w w1) => compR_any N a A cap w1 hN (h.ext x) hA ok
  obtain ⟨M, hM⟩ : ∃ M, M = A.length := ⟨_, rfl⟩
  rw [← hM] at hA hc ⊢
  have HC := Lib.hid hc
  clear h hM hc ok
  go_enter Try.func14, Try.ntmps14
  go_wp2_with (go_at_call 12; refine (HC.out _ ((Ext.refl _).alloc _)).mono ?_; rintro e w1 ⟨⟨fv, rfl, hr⟩, x1⟩; obtain ⟨fa, fc, rfl, hr2⟩ := hr.rows; clear hr hr2)
  go_ret
  exact ⟨rfl, ((Ext.refl _).alloc _).trans x1⟩
set_option maxHeartbeats 4000000 in
set_option maxRecDepth 100000 in
theorem connR_bad (n : Int) (a : Option Addr) (L : ArcZ) (cap : Nat) (w : World) (hn0 : -9223372036854775808 ≤ n) (hn1 : n ≤ 9223372036854775807) (h : ArcIn w a L) (hk : ArcOk L) (hL : L.length ≤ 9223372036854775807) (hv : validL n L = false) :
    Calls Try.prog 14 #[.agg #[.int .i64 n, .slice a L.length cap]] w fun e w' => e = .returned (.bool false) ∧ Ext w w' := by
  have hc := fun w1 (x : Ext w w1) => compR_bad n a L cap w1 hn0 hn1 (h.ext x) hk hL hv
  obtain ⟨M, hM⟩ : ∃ M, M = L.length := ⟨_, rfl⟩
  rw [← hM] at hL hc ⊢
  have HC := Lib.hid hc
  clear h hM hc hk hv
  go_enter Try.func14, Try.ntmps14
  go_wp2_with (go_at_call 12; refine (HC.out _ ((Ext.refl _).alloc _)).mono ?_; rintro e w1 ⟨rfl, x1⟩)
  go_ret
  exact ⟨rfl, ((Ext.refl _).alloc _).trans x1⟩
end Go.Proofs.Ytaipcpdncmnelaa.Pt
