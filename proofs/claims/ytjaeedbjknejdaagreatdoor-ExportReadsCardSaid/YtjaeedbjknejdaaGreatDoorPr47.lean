/- Packed texts: ParChain -/
import Derived.Test.YtjaeedbjknejdaaGreatDoorPr46
import Derived.Deep.LoopGhost
set_option linter.unusedVariables false
set_option linter.unusedSimpArgs false
set_option maxHeartbeats 16000000
set_option maxRecDepth 100000
namespace Go.Proofs.YtjaeedbjknejdaaGreatDoor.Pa
open Go.RowKit Go.Sort Go.Lib Go.Shelf Fx Lx Tr
def ChainAt (pb : Nat) (a : Option Addr) (cap : Nat) (T : List Tok) (ar : ByteArray) (dep : Int) (w : World) (r : List Tok) (wx : World) : Prop :=
  PSt pb a cap T ar dep r wx /\ But pb w wx /\ wx.heap[w.heap.size]? = some zero5
theorem ChainAt.ext {pb : Nat} {a : Option Addr} {cap : Nat} {T : List Tok} {ar : ByteArray} {dep : Int} {w : World} {r : List Tok} {w1 w2 : World} (h : ChainAt pb a cap T ar dep w r w1) (x : Ext w1 w2) : ChainAt pb a cap T ar dep w r w2 :=
  ⟨h.1.ext x, h.2.1.ext x, (x.block _ (Array.getElem?_eq_some_iff.1 h.2.2).1).trans h.2.2⟩
theorem ChainAt.but {pb : Nat} {a : Option Addr} {cap : Nat} {T : List Tok} {ar : ByteArray} {dep : Int} {w : World} {r r' : List Tok} {w1 w2 : World} (h : ChainAt pb a cap T ar dep w r w1) (hp : pb < w.heap.size) (hs : PSt pb a cap T ar dep r' w2) (x : But pb w1 w2) : ChainAt pb a cap T ar dep w r' w2 :=
  ⟨hs, h.2.1.trans x, but_heap x h.2.2 (by omega)⟩
def edge5 (v : Value) : Obj := .cells #[.int .i64 2, .string ⟨#[]⟩, v, .slice none 0 0, .slice none 0 0] 67
def RefSt (pb : Nat) (a : Option Addr) (cap : Nat) (T : List Tok) (ar : ByteArray) (dep : Int) (w : World) (bs : Nat) (out : List Two) (r : List Tok) (gb c : Nat) (wr : World) : Prop :=
  ChainAt pb a cap T ar dep w r wr /\ w.heap.size + 1 <= gb /\ gb ≠ bs /\ w.heap.size + 1 <= bs /\ wr.heap[bs]? = some (edge5 (.slice (some ⟨gb, 0, none⟩) out.length c)) /\
    wr.ownsRow (w.heap.size + 1) 90 2 (.slice (some ⟨gb, 0, none⟩) out.length c) out.length (twosC out)
section
variable {pb : Nat} {a : Option Addr} {cap : Nat} {T : List Tok} {ar : ByteArray} {dep : Int} {w : World} {bs : Nat} {out : List Two} {r : List Tok} {gb c : Nat} {wr : World}
theorem refSt_ext {w2 : World} (h : RefSt pb a cap T ar dep w bs out r gb c wr) (x : Ext wr w2) : RefSt pb a cap T ar dep w bs out r gb c w2 := by
  obtain ⟨h1, h2, h3, h4, h5, h6⟩ := h
  exact ⟨h1.ext x, h2, h3, h4, (x.block _ (Array.getElem?_eq_some_iff.1 h5).1).trans h5, own_ext' h6 x⟩
theorem refSt_but {w2 : World} {r' : List Tok} (h : RefSt pb a cap T ar dep w bs out r gb c wr) (hp : pb < w.heap.size) (hs : PSt pb a cap T ar dep r' w2) (x : But pb wr w2) : RefSt pb a cap T ar dep w bs out r' gb c w2 := by
  obtain ⟨h1, h2, h3, h4, h5, h6⟩ := h
  exact ⟨h1.but hp hs x, h2, h3, h4, but_heap x h5 (by omega), own_but h6 x (by omega)⟩
theorem refSt_cells (h : RefSt pb a cap T ar dep w bs out r gb c wr) : wr.cell? ⟨bs, 2, none⟩ = some (.slice (some ⟨gb, 0, none⟩) out.length c) /\ wr.frozen? ⟨bs, 2, none⟩ = false := by
  obtain ⟨h1, h2, h3, h4, h5, h6⟩ := h
  unfold edge5 at h5
  obtain ⟨z0, z1, z2, z3, z4, g0, g1, g2, g3, g4⟩ := five_cells h5
  exact ⟨z2, g2⟩
theorem refSt_own {N : Nat} (h : RefSt pb a cap T ar dep w bs out r gb c wr) (hN : N = out.length) : wr.ownsRow (w.heap.size + 1) 90 2 (.slice (some ⟨gb, 0, none⟩) N c) N (twosC out) := by
  subst hN; exact h.2.2.2.2.2
theorem refSt_cell2 {N : Nat} (h : RefSt pb a cap T ar dep w bs out r gb c wr) (hN : N = out.length) : wr.cell? ⟨bs, 2, none⟩ = some (.slice (some ⟨gb, 0, none⟩) N c) := by
  subst hN; exact (refSt_cells h).1
theorem refSt_base (h : RefSt pb a cap T ar dep w bs out r gb c wr) {o : Obj} : w.heap.size + 1 <= (wr.alloc o).heap.size := by
  have := h.1.2.1.size
  rw [World.size_alloc]; omega
theorem refSt_grow {N : Nat} {o : Obj} {w12 : World} (h : RefSt pb a cap T ar dep w bs out r gb c wr) (hN : N = out.length) (hg : (wr.alloc o).grownBy w12 (Value.ownBlock (.slice (some ⟨gb, 0, none⟩) N c))) :
    w12.heap[bs]? = some (.cells #[.int .i64 2, .string ⟨#[]⟩, .slice (some ⟨gb, 0, none⟩) N c, .slice none 0 0, .slice none 0 0] 67 (0, 0)) := by
  subst hN
  obtain ⟨h1, h2, h3, h4, h5, h6⟩ := h
  have hl := (Array.getElem?_eq_some_iff.1 h5).1
  have xa := (Ext.refl wr).alloc o
  exact (hg.block bs (by rw [World.size_alloc]; omega) (fun e => h3 (by have e : some bs = some gb := e; injection e with e; exact e.symm))).trans ((xa.block _ hl).trans h5)
theorem own_set {B : Nat} {e : TypeId} {sz n g c : Nat} {xs : List Value} {p : Addr} {u : Value} {w : World} (h : w.ownsRow B e sz (.slice (some ⟨g, 0, none⟩) n c) n xs) (hne : g ≠ p.block) : (w.setCell p u).ownsRow B e sz (.slice (some ⟨g, 0, none⟩) n c) n xs := by
  refine ⟨h.1, ?_⟩
  rcases h.2 with h1 | ⟨g', cap, cur, hv, hb, hg, r⟩
  · exact .inl h1
  have hgg : g = g' := by injection hv with e1 e2 e3; injection e1 with e1; injection e1
  subst hgg
  exact .inr ⟨g, cap, cur, hv, hb, (Below.heap_setCell _ _ _ _ hne).trans hg, r⟩
theorem refSt_next {N : Nat} {m2 p2 : ByteArray} {w12 : World} {g4 c4 : Nat} (h : RefSt pb a cap T ar dep w bs out r gb c wr) (hp : pb < w.heap.size) (hN : N = out.length)
    (hown : w12.ownsRow (w.heap.size + 1) 90 2 (.slice (some ⟨g4, 0, none⟩) (N + 1) c4) (N + 1) (twosC out ++ [.string m2, .string p2]))
    (hgrow : (wr.alloc (.cells #[.string m2, .string p2] 90)).grownBy w12 (Value.ownBlock (.slice (some ⟨gb, 0, none⟩) N c)))
    (hat : Value.ownBlock (.slice (some ⟨gb, 0, none⟩) N c) = some g4 \/ g4 = wr.heap.size + 1) :
    ∃ gb c, RefSt pb a cap T ar dep w bs (out ++ [(m2, p2)]) r gb c (w12.setCell ⟨bs, 2, none⟩ (.slice (some ⟨g4, 0, none⟩) (N + 1) c4)) := by
  have hk := refSt_grow h hN hgrow
  subst hN
  obtain ⟨⟨h1, h12, h13⟩, h2, h3, h4, h5, h6⟩ := h
  have hl := (Array.getElem?_eq_some_iff.1 h5).1
  have hpl := h1.lt
  have hlw := (Array.getElem?_eq_some_iff.1 h13).1
  have xa := (Ext.refl wr).alloc (.cells #[.string m2, .string p2] 90)
  have hrow : ∀ k, Value.ownBlock (.slice (some ⟨gb, 0, none⟩) out.length c) = some k -> w.heap.size + 1 <= k := fun k e => by have e : some gb = some k := e; injection e with e; omega
  have hne : g4 ≠ bs := by
    rcases hat with e | e
    · have e : some gb = some g4 := e
      injection e with e; omega
    omega
  have hg4 : w.heap.size + 1 <= g4 := by
    rcases hat with e | e
    · have e : some gb = some g4 := e
      injection e with e; omega
    omega
  have hB : Below (w.heap.size + 1) wr w12 := (Below.mono xa (by omega)).trans (Below.grown (Below.refl (w.heap.size + 1) _) hgrow (by simp; omega) hrow)
  have hB' : Below (w.heap.size + 1) wr (w12.setCell ⟨bs, 2, none⟩ (.slice (some ⟨g4, 0, none⟩) (out.length + 1) c4)) := hB.setCell (by show w.heap.size + 1 <= bs; omega) _
  have hlen : (out ++ [(m2, p2)]).length = out.length + 1 := by simp
  refine ⟨g4, c4, ⟨h1.below hB' (by omega), ⟨hB'.os.trans h12.os, hB'.tape.trans h12.tape, hB'.output.trans h12.output, Nat.le_trans h12.size hB'.size, fun k hk hc => (hB'.block k (by omega)).trans (h12.block k hk hc)⟩, (hB'.block _ (by omega)).trans h13⟩, hg4, hne, h4, ?_, ?_⟩
  · rw [hlen]; exact setOne hk 2 _
  rw [hlen, twosC_snoc]; exact own_set hown hne
def EdgeAt (pb : Nat) (a : Option Addr) (cap : Nat) (T : List Tok) (ar : ByteArray) (dep : Int) (w : World) (bs : Nat) (out : List Two) (r : List Tok) (wr : World) : Prop := ∃ gb c, RefSt pb a cap T ar dep w bs out r gb c wr
def edgeEnd (last : Int) (rs : List Two) (r : List Tok) : PR Stm := (pOpt last r).bind fun a r => .ok (.mk 2 ⟨#[]⟩ rs a []) r
def EdgeLoop (pb : Nat) (a : Option Addr) (cap : Nat) (T : List Tok) (ar : ByteArray) (dep : Int) (w : World) (bs : Nat) (X : PR Stm) (f : Nat) (wx : World) : Prop :=
  ∃ out r, EdgeAt pb a cap T ar dep w bs out r wx /\ 1 <= out.length /\ out.length + r.length <= 16386 /\ r.length + 1 <= f /\ X = (pRefs (lastL T) ar.data.toList f out r).bind (edgeEnd (lastL T))
theorem edge_start {q : Two} {w7 : World} (h : ChainAt pb a cap T ar dep w r w7) (hp : pb < w.heap.size) :
    EdgeAt pb a cap T ar dep w (w7.heap.size + 1) [q] r ((w7.alloc (.cells #[.string q.1, .string q.2] 90)).alloc (edge5 (.slice (some ⟨w7.heap.size, 0, none⟩) 1 1))) := by
  have hl := (Array.getElem?_eq_some_iff.1 h.2.2).1
  have x1 := (Ext.refl w7).alloc (.cells #[.string q.1, .string q.2] 90)
  have x2 := (Ext.refl (w7.alloc (.cells #[.string q.1, .string q.2] 90))).alloc (edge5 (.slice (some ⟨w7.heap.size, 0, none⟩) 1 1))
  have k := (x2.block w7.heap.size (by simp)).trans (heap_alloc_new w7 (.cells #[.string q.1, .string q.2] 90))
  have k2 := heap_alloc_new (w7.alloc (.cells #[.string q.1, .string q.2] 90)) (edge5 (.slice (some ⟨w7.heap.size, 0, none⟩) 1 1))
  rw [World.size_alloc] at k2
  exact ⟨w7.heap.size, 1, (h.ext x1).ext x2, by omega, by omega, by omega, k2, rfl, .inr ⟨w7.heap.size, 1, #[.string q.1, .string q.2], rfl, by omega, k, Nat.le_refl _, by decide, rfl, rfl⟩⟩
theorem own_twoB {B : Nat} {e : TypeId} {g c : Nat} {L : List Two} {w : World} (h : w.ownsRow B e 2 (.slice (some ⟨g, 0, none⟩) L.length c) L.length (twosC L)) : TwoP (· = g) w (some ⟨g, 0, none⟩) L /\ L.length <= c /\ c <= maxLen := by
  rcases h.2 with ⟨h1, _⟩ | ⟨g', cap, cur, hv, hb, hg, hn, hc, _⟩
  · injection h1 with h1; cases h1
  injection hv with e1 e2 e3
  subst e3
  refine ⟨fun k hk => ⟨g, 0, rfl, rfl, ?_, ?_⟩, hn, hc⟩
  · have := h.cells (g := g) rfl _ _ (twosC_at L k hk).1
    rw [add_at] at this; rw [Nat.zero_add]; exact this
  have := h.cells (g := g) rfl _ _ (twosC_at L k hk).2
  rw [add_at] at this; rw [Nat.zero_add]; exact this
theorem edge_fin {w10 W : World} {L : List Two} {la : Option Addr} {lc B8 : Nat} (hR : RefSt pb a cap T ar dep w bs out r gb c w10) (hL : TwoP (B8 <= ·) w10 la L) (h8 : bs < B8) (h1 : L.length <= lc) (h2 : lc <= maxLen)
    (hW : ∀ g, g ≠ bs -> g ≠ w.heap.size -> W.heap[g]? = w10.heap[g]?) : StmP (w.heap.size <= ·) W (.mk 2 ⟨#[]⟩ out L []) [.int .i64 2, .string ⟨#[]⟩, .slice (some ⟨gb, 0, none⟩) out.length c, .slice la L.length lc, .slice none 0 0] := by
  obtain ⟨_, hg1, hg2, hb1, _, hown⟩ := hR
  obtain ⟨ht, hc1, hc2⟩ := own_twoB hown
  rw [StmP]
  refine ⟨some ⟨gb, 0, none⟩, c, la, lc, none, 0, rfl, ht.keep (fun g hg _ => hW g (by have hg : g = gb := hg; omega) (by have hg : g = gb := hg; omega)) (fun g hg _ => by have hg : g = gb := hg; show w.heap.size <= g; omega),
    hL.keep (fun g hg _ => hW g (by have hg : B8 <= g := hg; omega) (by have hg : B8 <= g := hg; omega)) (fun g hg _ => by have hg : B8 <= g := hg; show w.heap.size <= g; omega), by rw [StmsP]; trivial, hc1, h1, hc2, h2, by simp⟩
end
theorem stm_chain (pb : Nat) (a : Option Addr) (cap : Nat) (T : List Tok) (ar : ByteArray) (dep : Int) (r : List Tok) (w : World) (h : PSt pb a cap T ar dep r w) (h1 : isT 2 kNode r = false) (h2 : isT 2 kEdge r = false) (h3 : isT 2 kSet r = false) (h4 : isT 2 kClus r = false) :
    Calls Tryz.prog 161 #[.pointer (some ⟨pb, 0, none⟩)] w fun e w' =>
      POut pb a cap T ar dep (fun s u w' => StmV (w.heap.size <= ·) s u w') (pChain (lastL T) ar.data.toList r) e w' /\ But pb w w' := by
  obtain ⟨i0, hi, hz0, hz1, hz2⟩ := info_parts info_ref
  obtain ⟨X, hX⟩ : ∃ X, X = pChain (lastL T) ar.data.toList r := ⟨_, rfl⟩
  rw [<- hX]
  have hx0 := (Ext.refl w).alloc zero5
  have hw0 := heap_alloc_new w zero5
  have hpk := peek_st pb a cap T ar dep r _ (h.ext hx0)
  have hts := fun w1 (x : PSt pb a cap T ar dep r w1) => take_l pb a cap T ar dep r 2 (by decide) ⟨#[115, 101, 116]⟩ kSet rfl w1 x
  rw [h3, if_neg (by decide)] at hts
  have htc := fun w1 (x : PSt pb a cap T ar dep r w1) => take_l pb a cap T ar dep r 2 (by decide) ⟨#[99, 108, 117, 115, 116, 101, 114]⟩ kClus rfl w1 x
  rw [h4, if_neg (by decide)] at htc
  rw [isT_peek 2 kNode r (by decide)] at h1
  rw [isT_peek 2 kEdge r (by decide)] at h2
  clear h3 h4
  generalize hpt : peekT r = t at *
  obtain ⟨tk, tx, tn, tl⟩ := t
  unfold tokV at hpk
  dsimp only at hpk h1 h2
  have HS := Lib.hid h; have HLT := Lib.hid h.lt; have HPK := Lib.hid hpk; have HX := Lib.hid hX; have HX0 := Lib.hid hx0; have HW0 := Lib.hid hw0; have HTS := Lib.hid hts; have HTC := Lib.hid htc; have H1 := Lib.hid h1; have H2 := Lib.hid h2
  clear hpt h hpk hX hx0 hw0 hts htc h1 h2
  unfold zero5 at HPK
  go_enter Tryz.func161, Tryz.ntmps161
  go_upto_region 2 with (go_at_call 159; refine HPK.out.mono ?_; rintro e w1 ⟨rfl, x1⟩; have hcl := tok_cells w1 tk ⟨tx.toArray⟩ tn tl; have x1' := Lib.hid x1)
  go_cut [10] (fun s10 wx => s10 = .bool false /\ wx = (w1.alloc (.cells #[.int .i64 tk, .string ⟨tx.toArray⟩, .int .i64 tn, .int .i64 tl] 220)))
  case first =>
    by_cases hk : tk = 2
    · subst hk
      have h1 := H1.out
      have h2 := H2.out
      rw [decide_eq_true rfl, Bool.true_and] at h1 h2
      have e1 : (tx == [110, 111, 100, 101]) = false := by rw [beq_eq_false_iff_ne]; exact of_decide_eq_false h1
      have e2 : (tx == [101, 100, 103, 101]) = false := by rw [beq_eq_false_iff_ne]; exact of_decide_eq_false h2
      clear h1 h2
      go_wp2_with fail
      go_meet
      exact ⟨rfl, rfl⟩
    have hk' : (tk == 2) = false := by simpa using hk
    go_wp2_with fail
    go_meet
    exact ⟨rfl, rfl⟩
  case rest =>
  obtain ⟨rfl, rfl⟩ := hcut
  have X01 := Lib.hid ((HX0.out.trans x1'.out).alloc (.cells #[.int .i64 tk, .string ⟨tx.toArray⟩, .int .i64 tn, .int .i64 tl] 220))
  have HH1 := Lib.hid ((x1'.out.alloc (.cells #[.int .i64 tk, .string ⟨tx.toArray⟩, .int .i64 tn, .int .i64 tl] 220)).block _ (by simp) |>.trans HW0.out)
  obtain ⟨W1, hW1⟩ : ∃ W1, W1 = w1.alloc (.cells #[.int .i64 tk, .string ⟨tx.toArray⟩, .int .i64 tn, .int .i64 tl] 220) := ⟨_, rfl⟩
  rw [<- hW1] at X01 HH1 ⊢
  clear hW1 hcl x1 x1' H1 H2 HPK HX0 HW0
  go_wp2_with (first
    | (go_at_call 100; refine (HTC.out _ hs2.out).mono ?_; rintro e w3 ⟨rfl, hs3, x3⟩; replace hs3 := Lib.hid hs3; replace x3 := Lib.hid x3)
    | (go_at_call 100; refine (HTS.out _ (HS.out.ext X01.out)).mono ?_; rintro e w2 ⟨rfl, hs2, x2⟩; replace hs2 := Lib.hid hs2; replace x2 := Lib.hid x2))
  have x23 := x2.out.trans x3.out
  have hlp := HLT.out
  have hc3 : ChainAt pb a cap T ar dep w r w3 := ⟨hs3.out, (But.of X01.out).trans x23, but_heap x23 HH1.out (by omega)⟩
  clear x23 x2 x3 HTS HTC X01 HH1 HS hs2 hs3
  have hX1 := HX.out
  unfold pChain at hX1
  have hn1 := name_any pb a cap T ar dep r w3 hc3.1
  rcases hq : pName (lastL T) r with ⟨nm, r4⟩ | ⟨ln, er⟩ <;> rw [hq] at hn1 hX1 <;> clear hq HX
  · rw [PR.bind_ok] at hX1
    refine hn1.mono ?_
    rintro e w4 ⟨⟨_, rfl, rfl, hs4⟩, x4⟩
    have HC4 := Lib.hid (hc3.but hlp hs4 x4)
    have HX := Lib.hid hX1
    clear hn1 hX1 hs4 x4 hc3 hlp
    go_upto_region 16 with fail
    cases hb : (isT 5 [58] r4 || isT 5 ar.data.toList r4)
    · have h5 := (Bool.or_eq_false_iff.1 hb)
      have hX1 := HX.out
      rw [if_pos hb] at hX1
      have hi1 := is_l pb a cap T ar dep r4 5 (by decide) ⟨#[58]⟩ [58] rfl w4 HC4.out.1
      rw [h5.1] at hi1
      have hi2 := fun w' (x : Ext w4 w') => is_l pb a cap T ar dep r4 5 (by decide) ar ar.data.toList rfl w' (HC4.out.1.ext x)
      rw [h5.2] at hi2
      obtain ⟨_, _, p2⟩ := HC4.out.1.dep_cell
      have HI1 := Lib.hid hi1; have HI2 := Lib.hid hi2; have HP2 := Lib.hid p2; have HX := Lib.hid hX1
      clear hb h5 hX1 hi1 hi2 p2
      go_wp2_with (first
        | (go_at_call 158; refine (HI2.out _ x5).mono ?_; rintro e w6 ⟨rfl, x6⟩; replace x6 := Lib.hid (x5.trans x6); clear p2 x5)
        | (go_at_call 158; refine HI1.out.mono ?_; rintro e w5 ⟨rfl, x5⟩; have p2 := x5.cell HP2.out))
      have hc6 := HC4.out.ext x6.out
      have hn1 := options_any pb a cap T ar dep r4 w6 hc6.1
      have hX1 := HX.out
      have hlp := HLT.out
      rcases hq : pOpt (lastL T) r4 with ⟨L, r7⟩ | ⟨ln, er⟩ <;> rw [hq] at hn1 hX1 <;> clear hq HX
      · rw [PR.bind_ok] at hX1
        refine hn1.mono ?_
        rintro e w7 ⟨⟨_, rfl, ⟨la, lc, rfl, htp, hlc1, hlc2⟩, hs7⟩, x7⟩
        have hc7 := hc6.but hlp hs7 x7
        have hl6 := (Array.getElem?_eq_some_iff.1 hc6.2.2).1
        have k0 := hc7.2.2
        unfold zero5 at k0
        have HX := Lib.hid hX1
        have HC7 := Lib.hid hc7
        have HTP := Lib.hid htp
        have HL1 := Lib.hid hlc1
        have HL2 := Lib.hid hlc2
        have HL6 := Lib.hid hl6
        have HZ := Lib.hid (set_five k0 (.int .i64 1) (.string nm) (.slice none 0 0) (.slice la L.length lc) (.slice none 0 0))
        obtain ⟨y0, y1, y2, y3, y4, f0, f1, f2, f3, f4⟩ := five_cells k0
        clear hn1 hX1 htp hlc1 hlc2 hs7 x7 hc7 hc6 hl6 k0 HC4 x6 hlp
        go_wp2
        refine bodyPost_ret (results_cell_row rfl _ _ w.heap.size 67 #[.int .i64 1, .string nm, .slice none 0 0, .slice la L.length lc, .slice none 0 0] (0, 0) _ rfl HZ.out Tryz.underlying67 rfl size_stm) rfl ?_
        obtain ⟨F1, F2, F3⟩ := fin_five HC7.out.1 HC7.out.2.1 w.heap.size HLT.out (Nat.le_refl _) (.int .i64 1) (.string nm) (.slice none 0 0) (.slice la L.length lc) (.slice none 0 0)
        rw [HX.out]
        refine ⟨⟨_, rfl, ⟨[.int .i64 1, .string nm, .slice none 0 0, .slice la L.length lc, .slice none 0 0], rfl, ?_⟩, F1⟩, F2⟩
        have hl6 := HL6.out
        have htp := TwoP.keep (ok' := (w.heap.size <= ·)) HTP.out (fun g hg _ => F3 g (by have hg : w6.heap.size <= g := hg; omega)) (fun g hg _ => by have hg : w6.heap.size <= g := hg; show w.heap.size <= g; omega)
        rw [StmP]
        exact ⟨none, 0, la, lc, none, 0, rfl, fun k hk => absurd hk (by simp), htp, by rw [StmsP]; trivial, by simp, HL1.out, by simp, HL2.out, by simp⟩
      rw [PR.bind_err] at hX1
      have HX := Lib.hid hX1
      have x46 := hc6.2.1
      clear hX1
      refine hn1.mono ?_
      rintro e w7 ⟨rfl, x7⟩
      clear hn1
      unfold failE
      go_wp2
      exact ⟨rfl, by rw [HX.out]; exact rfl, x46.trans x7⟩
    have hX1 := HX.out
    rw [if_neg (by rw [hb]; decide)] at hX1
    have HB := Lib.hid hb
    have HX := Lib.hid hX1
    clear hb hX1
    go_cut [76] (fun s76 wx => s76 = .bool false /\ ChainAt pb a cap T ar dep w r4 wx)
    case first =>
      have hb := HB.out
      obtain ⟨_, _, p2⟩ := HC4.out.1.dep_cell
      have hi1 := is_l pb a cap T ar dep r4 5 (by decide) ⟨#[58]⟩ [58] rfl w4 HC4.out.1
      have hi2 := fun w' (x : Ext w4 w') => is_l pb a cap T ar dep r4 5 (by decide) ar ar.data.toList rfl w' (HC4.out.1.ext x)
      have HP2 := Lib.hid p2
      clear p2
      cases h58 : isT 5 [58] r4
      · rw [h58, Bool.false_or] at hb
        rw [h58] at hi1
        rw [hb] at hi2
        have HI1 := Lib.hid hi1; have HI2 := Lib.hid hi2
        clear hb hi1 hi2 h58
        go_wp2_with (first
          | (go_at_call 158; refine (HI2.out _ x5).mono ?_; rintro e w6 ⟨rfl, x6⟩; replace x6 := Lib.hid (x5.trans x6); clear p2 x5)
          | (go_at_call 158; refine HI1.out.mono ?_; rintro e w5 ⟨rfl, x5⟩; have p2 := x5.cell HP2.out))
        go_meet
        exact ⟨rfl, HC4.out.ext x6.out⟩
      rw [h58] at hi1
      have HI1 := Lib.hid hi1
      clear hb hi1 hi2 h58
      go_wp2_with (go_at_call 158; refine HI1.out.mono ?_; rintro e w5 ⟨rfl, x5⟩)
      go_meet
      exact ⟨rfl, HC4.out.ext x5⟩
    case rest =>
    obtain ⟨rfl, hc6⟩ := hcut
    have hn1 := port_any pb a cap T ar dep r4 nm wc hc6.1
    have hX1 := HX.out
    have hlp := HLT.out
    clear HC4 HB
    rcases hq : pPort (lastL T) nm r4 with ⟨⟨qn, qp⟩, r7⟩ | ⟨ln, er⟩ <;> rw [hq] at hn1 hX1 <;> clear HX
    · rw [PR.bind_ok] at hX1
      have hpl := port_le hq
      have HR4 := Lib.hid hc6.1.len
      clear hq
      have hl6 := Lib.hid hpl
      have HC6 := Lib.hid hc6
      have HX := Lib.hid hX1
      clear hc6 hX1 hlp hpl
      go_wp2_with fail
      refine hn1.mono ?_
      rintro e w7 ⟨⟨_, rfl, rfl, hs7⟩, x7⟩
      have HC7 := Lib.hid (HC6.out.but HLT.out hs7 x7)
      unfold refV
      dsimp only
      clear hn1 hs7 x7 HC6
      go_wp2_with fail
      obtain ⟨f0, hf0⟩ : ∃ f0, f0 = r7.length + 2 := ⟨_, rfl⟩
      obtain ⟨bs, hbs⟩ : ∃ bs, bs = w7.heap.size + 1 := ⟨_, rfl⟩
      rw [<- hbs]
      have HF0 := Lib.hid hf0
      have HBS := Lib.hid hbs
      clear hf0 hbs
      go_loopg [] f0 (fun g wr => EdgeLoop pb a cap T ar dep w bs X g wr)
      case atStart =>
        have hl := hl6.out
        have hr := HR4.out
        have hf0 := HF0.out
        refine ⟨[(qn, qp)], r7, (by rw [HBS.out]; exact edge_start HC7.out HLT.out), by simp, by simp; omega, by omega, ?_⟩
        rw [hf0]
        exact HX.out
      obtain ⟨out, r, ⟨gb, c, hR⟩, ho1, hor, hgk, hX⟩ := hrel
      obtain ⟨f, rfl⟩ : ∃ f, gk = f + 1 := ⟨gk - 1, by omega⟩
      rw [pRefs] at hX
      obtain ⟨N, hN⟩ : ∃ N, N = out.length := ⟨_, rfl⟩
      obtain ⟨c2, f2⟩ := refSt_cells hR
      rw [<- hN] at c2
      have hN1 : 1 <= N := by omega
      have hNb : N <= 16386 := by omega
      obtain ⟨_, _, p2⟩ := hR.1.1.dep_cell
      have HR := Lib.hid hR; have HN := Lib.hid hN
      have HOR := Lib.hid hor
      clear HC7 hl6 HR4 HX hR hN HF0 HBS ho1 hor
      cases hc : (decide (out.length < 2) || isT 5 ar.data.toList r)
      · have h5 := Bool.or_eq_false_iff.1 hc
        rw [if_neg (by rw [hc]; decide)] at hX
        have h2 : ¬ N < 2 := by rw [HN.out]; exact of_decide_eq_false h5.1
        have h2' : decide (N < 2) = false := decide_eq_false h2
        have hi1 := is_l pb a cap T ar dep r 5 (by decide) ar ar.data.toList rfl wr HR.out.1.1
        rw [h5.2] at hi1
        have HI1 := Lib.hid hi1
        have HX := Lib.hid hX
        clear hc h5 hi1 hX
        go_wp2_with (go_at_call 158; refine HI1.out.mono ?_; rintro e w8 ⟨rfl, x8⟩)
        have R8 := refSt_ext HR.out x8
        have hl8 := (Array.getElem?_eq_some_iff.1 R8.2.2.2.2.1).1
        have hn1 := options_any pb a cap T ar dep r w8 R8.1.1
        have hX1 := HX.out
        rw [PR.bind_ok] at hX1
        unfold edgeEnd at hX1
        clear HX HI1 x8
        rcases hq : pOpt (lastL T) r with ⟨L, r10⟩ | ⟨ln, er⟩ <;> rw [hq] at hn1 hX1 <;> clear hq
        · rw [PR.bind_ok] at hX1
          refine hn1.mono ?_
          rintro e w10 ⟨⟨_, rfl, ⟨la, lc, rfl, htp, hlc1, hlc2⟩, hs10⟩, x10⟩
          have R10 := refSt_but R8 HLT.out hs10 x10
          have k5 := R10.2.2.2.2.1
          rw [<- HN.out] at k5
          unfold edge5 at k5
          have k0 := R10.1.2.2
          unfold zero5 at k0
          have hne : w.heap.size ≠ bs := by have := R10.2.2.2.1; omega
          have b5 := setOne k5 3 (.slice la L.length lc)
          have b0 := (Below.heap_setCell w10 ⟨bs, 3, none⟩ (.slice la L.length lc) w.heap.size hne).trans k0
          have HZ := Lib.hid (set_five b0 (.int .i64 2) (.string ⟨#[]⟩) (.slice (some ⟨gb, 0, none⟩) N c) (.slice la L.length lc) (.slice none 0 0))
          obtain ⟨z0, z1, z2, z3, z4, g0, g1, g2, g3, g4⟩ := five_cells k5
          obtain ⟨y0, y1, y2, y3, y4, f0, f1, f2, f3, f4⟩ := five_cells b0
          have HX := Lib.hid hX1
          have R10 := Lib.hid R10; have HTP := Lib.hid htp; have HL1 := Lib.hid hlc1; have HL2 := Lib.hid hlc2; have HL8 := Lib.hid hl8; have HNE := Lib.hid hne
          clear hn1 hX1 htp hlc1 hlc2 hs10 x10 R8 hl8 k5 k0 b5 b0 hne
          go_wp2
          refine bodyPost_ret (results_cell_row rfl _ _ w.heap.size 67 #[.int .i64 2, .string ⟨#[]⟩, .slice (some ⟨gb, 0, none⟩) N c, .slice la L.length lc, .slice none 0 0] (0, 0) _ rfl HZ.out Tryz.underlying67 rfl size_stm) rfl ?_
          have hbs := R10.out.2.2.2.1
          have hlp := HLT.out
          have hs' := R10.out.1.1.far (p := ⟨bs, 3, none⟩) (by show pb < bs; omega) (.slice la L.length lc)
          have x' := but_far R10.out.1.2.1 (p := ⟨bs, 3, none⟩) (by show w.heap.size <= bs; omega) (.slice la L.length lc)
          obtain ⟨F1, F2, F3⟩ := fin_five hs' x' w.heap.size hlp (Nat.le_refl _) (.int .i64 2) (.string ⟨#[]⟩) (.slice (some ⟨gb, 0, none⟩) N c) (.slice la L.length lc) (.slice none 0 0)
          rw [HX.out]
          have hN := HN.out
          subst hN
          exact ⟨⟨_, rfl, ⟨[.int .i64 2, .string ⟨#[]⟩, .slice (some ⟨gb, 0, none⟩) out.length c, .slice la L.length lc, .slice none 0 0], rfl, edge_fin R10.out HTP.out HL8.out HL1.out HL2.out (fun g h1 h2 => (F3 g h2).trans (Below.heap_setCell _ _ _ _ h1))⟩, F1⟩, F2⟩
        rw [PR.bind_err] at hX1
        have HX := Lib.hid hX1
        have x08 := R8.1.2.1
        clear hX1
        refine hn1.mono ?_
        rintro e w10 ⟨rfl, x10⟩
        clear hn1
        unfold failE
        go_wp2
        exact ⟨rfl, by rw [HX.out]; exact rfl, x08.trans x10⟩
      go_upto_region 19 with fail
      go_cut [97] from 86 to 112 (fun s97 wx => s97 = .bool true /\ RefSt pb a cap T ar dep w bs out r gb c wx)
      case first =>
        cases h2 : decide (out.length < 2)
        · rw [h2, Bool.false_or] at hc
          rw [<- HN.out] at h2
          have h2' : ¬ N < 2 := of_decide_eq_false h2
          have hi1 := is_l pb a cap T ar dep r 5 (by decide) ar ar.data.toList rfl wr HR.out.1.1
          rw [hc] at hi1
          have HI1 := Lib.hid hi1
          clear hc hi1 hX
          go_wp2_with (go_at_call 158; refine HI1.out.mono ?_; rintro e w8 ⟨rfl, x8⟩)
          go_meet
          exact ⟨rfl, refSt_ext HR.out x8⟩
        rw [<- HN.out] at h2
        have h2' : N < 2 := of_decide_eq_true h2
        clear hc hX
        go_wp2_with fail
        go_meet
        exact ⟨rfl, HR.out⟩
      obtain ⟨rfl, hR8⟩ := hcut
      rw [if_pos hc] at hX
      clear HR c2 f2 p2 hc
      obtain ⟨_, _, p2⟩ := hR8.1.1.dep_cell
      have hmk := mark_l pb a cap T ar dep r ar ar.data.toList rfl wc hR8.1.1
      have X08 := Lib.hid hR8.1.2.1
      rcases hq : pMark (lastL T) ar.data.toList r with ⟨u, r9⟩ | ⟨ln, er⟩ <;> rw [hq] at hmk hX
      · have hl9 := Lib.hid (pMark_len hq)
        rw [PR.bind_ok] at hX
        have HR8 := Lib.hid hR8
        have HX := Lib.hid hX
        clear hq hR8 hX
        go_wp2_with fail
        refine hmk.mono ?_
        rintro e w9 ⟨⟨_, rfl, rfl, hs9⟩, x9⟩
        have R9 := Lib.hid (refSt_but HR8.out HLT.out hs9 x9)
        have X09 := Lib.hid (X08.out.trans x9)
        clear hmk x9 hs9 HR8 p2 X08
        have HN3 : Hid (N + 1 <= maxLen) := Lib.hid (by unfold maxLen; omega)
        have HN4 : Hid ((N + 1) * 32 <= 140737488355328) := Lib.hid (by omega)
        go_upto_region 21 with fail
        have c9 := refSt_cell2 R9.out HN.out
        have hX1 := HX.out
        unfold pRef at hX1
        have hnm := fun w' (x : Ext w9 w') => name_any pb a cap T ar dep r9 w' (R9.out.1.1.ext x)
        rcases hq1 : pName (lastL T) r9 with ⟨nm2, r10⟩ | ⟨ln, er⟩ <;> rw [hq1] at hnm hX1 <;> clear HX
        · rw [PR.bind_ok] at hX1
          have hla := Lib.hid (pName_len hq1)
          have HNM := Lib.hid hnm
          have hpt := fun w' (h : PSt pb a cap T ar dep r10 w') => port_any pb a cap T ar dep r10 nm2 w' h
          rcases hq2 : pPort (lastL T) nm2 r10 with ⟨⟨m2, p2⟩, r11⟩ | ⟨ln, er⟩ <;> rw [hq2] at hpt hX1 <;> clear hq1 hnm
          · rw [PR.bind_ok] at hX1
            have hlb := Lib.hid (port_le hq2)
            have HPT := Lib.hid hpt
            have HX := Lib.hid hX1
            have HLL : Hid (r11.length < r.length) := Lib.hid (by have h1 := hl9.out; have h2 := hla.out; have h3 := hlb.out; omega)
            clear hX1 hpt hq2 hl9 hla hlb
            refine wp_region_any (by kernel_rfl) ?_
            change wpAny _ _ _ _ _ _ _ (World.drew _)
            refine wpAny_take (i := 0) (v := ?_) rfl (by kernel_rfl) (by kernel_rfl) (by kernel_rfl) (fun _ _ _ h => h) (Or.inl ⟨by rfl, ?_⟩) ?_
            rotate_left
            · intro w; go_simp; try with_reducible rfl
            refine wpAny_take (i := 2) (v := ?_) rfl (by kernel_rfl) (by kernel_rfl) (by kernel_rfl) (fun _ _ _ h => h) (Or.inl ⟨by rfl, ?_⟩) ?_
            rotate_left
            · intro w; go_simp; try with_reducible rfl
            refine wpAny_take (i := 3) (v := ?_) rfl (by kernel_rfl) (by kernel_rfl) (by kernel_rfl) (fun _ _ _ h => h) (Or.inl ⟨by rfl, ?_⟩) ?_
            rotate_left
            · intro w; go_simp; try with_reducible rfl
            refine wpAny_ready (rs := [1, 4]) (by kernel_rfl) (by simp) ?_
            refine AllReady.cons rfl (fun K hK => ?_) ?_
            · go_simp
              refine hK _ _ ?_; clear hK K
              refine wpAny_ready (rs := [4]) (by kernel_rfl) (by simp) ?_
              refine AllReady.cons rfl (fun K hK => ?_) ?_
              · go_simp
                (go_at_call 101; refine (HNM.out _ (Ext.refl _).drew).mono ?_; rintro e w10 ⟨⟨_, rfl, rfl, hs10⟩, x10⟩; have R10 := Lib.hid (refSt_but (refSt_ext R9.out ((Ext.refl w9).drew)) HLT.out hs10 x10); have c10 := refSt_cell2 R10.out HN.out; replace hs10 := Lib.hid hs10; replace x10 := Lib.hid x10)
                try dsimp only
                refine hK _ _ ?_; clear hK K
                refine wpAny_ready (rs := [5]) (by kernel_rfl) (by simp) ?_
                refine AllReady.cons rfl (fun K hK => ?_) ?_
                · go_simp
                  (go_at_call 216; refine (HPT.out _ hs10.out).mono ?_; rintro e w11 ⟨⟨_, rfl, rfl, hs11⟩, x11⟩; have R11 := Lib.hid (refSt_but R10.out HLT.out hs11 x11); have c11 := refSt_cell2 R11.out HN.out; have d11 := fun o => ((Ext.refl w11).alloc o).cell c11; unfold refV; dsimp only; replace hs11 := Lib.hid hs11; replace x11 := Lib.hid x11)
                  try dsimp only
                  refine hK _ _ ?_; clear hK K
                  refine wpAny_ready (rs := [6]) (by kernel_rfl) (by simp) ?_
                  refine AllReady.cons rfl (fun K hK => ?_) ?_
                  · go_simp
                    refine hK _ _ ?_; clear hK K
                    refine wpAny_ready (rs := [7]) (by kernel_rfl) (by simp) ?_
                    refine AllReady.cons rfl (fun K hK => ?_) ?_
                    · refine step_append_lies _ (by rfl) _ _ 64 (by rfl) (w.heap.size + 1) 90 i0 _ 2 32 Tryz.underlying64 hi hz0 hz1 hz2 rfl (by decide) _ N _ (by rfl) (own_ext' (refSt_own R11.out HN.out) ((Ext.refl w11).alloc _)) ⟨w11.heap.size, 0, none⟩ 1 1 [.string m2, .string p2] (by rfl) rfl (World.news_of_block (cs := #[.string m2, .string p2]) (t := 90) (fr := (0, 0)) (heap_alloc_new w11 _)) (by simp [Value.oneCell']) (by decide) HN3.out HN4.out (refSt_base R11.out) (w11.heap.size + 1) (by simp) ?_
                      intro g4 c4 w12 hown12 hgrow hat hlt12
                      have k12 := refSt_grow R11.out HN.out hgrow
                      obtain ⟨z0, z1, z2, z3, z4, g0, g1, g2, g3, g5⟩ := five_cells k12
                      clear k12
                      replace hown12 := Lib.hid hown12; replace hgrow := Lib.hid hgrow; replace hat := Lib.hid hat
                      refine hK _ _ ?_; clear hK K
                      refine wpAny_take (i := 8) (v := ?_) rfl (by kernel_rfl) (by kernel_rfl) (by kernel_rfl) (fun _ _ _ h => h) (Or.inl ⟨by rfl, ?_⟩) ?_
                      rotate_left
                      · intro w; go_simp; try with_reducible rfl
                      refine wpAny_ready (rs := [9]) (by kernel_rfl) (by simp) ?_
                      refine AllReady.cons rfl (fun K hK => ?_) ?_
                      · go_simp
                        refine hK _ _ ?_; clear hK K
                        refine wpAny_done (by kernel_rfl) ?_ _
                        go_wp2_with fail
                        go_roundg f
                        case measure => omega
                        have hor := HOR.out
                        have hll := HLL.out
                        exact ⟨out ++ [(m2, p2)], r11, refSt_next R11.out HLT.out HN.out hown12.out hgrow.out hat.out, by simp, by simp; omega, by omega, HX.out⟩
                      exact AllReady.nil
                    exact AllReady.nil
                  exact AllReady.nil
                exact AllReady.nil
              exact AllReady.nil
            refine AllReady.cons rfl (fun K hK => ?_) ?_
            · go_simp
              (go_at_call 101; refine (HNM.out _ (Ext.refl _).drew).mono ?_; rintro e w10 ⟨⟨_, rfl, rfl, hs10⟩, x10⟩; have R10 := Lib.hid (refSt_but (refSt_ext R9.out ((Ext.refl w9).drew)) HLT.out hs10 x10); have c10 := refSt_cell2 R10.out HN.out; replace hs10 := Lib.hid hs10; replace x10 := Lib.hid x10)
              try dsimp only
              refine hK _ _ ?_; clear hK K
              refine wpAny_ready (rs := [1, 5]) (by kernel_rfl) (by simp) ?_
              refine AllReady.cons rfl (fun K hK => ?_) ?_
              · go_simp
                refine hK _ _ ?_; clear hK K
                refine wpAny_ready (rs := [5]) (by kernel_rfl) (by simp) ?_
                refine AllReady.cons rfl (fun K hK => ?_) ?_
                · go_simp
                  (go_at_call 216; refine (HPT.out _ hs10.out).mono ?_; rintro e w11 ⟨⟨_, rfl, rfl, hs11⟩, x11⟩; have R11 := Lib.hid (refSt_but R10.out HLT.out hs11 x11); have c11 := refSt_cell2 R11.out HN.out; have d11 := fun o => ((Ext.refl w11).alloc o).cell c11; unfold refV; dsimp only; replace hs11 := Lib.hid hs11; replace x11 := Lib.hid x11)
                  try dsimp only
                  refine hK _ _ ?_; clear hK K
                  refine wpAny_ready (rs := [6]) (by kernel_rfl) (by simp) ?_
                  refine AllReady.cons rfl (fun K hK => ?_) ?_
                  · go_simp
                    refine hK _ _ ?_; clear hK K
                    refine wpAny_ready (rs := [7]) (by kernel_rfl) (by simp) ?_
                    refine AllReady.cons rfl (fun K hK => ?_) ?_
                    · refine step_append_lies _ (by rfl) _ _ 64 (by rfl) (w.heap.size + 1) 90 i0 _ 2 32 Tryz.underlying64 hi hz0 hz1 hz2 rfl (by decide) _ N _ (by rfl) (own_ext' (refSt_own R11.out HN.out) ((Ext.refl w11).alloc _)) ⟨w11.heap.size, 0, none⟩ 1 1 [.string m2, .string p2] (by rfl) rfl (World.news_of_block (cs := #[.string m2, .string p2]) (t := 90) (fr := (0, 0)) (heap_alloc_new w11 _)) (by simp [Value.oneCell']) (by decide) HN3.out HN4.out (refSt_base R11.out) (w11.heap.size + 1) (by simp) ?_
                      intro g4 c4 w12 hown12 hgrow hat hlt12
                      have k12 := refSt_grow R11.out HN.out hgrow
                      obtain ⟨z0, z1, z2, z3, z4, g0, g1, g2, g3, g5⟩ := five_cells k12
                      clear k12
                      replace hown12 := Lib.hid hown12; replace hgrow := Lib.hid hgrow; replace hat := Lib.hid hat
                      refine hK _ _ ?_; clear hK K
                      refine wpAny_take (i := 8) (v := ?_) rfl (by kernel_rfl) (by kernel_rfl) (by kernel_rfl) (fun _ _ _ h => h) (Or.inl ⟨by rfl, ?_⟩) ?_
                      rotate_left
                      · intro w; go_simp; try with_reducible rfl
                      refine wpAny_ready (rs := [9]) (by kernel_rfl) (by simp) ?_
                      refine AllReady.cons rfl (fun K hK => ?_) ?_
                      · go_simp
                        refine hK _ _ ?_; clear hK K
                        refine wpAny_done (by kernel_rfl) ?_ _
                        go_wp2_with fail
                        go_roundg f
                        case measure => omega
                        have hor := HOR.out
                        have hll := HLL.out
                        exact ⟨out ++ [(m2, p2)], r11, refSt_next R11.out HLT.out HN.out hown12.out hgrow.out hat.out, by simp, by simp; omega, by omega, HX.out⟩
                      exact AllReady.nil
                    exact AllReady.nil
                  exact AllReady.nil
                exact AllReady.nil
              refine AllReady.cons rfl (fun K hK => ?_) ?_
              · go_simp
                (go_at_call 216; refine (HPT.out _ hs10.out).mono ?_; rintro e w11 ⟨⟨_, rfl, rfl, hs11⟩, x11⟩; have R11 := Lib.hid (refSt_but R10.out HLT.out hs11 x11); have c11 := refSt_cell2 R11.out HN.out; have d11 := fun o => ((Ext.refl w11).alloc o).cell c11; unfold refV; dsimp only; replace hs11 := Lib.hid hs11; replace x11 := Lib.hid x11)
                try dsimp only
                refine hK _ _ ?_; clear hK K
                refine wpAny_ready (rs := [1, 6]) (by kernel_rfl) (by simp) ?_
                refine AllReady.cons rfl (fun K hK => ?_) ?_
                · go_simp
                  refine hK _ _ ?_; clear hK K
                  refine wpAny_ready (rs := [6]) (by kernel_rfl) (by simp) ?_
                  refine AllReady.cons rfl (fun K hK => ?_) ?_
                  · go_simp
                    refine hK _ _ ?_; clear hK K
                    refine wpAny_ready (rs := [7]) (by kernel_rfl) (by simp) ?_
                    refine AllReady.cons rfl (fun K hK => ?_) ?_
                    · refine step_append_lies _ (by rfl) _ _ 64 (by rfl) (w.heap.size + 1) 90 i0 _ 2 32 Tryz.underlying64 hi hz0 hz1 hz2 rfl (by decide) _ N _ (by rfl) (own_ext' (refSt_own R11.out HN.out) ((Ext.refl w11).alloc _)) ⟨w11.heap.size, 0, none⟩ 1 1 [.string m2, .string p2] (by rfl) rfl (World.news_of_block (cs := #[.string m2, .string p2]) (t := 90) (fr := (0, 0)) (heap_alloc_new w11 _)) (by simp [Value.oneCell']) (by decide) HN3.out HN4.out (refSt_base R11.out) (w11.heap.size + 1) (by simp) ?_
                      intro g4 c4 w12 hown12 hgrow hat hlt12
                      have k12 := refSt_grow R11.out HN.out hgrow
                      obtain ⟨z0, z1, z2, z3, z4, g0, g1, g2, g3, g5⟩ := five_cells k12
                      clear k12
                      replace hown12 := Lib.hid hown12; replace hgrow := Lib.hid hgrow; replace hat := Lib.hid hat
                      refine hK _ _ ?_; clear hK K
                      refine wpAny_take (i := 8) (v := ?_) rfl (by kernel_rfl) (by kernel_rfl) (by kernel_rfl) (fun _ _ _ h => h) (Or.inl ⟨by rfl, ?_⟩) ?_
                      rotate_left
                      · intro w; go_simp; try with_reducible rfl
                      refine wpAny_ready (rs := [9]) (by kernel_rfl) (by simp) ?_
                      refine AllReady.cons rfl (fun K hK => ?_) ?_
                      · go_simp
                        refine hK _ _ ?_; clear hK K
                        refine wpAny_done (by kernel_rfl) ?_ _
                        go_wp2_with fail
                        go_roundg f
                        case measure => omega
                        have hor := HOR.out
                        have hll := HLL.out
                        exact ⟨out ++ [(m2, p2)], r11, refSt_next R11.out HLT.out HN.out hown12.out hgrow.out hat.out, by simp, by simp; omega, by omega, HX.out⟩
                      exact AllReady.nil
                    exact AllReady.nil
                  exact AllReady.nil
                refine AllReady.cons rfl (fun K hK => ?_) ?_
                · go_simp
                  refine hK _ _ ?_; clear hK K
                  refine wpAny_ready (rs := [1]) (by kernel_rfl) (by simp) ?_
                  refine AllReady.cons rfl (fun K hK => ?_) ?_
                  · go_simp
                    refine hK _ _ ?_; clear hK K
                    refine wpAny_ready (rs := [7]) (by kernel_rfl) (by simp) ?_
                    refine AllReady.cons rfl (fun K hK => ?_) ?_
                    · refine step_append_lies _ (by rfl) _ _ 64 (by rfl) (w.heap.size + 1) 90 i0 _ 2 32 Tryz.underlying64 hi hz0 hz1 hz2 rfl (by decide) _ N _ (by rfl) (own_ext' (refSt_own R11.out HN.out) ((Ext.refl w11).alloc _)) ⟨w11.heap.size, 0, none⟩ 1 1 [.string m2, .string p2] (by rfl) rfl (World.news_of_block (cs := #[.string m2, .string p2]) (t := 90) (fr := (0, 0)) (heap_alloc_new w11 _)) (by simp [Value.oneCell']) (by decide) HN3.out HN4.out (refSt_base R11.out) (w11.heap.size + 1) (by simp) ?_
                      intro g4 c4 w12 hown12 hgrow hat hlt12
                      have k12 := refSt_grow R11.out HN.out hgrow
                      obtain ⟨z0, z1, z2, z3, z4, g0, g1, g2, g3, g5⟩ := five_cells k12
                      clear k12
                      replace hown12 := Lib.hid hown12; replace hgrow := Lib.hid hgrow; replace hat := Lib.hid hat
                      refine hK _ _ ?_; clear hK K
                      refine wpAny_take (i := 8) (v := ?_) rfl (by kernel_rfl) (by kernel_rfl) (by kernel_rfl) (fun _ _ _ h => h) (Or.inl ⟨by rfl, ?_⟩) ?_
                      rotate_left
                      · intro w; go_simp; try with_reducible rfl
                      refine wpAny_ready (rs := [9]) (by kernel_rfl) (by simp) ?_
                      refine AllReady.cons rfl (fun K hK => ?_) ?_
                      · go_simp
                        refine hK _ _ ?_; clear hK K
                        refine wpAny_done (by kernel_rfl) ?_ _
                        go_wp2_with fail
                        go_roundg f
                        case measure => omega
                        have hor := HOR.out
                        have hll := HLL.out
                        exact ⟨out ++ [(m2, p2)], r11, refSt_next R11.out HLT.out HN.out hown12.out hgrow.out hat.out, by simp, by simp; omega, by omega, HX.out⟩
                      exact AllReady.nil
                    exact AllReady.nil
                  exact AllReady.nil
                exact AllReady.nil
              exact AllReady.nil
            exact AllReady.nil
          rw [PR.bind_err, PR.bind_err] at hX1
          have HX := Lib.hid hX1
          clear hX1 hq2
          refine wp_region_any (by kernel_rfl) ?_
          change wpAny _ _ _ _ _ _ _ (World.drew _)
          refine wpAny_take (i := 0) (v := ?_) rfl (by kernel_rfl) (by kernel_rfl) (by kernel_rfl) (fun _ _ _ h => h) (Or.inl ⟨by rfl, ?_⟩) ?_
          rotate_left
          · intro w; go_simp; try with_reducible rfl
          refine wpAny_take (i := 2) (v := ?_) rfl (by kernel_rfl) (by kernel_rfl) (by kernel_rfl) (fun _ _ _ h => h) (Or.inl ⟨by rfl, ?_⟩) ?_
          rotate_left
          · intro w; go_simp; try with_reducible rfl
          refine wpAny_take (i := 3) (v := ?_) rfl (by kernel_rfl) (by kernel_rfl) (by kernel_rfl) (fun _ _ _ h => h) (Or.inl ⟨by rfl, ?_⟩) ?_
          rotate_left
          · intro w; go_simp; try with_reducible rfl
          refine wpAny_ready (rs := [1, 4]) (by kernel_rfl) (by simp) ?_
          refine AllReady.cons rfl (fun K hK => ?_) ?_
          · go_simp
            refine hK _ _ ?_; clear hK K
            refine wpAny_ready (rs := [4]) (by kernel_rfl) (by simp) ?_
            refine AllReady.cons rfl (fun K hK => ?_) ?_
            · go_simp
              (go_at_call 101; refine (HNM.out _ (Ext.refl _).drew).mono ?_; rintro e w10 ⟨⟨_, rfl, rfl, hs10⟩, x10⟩; have R10 := Lib.hid (refSt_but (refSt_ext R9.out ((Ext.refl w9).drew)) HLT.out hs10 x10); have c10 := refSt_cell2 R10.out HN.out; replace hs10 := Lib.hid hs10; replace x10 := Lib.hid x10)
              try dsimp only
              refine hK _ _ ?_; clear hK K
              refine wpAny_ready (rs := [5]) (by kernel_rfl) (by simp) ?_
              refine AllReady.cons rfl (fun K hK => ?_) ?_
              · go_simp
                (go_at_call 216; refine (hpt _ hs10.out).mono ?_; rintro e w11 ⟨rfl, x11⟩; unfold failE; go_wp2; exact ⟨rfl, by rw [HX.out]; exact rfl, (X09.out.trans ((But.of ((Ext.refl _).drew)).trans x10.out)).trans x11⟩)
              exact AllReady.nil
            exact AllReady.nil
          refine AllReady.cons rfl (fun K hK => ?_) ?_
          · go_simp
            (go_at_call 101; refine (HNM.out _ (Ext.refl _).drew).mono ?_; rintro e w10 ⟨⟨_, rfl, rfl, hs10⟩, x10⟩; have R10 := Lib.hid (refSt_but (refSt_ext R9.out ((Ext.refl w9).drew)) HLT.out hs10 x10); have c10 := refSt_cell2 R10.out HN.out; replace hs10 := Lib.hid hs10; replace x10 := Lib.hid x10)
            try dsimp only
            refine hK _ _ ?_; clear hK K
            refine wpAny_ready (rs := [1, 5]) (by kernel_rfl) (by simp) ?_
            refine AllReady.cons rfl (fun K hK => ?_) ?_
            · go_simp
              refine hK _ _ ?_; clear hK K
              refine wpAny_ready (rs := [5]) (by kernel_rfl) (by simp) ?_
              refine AllReady.cons rfl (fun K hK => ?_) ?_
              · go_simp
                (go_at_call 216; refine (hpt _ hs10.out).mono ?_; rintro e w11 ⟨rfl, x11⟩; unfold failE; go_wp2; exact ⟨rfl, by rw [HX.out]; exact rfl, (X09.out.trans ((But.of ((Ext.refl _).drew)).trans x10.out)).trans x11⟩)
              exact AllReady.nil
            refine AllReady.cons rfl (fun K hK => ?_) ?_
            · go_simp
              (go_at_call 216; refine (hpt _ hs10.out).mono ?_; rintro e w11 ⟨rfl, x11⟩; unfold failE; go_wp2; exact ⟨rfl, by rw [HX.out]; exact rfl, (X09.out.trans ((But.of ((Ext.refl _).drew)).trans x10.out)).trans x11⟩)
            exact AllReady.nil
          exact AllReady.nil
        rw [PR.bind_err, PR.bind_err, PR.bind_err] at hX1
        have HX := Lib.hid hX1
        clear hX1 hq1
        refine wp_region_any (by kernel_rfl) ?_
        change wpAny _ _ _ _ _ _ _ (World.drew _)
        refine wpAny_take (i := 0) (v := ?_) rfl (by kernel_rfl) (by kernel_rfl) (by kernel_rfl) (fun _ _ _ h => h) (Or.inl ⟨by rfl, ?_⟩) ?_
        rotate_left
        · intro w; go_simp; try with_reducible rfl
        refine wpAny_take (i := 2) (v := ?_) rfl (by kernel_rfl) (by kernel_rfl) (by kernel_rfl) (fun _ _ _ h => h) (Or.inl ⟨by rfl, ?_⟩) ?_
        rotate_left
        · intro w; go_simp; try with_reducible rfl
        refine wpAny_take (i := 3) (v := ?_) rfl (by kernel_rfl) (by kernel_rfl) (by kernel_rfl) (fun _ _ _ h => h) (Or.inl ⟨by rfl, ?_⟩) ?_
        rotate_left
        · intro w; go_simp; try with_reducible rfl
        refine wpAny_ready (rs := [1, 4]) (by kernel_rfl) (by simp) ?_
        refine AllReady.cons rfl (fun K hK => ?_) ?_
        · go_simp
          refine hK _ _ ?_; clear hK K
          refine wpAny_ready (rs := [4]) (by kernel_rfl) (by simp) ?_
          refine AllReady.cons rfl (fun K hK => ?_) ?_
          · go_simp
            (go_at_call 101; refine (hnm _ (Ext.refl _).drew).mono ?_; rintro e w10 ⟨rfl, x10⟩; unfold failE; go_wp2; exact ⟨rfl, by rw [HX.out]; exact rfl, X09.out.trans ((But.of ((Ext.refl _).drew)).trans x10)⟩)
          exact AllReady.nil
        refine AllReady.cons rfl (fun K hK => ?_) ?_
        · go_simp
          (go_at_call 101; refine (hnm _ (Ext.refl _).drew).mono ?_; rintro e w10 ⟨rfl, x10⟩; unfold failE; go_wp2; exact ⟨rfl, by rw [HX.out]; exact rfl, X09.out.trans ((But.of ((Ext.refl _).drew)).trans x10)⟩)
        exact AllReady.nil
      rw [PR.bind_err, PR.bind_err] at hX
      have HX := Lib.hid hX
      clear hX hq hR8
      go_wp2_with fail
      refine hmk.mono ?_
      rintro e w9 ⟨rfl, x9⟩
      clear hmk
      unfold failE
      go_wp2
      exact ⟨rfl, by rw [HX.out]; exact rfl, X08.out.trans x9⟩
    rw [PR.bind_err] at hX1
    have HX := Lib.hid hX1
    have x46 := hc6.2.1
    clear hX1 hq
    go_wp2_with fail
    refine hn1.mono ?_
    rintro e w7 ⟨rfl, x7⟩
    clear hn1
    unfold failE
    go_wp2
    exact ⟨rfl, by rw [HX.out]; exact rfl, x46.trans x7⟩
  rw [PR.bind_err] at hX1
  have HX := Lib.hid hX1
  have x03 := hc3.2.1
  clear hX1
  refine hn1.mono ?_
  rintro e w4 ⟨rfl, x4⟩
  clear hn1
  unfold failE
  go_wp2
  exact ⟨rfl, by rw [HX.out]; exact rfl, x03.trans x4⟩
end Go.Proofs.YtjaeedbjknejdaaGreatDoor.Pa
