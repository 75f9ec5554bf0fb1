/- Packed texts: ParBlock, ParBlk, ParSet, ParClus -/
import Derived.Test.YtjaeedbjknejdaaGreatDoorPr43
set_option linter.unusedVariables false
set_option linter.unusedSimpArgs false
set_option maxHeartbeats 16000000
set_option maxRecDepth 100000
namespace Go.Proofs.YtjaeedbjknejdaaGreatDoor.Pa
open Go.RowKit Go.Sort Go.Lib Go.Shelf Fx Lx Tr
def Eats {α : Type} (x : PR α) (m : Nat) : Prop := ∀ v r, x = .ok v r -> r.length < m
theorem Eats.bind {α β : Type} {x : PR α} {g : α -> List Tok -> PR β} {m : Nat} (h : ∀ v r, x = .ok v r -> Eats (g v r) m) : Eats (x.bind g) m := by
  intro v r e
  cases x with
  | ok u s => exact h u s rfl v r e
  | err ln er => cases e
theorem Eats.ok {α : Type} {v : α} {r : List Tok} {m : Nat} (h : r.length < m) : Eats (PR.ok v r) m := by
  intro v' r' e; injection e with _ e; rw [<- e]; exact h
theorem Eats.err {α : Type} {ln er : Int} {m : Nat} : Eats (PR.err ln er : PR α) m := by
  intro v' r' e; cases e
theorem Eats.mono {α : Type} {x : PR α} {m n : Nat} (h : Eats x m) (hn : m <= n) : Eats x n := fun v r e => Nat.lt_of_lt_of_le (h v r e) hn
theorem eats_attr (last : Int) (r : List Tok) : Eats (pAttr last r) r.length := by
  unfold pAttr
  refine Eats.bind fun v s h => ?_
  have := pName_len h
  refine Eats.bind fun v s h => ?_
  have := pMark_len h
  refine Eats.bind fun v s h => ?_
  have := pVal_len h
  exact Eats.ok (by omega)
theorem eats_attrs (last : Int) : ∀ (f : Nat) (out : List Two) (r : List Tok), Eats (pAttrs last f out r) r.length
  | 0, _, _ => by rw [pAttrs]; exact Eats.err
  | f + 1, out, r => by
    rw [pAttrs]
    by_cases hi : isT 5 [93] r = true
    · rw [if_pos hi]; have := isT_cons hi; exact Eats.ok (by omega)
    · rw [if_neg hi]
      refine Eats.bind fun v s h => ?_
      have hs : s.length <= r.length := by
        by_cases h0 : out.isEmpty = true
        · rw [if_pos h0] at h; injection h with _ h; rw [<- h]; exact Nat.le_refl _
        rw [if_neg h0] at h; have := pMark_len h; omega
      refine Eats.bind fun q s' h' => ?_
      have := eats_attr last s q s' h'
      exact (eats_attrs last f (out ++ [q]) s').mono (by omega)
theorem eats_attrsB (last : Int) (r : List Tok) : Eats (pAttrsB last r) r.length := by
  unfold pAttrsB
  refine Eats.bind fun v s h => ?_
  have := pMark_len h
  exact (eats_attrs last _ _ _).mono (by omega)
theorem eats_opt (last : Int) (r : List Tok) : Eats (pOpt last r) r.length := by
  unfold pOpt
  refine Eats.bind fun v s h => ?_
  have hs : s.length <= r.length := by
    by_cases hi : isT 5 [91] r = true
    · rw [if_pos hi] at h; have := eats_attrsB last r v s h; omega
    rw [if_neg hi] at h; injection h with _ h; rw [<- h]; exact Nat.le_refl _
  refine Eats.bind fun q s' h' => ?_
  have := pMark_len h'
  exact Eats.ok (by omega)
theorem port_le {last : Int} {n : ByteArray} {r s : List Tok} {q : Two} (h : pPort last n r = .ok q s) : s.length <= r.length := by
  unfold pPort at h
  by_cases hi : isT 5 [58] r = true
  · rw [if_pos hi] at h
    have := isT_cons hi
    have := Eats.bind (m := r.length) (fun v s h => by have := pName_len h; exact Eats.ok (v := (n, v)) (r := s) (by omega)) q s h
    omega
  rw [if_neg hi] at h; injection h with _ h; rw [<- h]; exact Nat.le_refl _
theorem eats_ref (last : Int) (r : List Tok) : Eats (pRef last r) r.length := by
  unfold pRef
  refine Eats.bind fun v s h => ?_
  have := pName_len h
  intro q s' h'
  have := port_le h'
  omega
theorem refs_le (last : Int) (ar : List UInt8) : ∀ (f : Nat) (out : List Two) (r : List Tok), Eats (pRefs last ar f out r) (r.length + 1)
  | 0, _, _ => by rw [pRefs]; exact Eats.err
  | f + 1, out, r => by
    rw [pRefs]
    by_cases hi : (decide (out.length < 2) || isT 5 ar r) = true
    · rw [if_pos hi]
      refine Eats.bind fun v s h => ?_
      have := pMark_len h
      refine Eats.bind fun q s' h' => ?_
      have := eats_ref last s q s' h'
      exact (refs_le last ar f _ s').mono (by omega)
    · rw [if_neg hi]; exact Eats.ok (by omega)
theorem eats_chain (last : Int) (ar : List UInt8) (r : List Tok) : Eats (pChain last ar r) r.length := by
  unfold pChain
  refine Eats.bind fun n s h => ?_
  have := pName_len h
  by_cases hi : (isT 5 [58] s || isT 5 ar s) = false
  · rw [if_pos hi]
    refine Eats.bind fun v s' h' => ?_
    have := eats_opt last s v s' h'
    exact Eats.ok (by omega)
  rw [if_neg hi]
  refine Eats.bind fun v s' h' => ?_
  have := port_le h'
  refine Eats.bind fun v s2 h2 => ?_
  have := refs_le last ar _ _ _ v s2 h2
  refine Eats.bind fun v s3 h3 => ?_
  have := eats_opt last s2 v s3 h3
  exact Eats.ok (by omega)
theorem eats_set (last : Int) (r : List Tok) : Eats (pSet last r) r.length := by
  unfold pSet
  refine Eats.bind fun n s h => ?_
  have := pName_len h
  refine Eats.bind fun v s2 h2 => ?_
  have := pMark_len h2
  refine Eats.bind fun v s3 h3 => ?_
  have := pVal_len h3
  refine Eats.bind fun v s4 h4 => ?_
  have := pMark_len h4
  exact Eats.ok (by omega)
theorem eats_def (last : Int) (x : List UInt8) (r : List Tok) : Eats (pDef last x r) r.length := by
  unfold pDef
  refine Eats.bind fun n s h => ?_
  have := eats_attrsB last r n s h
  refine Eats.bind fun v s2 h2 => ?_
  have := pMark_len h2
  exact Eats.ok (by omega)
theorem eats_all (last : Int) (ar : List UInt8) : ∀ (f : Nat) (dep : Nat) (r : List Tok), Eats (pStm last ar f dep r) r.length /\ Eats (pBlock last ar f dep r) r.length /\ ∀ out, Eats (pStms last ar f dep out r) r.length
  | 0, dep, r => ⟨by rw [pStm]; exact Eats.err, by rw [pBlock]; exact Eats.err, fun out => by rw [pStms]; exact Eats.err⟩
  | f + 1, dep, r => by
    refine ⟨?_, ?_, fun out => ?_⟩
    · rw [pStm]
      by_cases h1 : (isT 2 kNode r || isT 2 kEdge r) = true
      · rw [if_pos h1]
        have h2 : r.tail.length + 1 = r.length := by
          rcases Bool.or_eq_true _ _ ▸ h1 with h | h <;> exact isT_cons h
        exact (eats_def last _ _).mono (by omega)
      rw [if_neg h1]
      by_cases h2 : isT 2 kSet r = true
      · rw [if_pos h2]; have := isT_cons h2; exact (eats_set last _).mono (by omega)
      rw [if_neg h2]
      by_cases h3 : isT 2 kClus r = true
      · rw [if_pos h3]
        have := isT_cons h3
        refine Eats.bind fun n s h => ?_
        have := pName_len h
        refine Eats.bind fun b s' h' => ?_
        have := (eats_all last ar f (dep + 1) s).2.1 b s' h'
        exact Eats.ok (by omega)
      rw [if_neg h3]; exact eats_chain last ar r
    · rw [pBlock]
      by_cases h1 : isT 5 [123] r = true /\ 6 < dep
      · rw [if_pos h1]; exact Eats.err
      rw [if_neg h1]
      refine Eats.bind fun v s h => ?_
      have := pMark_len h
      exact ((eats_all last ar f dep s).2.2 []).mono (by omega)
    · rw [pStms]
      by_cases hi : isT 5 [125] r = true
      · rw [if_pos hi]; have := isT_cons hi; exact Eats.ok (by omega)
      rw [if_neg hi]
      refine Eats.bind fun x s h => ?_
      have := (eats_all last ar f dep r).1 x s h
      exact ((eats_all last ar f dep s).2.2 (out ++ [x])).mono (by omega)
def StmC (pb : Nat) (a : Option Addr) (cap : Nat) (T : List Tok) (ar : ByteArray) (f : Nat) : Prop := ∀ (dep : Nat) (r : List Tok) (w : World), dep <= 6 -> 2 * r.length + 2 <= f -> PSt pb a cap T ar dep r w ->
  Calls Tryz.prog 161 #[.pointer (some ⟨pb, 0, none⟩)] w fun e w' =>
    POut pb a cap T ar dep (fun s u w' => StmV (w.heap.size <= ·) s u w') (pStm (lastL T) ar.data.toList f dep r) e w' /\ But pb w w'
def BlockC (pb : Nat) (a : Option Addr) (cap : Nat) (T : List Tok) (ar : ByteArray) (f : Nat) : Prop := ∀ (dep d : Nat) (r : List Tok) (w : World), dep <= 6 -> d <= 1 -> 2 * r.length + 3 <= f -> PSt pb a cap T ar dep r w ->
  Calls Tryz.prog 102 #[.pointer (some ⟨pb, 0, none⟩), .int .i64 d] w fun e w' =>
    POut pb a cap T ar dep (fun L u w' => StmsV (w.heap.size <= ·) L u w') (pBlock (lastL T) ar.data.toList f (dep + d) r) e w' /\ But pb w w'
theorem PSt.dep_cell {pb : Nat} {a : Option Addr} {cap : Nat} {T : List Tok} {ar : ByteArray} {dep : Int} {r : List Tok} {w : World} (h : PSt pb a cap T ar dep r w) :
    w.cell? ⟨pb, 3, none⟩ = some (.int .i64 dep) /\ w.frozen? ⟨pb, 3, none⟩ = false /\ w.cell? ⟨pb, 2, none⟩ = some (.string ar) := by
  obtain ⟨k, hk, hn, hd, hc, _⟩ := h
  obtain ⟨_, _, p2, p3, p4⟩ := hc.cells
  exact ⟨p3, p4 3, p2⟩
theorem PSt.dep_set {pb : Nat} {a : Option Addr} {cap : Nat} {T : List Tok} {ar : ByteArray} {dep : Int} {r : List Tok} {w : World} (h : PSt pb a cap T ar dep r w) (dep' : Int) :
    PSt pb a cap T ar dep' r (w.setCell ⟨pb, 3, none⟩ (.int .i64 dep')) /\ But pb w (w.setCell ⟨pb, 3, none⟩ (.int .i64 dep')) := by
  obtain ⟨k, hk, hn, hd, hc, ht, he, hm⟩ := h
  have hb : But pb w (w.setCell ⟨pb, 3, none⟩ (.int .i64 dep')) := (But.refl pb w).setCell ⟨pb, 3, none⟩ rfl _
  exact ⟨⟨k, hk, hn, hd, hc.depth dep', ht.but hb, he.but hb, hm⟩, hb⟩
theorem info_stm : (Tryz.prog.info? 67).map (fun i => (i.zero, i.size, i.bytes)) = some (some (.agg #[.int .i64 0, .string ⟨#[]⟩, .slice none 0 0, .slice none 0 0, .slice none 0 0]), 5, 96) := by kernel_rfl
end Go.Proofs.YtjaeedbjknejdaaGreatDoor.Pa

namespace Go.Proofs.YtjaeedbjknejdaaGreatDoor.Pa
open Go.RowKit Go.Sort Go.Lib Go.Shelf Fx Lx Tr
def okB (B : Nat) (v : Value) (g : Nat) : Prop := B <= g /\ some g ≠ v.ownBlock
theorem block_step (pb : Nat) (a : Option Addr) (cap : Nat) (T : List Tok) (ar : ByteArray) (f : Nat) (ih : ∀ g, g < f -> StmC pb a cap T ar g) : BlockC pb a cap T ar f := by
  intro dep d r w hdep hd hf h
  obtain ⟨i0, hi, hz0, hz1, hz2⟩ := info_parts info_stm
  obtain ⟨f, rfl⟩ : ∃ g, f = g + 1 := ⟨f - 1, by omega⟩
  obtain ⟨X, hX⟩ : ∃ X, X = pBlock (lastL T) ar.data.toList (f + 1) (dep + d) r := ⟨_, rfl⟩
  rw [<- hX]
  rw [pBlock] at hX
  have his := is_l pb a cap T ar dep r 5 (by decide) ⟨#[123]⟩ [123] rfl w h
  have HS := Lib.hid h
  have HLT := Lib.hid h.lt
  have HIH := Lib.hid ih
  clear h ih
  cases hb : isT 5 [123] r
  ·
    rw [hb, if_neg (by simp)] at hX
    rw [hb] at his
    have HI := Lib.hid his; have HX := Lib.hid hX; have HB := Lib.hid hb
    clear his hX hb
    go_enter Tryz.func102, Tryz.ntmps102
    go_wp2_with (go_at_call 158; refine HI.out.mono ?_; rintro e w1 ⟨rfl, x1⟩)
    have hmk := mark_l pb a cap T ar dep r ⟨#[123]⟩ [123] rfl w1 (HS.out.ext x1)
    have hpm : pMark (lastL T) [123] r = .err (lineOf (lastL T) r) 4 := by unfold pMark; rw [HB.out, if_neg (by decide)]
    have hX1 := HX.out
    rw [hpm] at hmk hX1
    rw [PR.bind_err] at hX1
    have HX1 := Lib.hid hX1
    clear hX1 hpm
    refine hmk.mono ?_
    rintro e w2 ⟨rfl, x2⟩
    clear hmk
    unfold failE
    go_wp2
    exact ⟨rfl, by rw [HX1.out]; exact rfl, (But.of x1).trans x2⟩
  rw [hb] at his
  by_cases h6 : 6 < dep + d
  · rw [hb, if_pos ⟨rfl, h6⟩] at hX
    have HI := Lib.hid his; have HX := Lib.hid hX
    clear his hX hb
    go_enter Tryz.func102, Tryz.ntmps102
    go_wp2_with (go_at_call 158; refine HI.out.mono ?_; rintro e w1 ⟨rfl, x1⟩; obtain ⟨q3, f3, q2⟩ := (HS.out.ext x1).dep_cell)
    refine (fail_any pb a cap T ar dep r 2 w1 (HS.out.ext x1)).mono ?_
    rintro e w2 ⟨rfl, x2⟩
    unfold failE
    go_wp2
    exact ⟨rfl, by rw [HX.out]; exact rfl, But.of (x1.trans x2)⟩
  rw [hb, if_neg (fun h => h6 h.2)] at hX
  have hpm : pMark (lastL T) [123] r = .ok () r.tail := by unfold pMark; rw [hb, if_pos rfl]
  rw [hpm, PR.bind_ok] at hX
  have hl0 := isT_cons hb
  have hmk := fun w1 (x : Ext w w1) => mark_l pb a cap T ar dep r ⟨#[123]⟩ [123] rfl w1 (HS.out.ext x)
  rw [hpm] at hmk
  have HMK := Lib.hid hmk
  have HI := Lib.hid his; have HX := Lib.hid hX
  have hrl := HS.out.len
  have h6' : ¬ (6 : Int) < (dep : Int) + d := by omega
  clear his hX hb hmk hpm h6
  go_enter Tryz.func102, Tryz.ntmps102
  go_wp2_with (first
    | (go_at_call 158; refine HI.out.mono ?_; rintro e w1 ⟨rfl, x1⟩; obtain ⟨q3, f3, q2⟩ := (HS.out.ext x1).dep_cell; replace x1 := Lib.hid x1)
    | (go_at_call 160; refine (HMK.out _ x1.out).mono ?_; rintro e w2 ⟨⟨_, rfl, rfl, hs2⟩, x2⟩; clear q3 f3 q2; obtain ⟨g3, k3, _⟩ := hs2.dep_cell
       have hs3 : Hid (PSt pb a cap T ar ((dep + d : Nat) : Int) r.tail (w2.setCell ⟨pb, 3, none⟩ (.int .i64 ((dep : Int) + d)))) := Lib.hid (by rw [Int.natCast_add]; exact (hs2.dep_set _).1)
       have x3 := Lib.hid (((But.of x1.out).trans x2).trans (hs2.dep_set ((dep : Int) + d)).2)
       clear hs2 x2))
  go_loopw [5] (fun out' wr => ∃ (ao : Option Addr) (n c : Nat) (out : List Stm) (Y : List Value) (r : List Tok) (f' : Nat), out' = .slice ao n c /\ Hid (n = out.length) /\ n + r.length <= 16384 /\ 2 * r.length + 3 <= f' /\ f' <= f /\ Hid (PSt pb a cap T ar ((dep + d : Nat) : Int) r wr) /\ Hid (But pb w wr) /\
    Hid (wr.ownsRow w.heap.size 67 5 out' n Y) /\ Hid (StmsC (okB w.heap.size out') wr out Y) /\ Hid (X = pStms (lastL T) ar.data.toList f' (dep + d) out r)) (fun out' _ => 16384 - slen out')
  case atStart => exact ⟨none, 0, 0, [], [], r.tail, f, rfl, Lib.hid rfl, by omega, by omega, Nat.le_refl _, hs3, x3, Lib.hid (World.ownsRow_nil _ _ _ _), Lib.hid rfl, HX⟩
  obtain ⟨ao, n, c, out, Y, r1, f', rfl, hn, hlen, hf1, hf2, hs, hb, hown, hst, hX⟩ := hrel
  clear HX HMK HI hs3 x3 x1 hrl hl0 hf
  obtain ⟨f', rfl⟩ : ∃ g, f' = g + 1 := ⟨f' - 1, by omega⟩
  have hX0 := hX.out
  rw [pStms] at hX0
  have htk := take_l pb a cap T ar ((dep + d : Nat) : Int) r1 5 (by decide) ⟨#[125]⟩ [125] rfl wr hs.out
  by_cases hi1 : isT 5 [125] r1 = true
  · rw [if_pos hi1] at hX0
    rw [hi1, if_pos rfl] at htk
    have HTK := Lib.hid htk; replace hX := Lib.hid hX0
    clear hX0 htk hi1
    go_wp2_with (go_at_call 100; refine HTK.out.mono ?_; rintro e w2 ⟨rfl, hs2, x2⟩; obtain ⟨g3, k3, _⟩ := hs2.dep_cell; have hs4 := Lib.hid (hs2.dep_set (dep : Int)).1; have x4 := Lib.hid (hs2.dep_set (dep : Int)).2; replace x2 := Lib.hid x2; clear hs2)
    go_returns
    have hl := HLT.out
    have hn' := hn.out
    subst hn'
    rw [hX.out]
    have x24 := x2.out.trans x4.out
    exact ⟨⟨_, rfl, own_stms (own_but hown.out x24 hl) (StmsC.keep (ok' := okB w.heap.size (.slice ao out.length c)) (fun g hg hlg => x24.block g hlg (by have := hg.1; omega)) (fun g hg _ => hg) out Y hst.out) (fun g hg => hg.1) (fun g hg => hg), hs4.out⟩, hb.out.trans x24⟩
  rw [if_neg hi1] at hX0
  have hi' : isT 5 [125] r1 = false := by simpa using hi1
  rw [hi', if_neg (by decide)] at htk
  have HTK := Lib.hid htk; replace hX := Lib.hid hX0
  clear hX0 htk hi1 hi'
  go_wp2_with (go_at_call 100; refine HTK.out.mono ?_; rintro e w2 ⟨rfl, hs2, x2⟩)
  have hsm := HIH.out f' (by omega) (dep + d) r1 w2 (by omega) (by omega) hs2
  have hea := (eats_all (lastL T) ar.data.toList f' (dep + d) r1).1
  have hX1 := hX.out
  rcases hq : pStm (lastL T) ar.data.toList f' (dep + d) r1 with ⟨s, r2⟩ | ⟨ln, er⟩ <;> rw [hq] at hsm hX1 hea <;> clear hq hX
  · rw [PR.bind_ok] at hX1
    have hX := Lib.hid hX1
    have hlt := hea s r2 rfl
    clear hX1 hea hs2 HTK
    refine hsm.mono ?_
    rintro e w3 ⟨⟨_, rfl, ⟨xs, rfl, hxs⟩, hs3⟩, x3⟩
    clear hsm
    have HXS := Lib.hid hxs
    obtain ⟨rr, rc, ra, rac, rb, rbc, rfl, _⟩ := (stmP_mk _ _ _ _).1 hxs
    clear hxs
    have hown2 := own_but hown.out x2 HLT.out
    have hown3 := Lib.hid (own_but hown2 x3 HLT.out)
    have hro : ∀ q, Value.ownBlock (.slice ao n c) = some q -> w.heap.size <= q /\ q < wr.heap.size := fun q hq => hown.out.lt q hq
    have HRO := Lib.hid hro
    have x23 := Lib.hid (x2.trans x3)
    replace x2 := Lib.hid x2
    have x03 := Lib.hid (hb.out.trans x23.out)
    have hsz3 := x03.out.size
    have hsz2 := x23.out.size
    have hszr := x2.out.size
    replace hs3 := Lib.hid hs3
    replace x3 := Lib.hid x3
    clear hown2 hown hs hro
    go_wp2_with (at_builtin; refine wpList_append_lies _ rfl _ _ 31 rfl w.heap.size 67 i0 _ 5 96 Tryz.underlying31 hi hz0 hz1 hz2 rfl (by decide) _ _ _ rfl (own_ext' hown3.out ((Ext.refl w3).alloc _)) ⟨w3.heap.size, 0, none⟩ 1 1 [.int .i64 s.kind, .string s.name, .slice rr s.refs.length rc, .slice ra s.attrs.length rac, .slice rb s.body.length rbc] rfl rfl ?c1 ?c2 (by decide) ?c3 ?c4 ?c5 (w3.heap.size + 1) (by simp) ?_)
    case c1 => exact World.news_of_block (cs := #[.int .i64 s.kind, .string s.name, .slice rr s.refs.length rc, .slice ra s.attrs.length rac, .slice rb s.body.length rbc]) (t := 67) (fr := (0, 0)) (heap_alloc_new w3 _)
    case c2 => simp [Value.oneCell']
    case c3 => unfold maxLen; omega
    case c4 => omega
    case c5 => simp; omega
    intro gg cp w4 hown' hgrow hat hlt4
    have xa : Ext w3 (w3.alloc (.cells #[.int .i64 s.kind, .string s.name, .slice rr s.refs.length rc, .slice ra s.attrs.length rac, .slice rb s.body.length rbc] 67)) := (Ext.refl w3).alloc _
    have hrow : ∀ q, Value.ownBlock (.slice ao n c) = some q -> w.heap.size <= q := fun q hq => (HRO.out q hq).1
    have hs4 := Lib.hid ((hs3.out.ext xa).below (Below.grown (Below.refl w.heap.size _) hgrow (by simp; omega) hrow) HLT.out)
    have x4 := Lib.hid (But.grown (x03.out.alloc (.cells #[.int .i64 s.kind, .string s.name, .slice rr s.refs.length rc, .slice ra s.attrs.length rac, .slice rb s.body.length rbc] 67)) hgrow hrow)
    have hl := HLT.out
    have k1 : Kept (okB w.heap.size (.slice ao n c)) wr w4 := fun g hg hlg => by
      have hg1 := hg.1
      exact (hgrow.block g (by simp; omega) hg.2).trans ((xa.block g (by omega)).trans (x23.out.block g hlg (by omega)))
    have o1 : ∀ g, okB w.heap.size (.slice ao n c) g -> g < wr.heap.size -> okB w.heap.size (.slice (some ⟨gg, 0, none⟩) (n + 1) cp) g := fun g hg hlg => by
      refine ⟨hg.1, ?_⟩
      show some g ≠ some gg
      rcases hat with h | h
      · rw [<- h]; exact hg.2
      intro e; injection e with e; omega
    have k2 : Kept (w2.heap.size <= ·) w3 w4 := fun g hg hlg => by
      have hg : w2.heap.size <= g := hg
      exact (hgrow.block g (by simp; omega) (fun e => by have := (HRO.out g e.symm).2; omega)).trans (xa.block g hlg)
    have o2 : ∀ g, w2.heap.size <= g -> g < w3.heap.size -> okB w.heap.size (.slice (some ⟨gg, 0, none⟩) (n + 1) cp) g := fun g hg hlg => by
      have := hb.out.size
      refine ⟨by omega, ?_⟩
      show some g ≠ some gg
      intro e; injection e with e
      rcases hat with h | h
      · have := (HRO.out gg h).2; omega
      omega
    have hst4 := Lib.hid (StmsC.snoc (StmP.keep k2 o2 s _ HXS.out) rfl out _ (StmsC.keep k1 o1 out Y hst.out))
    replace hown' := Lib.hid hown'
    have hn4 : Hid (n + 1 = (out ++ [s]).length) := Lib.hid (by rw [List.length_append, <- hn.out]; rfl)
    clear k1 o1 k2 o2 hgrow hat hrow xa hlt4 hl
    go_wp2
    go_roundw
    case rel => exact ⟨some ⟨gg, 0, none⟩, n + 1, cp, out ++ [s], _, r2, f', rfl, hn4, by omega, by omega, by omega, hs4, x4, hown', hst4, hX⟩
    case measure => simp only [slen]; omega
  rw [PR.bind_err] at hX1
  have hX := Lib.hid hX1
  clear hX1 hea hs2 HTK
  refine hsm.mono ?_
  rintro e w3 ⟨rfl, x3⟩
  clear hsm
  unfold failE
  go_wp2
  exact ⟨rfl, by rw [hX.out]; exact rfl, hb.out.trans (x2.trans x3)⟩
end Go.Proofs.YtjaeedbjknejdaaGreatDoor.Pa

namespace Go.Proofs.YtjaeedbjknejdaaGreatDoor.Pa
open Go.RowKit Go.Sort Go.Lib Go.Shelf Fx Lx Tr
theorem size_stm : (Tryz.prog.info? 67).map (·.size) = some 5 := by kernel_rfl
theorem isT_true {kd : Int} {x : List UInt8} {r : List Tok} (h : isT kd x r = true) : (peekT r).kind = kd /\ (peekT r).text = x := by
  cases r with
  | nil => cases h
  | cons t r =>
    unfold isT at h
    rw [Bool.and_eq_true] at h
    exact ⟨of_decide_eq_true h.1, of_decide_eq_true h.2⟩
theorem but_heap {pb : Nat} {w w' : World} {o : Obj} {b : Nat} (x : But pb w w') (h : w.heap[b]? = some o) (hb : b ≠ pb) : w'.heap[b]? = some o :=
  (x.block b (Array.getElem?_eq_some_iff.1 h).1 hb).trans h
theorem five_cells {w : World} {c0 c1 c2 c3 c4 : Value} {b : Nat} {T : TypeId} (h : w.heap[b]? = some (.cells #[c0, c1, c2, c3, c4] T (0, 0))) :
    w.cell? ⟨b, 0, none⟩ = some c0 /\ w.cell? ⟨b, 1, none⟩ = some c1 /\ w.cell? ⟨b, 2, none⟩ = some c2 /\ w.cell? ⟨b, 3, none⟩ = some c3 /\ w.cell? ⟨b, 4, none⟩ = some c4 /\
      w.frozen? ⟨b, 0, none⟩ = false /\ w.frozen? ⟨b, 1, none⟩ = false /\ w.frozen? ⟨b, 2, none⟩ = false /\ w.frozen? ⟨b, 3, none⟩ = false /\ w.frozen? ⟨b, 4, none⟩ = false := by
  refine ⟨?_, ?_, ?_, ?_, ?_, Lib.frozen_of_heap h 0, Lib.frozen_of_heap h 1, Lib.frozen_of_heap h 2, Lib.frozen_of_heap h 3, Lib.frozen_of_heap h 4⟩ <;> rw [Lib.cell_of_heap h] <;> rfl
theorem set_five {w : World} {c0 c1 c2 c3 c4 : Value} {b : Nat} {T : TypeId} (h : w.heap[b]? = some (.cells #[c0, c1, c2, c3, c4] T (0, 0))) (d0 d1 d2 d3 d4 : Value) :
    (((((w.setCell ⟨b, 0, none⟩ d0).setCell ⟨b, 1, none⟩ d1).setCell ⟨b, 2, none⟩ d2).setCell ⟨b, 3, none⟩ d3).setCell ⟨b, 4, none⟩ d4).heap[b]? = some (.cells #[d0, d1, d2, d3, d4] T (0, 0)) :=
  setOne (setOne (setOne (setOne (setOne h 0 d0) 1 d1) 2 d2) 3 d3) 4 d4
theorem fin_five {pb : Nat} {a : Option Addr} {cap : Nat} {T : List Tok} {ar : ByteArray} {dep : Int} {r : List Tok} {w w6 : World} (hs : PSt pb a cap T ar dep r w6) (x : But pb w w6) (b : Nat) (hp : pb < b) (hw : w.heap.size <= b) (d0 d1 d2 d3 d4 : Value) :
    PSt pb a cap T ar dep r (((((w6.setCell ⟨b, 0, none⟩ d0).setCell ⟨b, 1, none⟩ d1).setCell ⟨b, 2, none⟩ d2).setCell ⟨b, 3, none⟩ d3).setCell ⟨b, 4, none⟩ d4) /\
    But pb w (((((w6.setCell ⟨b, 0, none⟩ d0).setCell ⟨b, 1, none⟩ d1).setCell ⟨b, 2, none⟩ d2).setCell ⟨b, 3, none⟩ d3).setCell ⟨b, 4, none⟩ d4) /\
    ∀ g, g ≠ b -> (((((w6.setCell ⟨b, 0, none⟩ d0).setCell ⟨b, 1, none⟩ d1).setCell ⟨b, 2, none⟩ d2).setCell ⟨b, 3, none⟩ d3).setCell ⟨b, 4, none⟩ d4).heap[g]? = w6.heap[g]? := by
  refine ⟨(((((hs.far (p := ⟨b, 0, none⟩) hp d0).far (p := ⟨b, 1, none⟩) hp d1).far (p := ⟨b, 2, none⟩) hp d2).far (p := ⟨b, 3, none⟩) hp d3).far (p := ⟨b, 4, none⟩) hp d4),
    but_far (but_far (but_far (but_far (but_far x (p := ⟨b, 0, none⟩) hw d0) (p := ⟨b, 1, none⟩) hw d1) (p := ⟨b, 2, none⟩) hw d2) (p := ⟨b, 3, none⟩) hw d3) (p := ⟨b, 4, none⟩) hw d4, fun g hg => ?_⟩
  rw [Below.heap_setCell _ _ _ _ hg, Below.heap_setCell _ _ _ _ hg, Below.heap_setCell _ _ _ _ hg, Below.heap_setCell _ _ _ _ hg, Below.heap_setCell _ _ _ _ hg]
theorem stm_set (pb : Nat) (a : Option Addr) (cap : Nat) (T : List Tok) (ar : ByteArray) (dep : Int) (r : List Tok) (w : World) (h : PSt pb a cap T ar dep r w) (hi : isT 2 kSet r = true) :
    Calls Tryz.prog 161 #[.pointer (some ⟨pb, 0, none⟩)] w fun e w' =>
      POut pb a cap T ar dep (fun s u w' => StmV (w.heap.size <= ·) s u w') (pSet (lastL T) r.tail) e w' /\ But pb w w' := by
  obtain ⟨X, hX⟩ : ∃ X, X = pSet (lastL T) r.tail := ⟨_, rfl⟩
  rw [<- hX]
  have hx0 := (Ext.refl w).alloc (.cells #[.int .i64 0, .string ⟨#[]⟩, .slice none 0 0, .slice none 0 0, .slice none 0 0] 67)
  have hw0 := heap_alloc_new w (.cells #[.int .i64 0, .string ⟨#[]⟩, .slice none 0 0, .slice none 0 0, .slice none 0 0] 67)
  have hpk := peek_st pb a cap T ar dep r _ (h.ext hx0)
  obtain ⟨e1, e2⟩ := isT_true hi
  generalize hpt : peekT r = t at *
  obtain ⟨tk, tx, tn, tl⟩ := t
  dsimp only at e1 e2
  subst e1; subst e2
  unfold tokV at hpk
  dsimp only at hpk
  have htk := fun w1 (x : PSt pb a cap T ar dep r w1) => take_l pb a cap T ar dep r 2 (by decide) ⟨#[115, 101, 116]⟩ kSet rfl w1 x
  rw [hi, if_pos rfl] at htk
  have HS := Lib.hid h; have HLT := Lib.hid h.lt; have HPK := Lib.hid hpk; have HTK := Lib.hid htk; have HX := Lib.hid hX; have HX0 := Lib.hid hx0; have HW0 := Lib.hid hw0
  clear hpt h hpk htk hX hx0 hw0 hi
  unfold kSet at HPK
  go_enter Tryz.func161, Tryz.ntmps161
  go_wp2_with (first
    | (go_at_call 159; refine HPK.out.mono ?_; rintro e w1 ⟨rfl, x1⟩; have hcl := tok_cells w1 2 ⟨#[115, 101, 116]⟩ tn tl; have x1' := Lib.hid x1)
    | (go_at_call 100; refine (HTK.out _ (HS.out.ext (HX0.out.trans (x1'.out.alloc _)))).mono ?_; rintro e w2 ⟨rfl, hs2, x2⟩; clear hcl))
  have x02 := (But.of (HX0.out.trans (x1'.out.alloc (.cells #[.int .i64 2, .string ⟨#[115, 101, 116]⟩, .int .i64 tn, .int .i64 tl] 220)))).trans x2
  have hh2 := but_heap x2 ((x1'.out.alloc (.cells #[.int .i64 2, .string ⟨#[115, 101, 116]⟩, .int .i64 tn, .int .i64 tl] 220)).block _ (by simp) |>.trans HW0.out) (by have := HLT.out; omega)
  clear x1 x1' x2 HTK HPK HX0 HW0 HS
  have hX1 := HX.out
  unfold pSet at hX1
  have hn1 := name_any pb a cap T ar dep r.tail w2 hs2
  rcases hq : pName (lastL T) r.tail with ⟨nm, r3⟩ | ⟨ln, er⟩ <;> rw [hq] at hn1 hX1 <;> clear hq HX hs2
  · rw [PR.bind_ok] at hX1
    have HX := Lib.hid hX1
    have X02 := Lib.hid x02
    have HH2 := Lib.hid hh2
    clear hX1 x02 hh2
    refine hn1.mono ?_
    rintro e w3 ⟨⟨_, rfl, rfl, hs3⟩, x3⟩
    clear hn1
    have X03 := Lib.hid (X02.out.trans x3)
    have HH3 := Lib.hid (but_heap x3 HH2.out (by have := HLT.out; omega))
    have HS3 := Lib.hid hs3
    clear X02 HH2 x3 hs3
    go_wp2_with fail
    have xa := (Ext.refl w3).alloc (.cells #[.int .i64 4, .string nm, .slice none 0 0, .slice none 0 0, .slice none 0 0] 67)
    have ha5 := heap_alloc_new w3 (.cells #[.int .i64 4, .string nm, .slice none 0 0, .slice none 0 0, .slice none 0 0] 67)
    have hn1 := mark_l pb a cap T ar dep r3 ⟨#[61]⟩ [61] rfl _ (HS3.out.ext xa)
    have hX1 := HX.out
    rcases hq : pMark (lastL T) [61] r3 with ⟨u, r4⟩ | ⟨ln, er⟩ <;> rw [hq] at hn1 hX1 <;> clear hq HX
    · rw [PR.bind_ok] at hX1
      have HX := Lib.hid hX1
      clear hX1
      refine hn1.mono ?_
      rintro e w4 ⟨⟨_, rfl, rfl, hs4⟩, x4⟩
      clear hn1
      have hl3 := X03.out.size
      have hlp := HLT.out
      have hl30 := (Array.getElem?_eq_some_iff.1 HH3.out).1
      have hne5 : w3.heap.size ≠ pb := by omega
      have HNE5 := Lib.hid hne5
      have X04 := Lib.hid ((X03.out.ext xa).trans x4)
      have HH4 := Lib.hid (but_heap x4 (xa.block _ (Array.getElem?_eq_some_iff.1 HH3.out).1 |>.trans HH3.out) (by omega))
      have H54 := Lib.hid (but_heap x4 ha5 hne5)
      have hl4 := x4.size
      rw [World.size_alloc] at hl4
      clear X03 HH3 HS3 x4 xa ha5 hne5
      go_wp2_with fail
      have hn1 := value_any pb a cap T ar dep r4 w4 hs4
      have hX1 := HX.out
      rcases hq : pVal (lastL T) r4 with ⟨v, r5⟩ | ⟨ln, er⟩ <;> rw [hq] at hn1 hX1 <;> clear hq HX hs4
      · rw [PR.bind_ok] at hX1
        have HX := Lib.hid hX1
        clear hX1
        refine hn1.mono ?_
        rintro e w5 ⟨⟨_, rfl, rfl, hs5⟩, x5⟩
        clear hn1
        have hl5 := x5.size
        have X05 := Lib.hid (X04.out.trans x5)
        have HH5 := Lib.hid (but_heap x5 HH4.out (by omega))
        have h55 := but_heap x5 H54.out HNE5.out
        clear X04 HH4 H54 x5
        have ya := (Ext.refl w5).alloc (.cells #[.string ⟨#[]⟩, .string v] 69)
        have hya := heap_alloc_new w5 (.cells #[.string ⟨#[]⟩, .string v] 69)
        have h55a := ya.block _ (Array.getElem?_eq_some_iff.1 h55).1 |>.trans h55
        obtain ⟨z0, z1, z2, z3, z4, g0, g1, g2, g3, g4⟩ := five_cells h55a
        have HYA := Lib.hid hya
        have H55A := Lib.hid h55a
        have HS5 := Lib.hid hs5
        have YA := Lib.hid ya
        clear h55 ya hya h55a hs5
        go_wp2_with fail
        clear z0 z1 z2 z3 z4 g0 g1 g2 g3 g4
        have b5 := setOne H55A.out 3 (.slice (some ⟨w5.heap.size, 0, none⟩) 1 1)
        have b0 := (Below.heap_setCell (w5.alloc (.cells #[.string ⟨#[]⟩, .string v] 69)) ⟨w3.heap.size, 3, none⟩ (.slice (some ⟨w5.heap.size, 0, none⟩) 1 1) w.heap.size (by show w.heap.size ≠ w3.heap.size; omega)).trans ((YA.out.block _ (Array.getElem?_eq_some_iff.1 HH5.out).1).trans HH5.out)
        have ba := (Below.heap_setCell (w5.alloc (.cells #[.string ⟨#[]⟩, .string v] 69)) ⟨w3.heap.size, 3, none⟩ (.slice (some ⟨w5.heap.size, 0, none⟩) 1 1) w5.heap.size (by show w5.heap.size ≠ w3.heap.size; omega)).trans HYA.out
        have hs5' := (HS5.out.ext YA.out).far (p := ⟨w3.heap.size, 3, none⟩) (by show pb < w3.heap.size; omega) (.slice (some ⟨w5.heap.size, 0, none⟩) 1 1)
        have x05' := but_far (X05.out.ext YA.out) (p := ⟨w3.heap.size, 3, none⟩) (by show w.heap.size <= w3.heap.size; omega) (.slice (some ⟨w5.heap.size, 0, none⟩) 1 1)
        have hn1 := mark_l pb a cap T ar dep r5 ⟨#[59]⟩ [59] rfl _ hs5'
        have hX1 := HX.out
        rcases hq : pMark (lastL T) [59] r5 with ⟨u, r6⟩ | ⟨ln, er⟩ <;> rw [hq] at hn1 hX1 <;> clear hq HX hs5' HS5
        · rw [PR.bind_ok] at hX1
          have HX := Lib.hid hX1
          clear hX1
          refine hn1.mono ?_
          rintro e w6 ⟨⟨_, rfl, rfl, hs6⟩, x6⟩
          clear hn1
          have k5 := but_heap x6 b5 HNE5.out
          have k0 := but_heap x6 b0 (by omega)
          have KA := Lib.hid (but_heap x6 ba (by omega))
          have X06 := Lib.hid (x05'.trans x6)
          have HS6 := Lib.hid hs6
          have hl6 := x6.size
          have HZ := Lib.hid (set_five k0 (.int .i64 4) (.string nm) (.slice none 0 0) (.slice (some ⟨w5.heap.size, 0, none⟩) 1 1) (.slice none 0 0))
          obtain ⟨z0, z1, z2, z3, z4, g0, g1, g2, g3, g4⟩ := five_cells k5
          obtain ⟨y0, y1, y2, y3, y4, f0, f1, f2, f3, f4⟩ := five_cells k0
          have hlw := X05.out.size
          clear k5 k0 b5 b0 ba x05' x6 hs6 X05 HH5 HYA H55A YA hl6
          have z0' : w6.cell? ⟨w3.heap.size, 0, none⟩ = some (.int .i64 4) := z0
          have z1' : w6.cell? ⟨w3.heap.size, 1, none⟩ = some (.string nm) := z1
          have z2' : w6.cell? ⟨w3.heap.size, 2, none⟩ = some (.slice none 0 0) := z2
          have z3' : w6.cell? ⟨w3.heap.size, 3, none⟩ = some (.slice (some ⟨w5.heap.size, 0, none⟩) 1 1) := z3
          have z4' : w6.cell? ⟨w3.heap.size, 4, none⟩ = some (.slice none 0 0) := z4
          clear z0 z1 z2 z3 z4
          go_wp2
          refine bodyPost_ret (results_cell_row rfl _ _ w.heap.size 67 #[.int .i64 4, .string nm, .slice none 0 0, .slice (some ⟨w5.heap.size, 0, none⟩) 1 1, .slice none 0 0] (0, 0) _ rfl HZ.out Tryz.underlying67 rfl size_stm) rfl ?_
          obtain ⟨F1, F2, F3⟩ := fin_five HS6.out X06.out w.heap.size hlp (Nat.le_refl _) (.int .i64 4) (.string nm) (.slice none 0 0) (.slice (some ⟨w5.heap.size, 0, none⟩) 1 1) (.slice none 0 0)
          have kz := (F3 w5.heap.size (by omega)).trans KA.out
          rw [HX.out]
          refine ⟨⟨_, rfl, ⟨[.int .i64 4, .string nm, .slice none 0 0, .slice (some ⟨w5.heap.size, 0, none⟩) 1 1, .slice none 0 0], rfl, ?_⟩, F1⟩, F2⟩
          rw [StmP]
          refine ⟨none, 0, some ⟨w5.heap.size, 0, none⟩, 1, none, 0, rfl, fun k hk => absurd hk (by simp), fun k hk => ?_, by rw [StmsP]; trivial, by simp, by simp, by simp, by decide, by simp⟩
          have hk0 : k = 0 := by simpa using hk
          subst hk0
          refine ⟨w5.heap.size, 0, rfl, by show w.heap.size <= w5.heap.size; omega, ?_, ?_⟩ <;> rw [Lib.cell_of_heap kz] <;> rfl
        rw [PR.bind_err] at hX1
        have HX := Lib.hid hX1
        clear hX1
        refine hn1.mono ?_
        rintro e w6 ⟨rfl, x6⟩
        clear hn1
        unfold failE
        go_wp2
        exact ⟨rfl, by rw [HX.out]; exact rfl, x05'.trans x6⟩
      rw [PR.bind_err] at hX1
      have HX := Lib.hid hX1
      clear hX1
      refine hn1.mono ?_
      rintro e w5 ⟨rfl, x5⟩
      clear hn1
      unfold failE
      go_wp2
      exact ⟨rfl, by rw [HX.out]; exact rfl, X04.out.trans x5⟩
    rw [PR.bind_err] at hX1
    have HX := Lib.hid hX1
    clear hX1
    refine hn1.mono ?_
    rintro e w4 ⟨rfl, x4⟩
    clear hn1
    unfold failE
    go_wp2
    exact ⟨rfl, by rw [HX.out]; exact rfl, (X03.out.ext xa).trans x4⟩
  rw [PR.bind_err] at hX1
  have HX := Lib.hid hX1
  have X02 := Lib.hid x02
  clear hX1 x02 hh2
  refine hn1.mono ?_
  rintro e w3 ⟨rfl, x3⟩
  clear hn1
  unfold failE
  go_wp2
  exact ⟨rfl, by rw [HX.out]; exact rfl, X02.out.trans x3⟩
end Go.Proofs.YtjaeedbjknejdaaGreatDoor.Pa

namespace Go.Proofs.YtjaeedbjknejdaaGreatDoor.Pa
open Go.RowKit Go.Sort Go.Lib Go.Shelf Fx Lx Tr
theorem isT_other {x y : List UInt8} {r : List Tok} (h : isT 2 x r = true) (hxy : x ≠ y) : isT 2 y r = false := by
  obtain ⟨e1, e2⟩ := isT_true h
  rw [isT_peek 2 y r (by decide), e2, decide_eq_false hxy, Bool.and_false]
theorem stm_clus (pb : Nat) (a : Option Addr) (cap : Nat) (T : List Tok) (ar : ByteArray) (f : Nat) (hB : BlockC pb a cap T ar f) (dep : Nat) (hdep : dep <= 6) (r : List Tok) (hf : 2 * r.length <= f + 1) (w : World) (h : PSt pb a cap T ar dep r w) (hi : isT 2 kClus r = true) :
    Calls Tryz.prog 161 #[.pointer (some ⟨pb, 0, none⟩)] w fun e w' =>
      POut pb a cap T ar dep (fun s u w' => StmV (w.heap.size <= ·) s u w') ((pName (lastL T) r.tail).bind fun n r => (pBlock (lastL T) ar.data.toList f (dep + 1) r).bind fun b r => PR.ok (Stm.mk 5 n [] [] b) r) e w' /\ But pb w w' := by
  obtain ⟨X, hX⟩ : ∃ X, X = (pName (lastL T) r.tail).bind fun n r => (pBlock (lastL T) ar.data.toList f (dep + 1) r).bind fun b r => PR.ok (Stm.mk 5 n [] [] b) r := ⟨_, rfl⟩
  rw [<- hX]
  have hx0 := (Ext.refl w).alloc (.cells #[.int .i64 0, .string ⟨#[]⟩, .slice none 0 0, .slice none 0 0, .slice none 0 0] 67)
  have hw0 := heap_alloc_new w (.cells #[.int .i64 0, .string ⟨#[]⟩, .slice none 0 0, .slice none 0 0, .slice none 0 0] 67)
  have hpk := peek_st pb a cap T ar dep r _ (h.ext hx0)
  obtain ⟨e1, e2⟩ := isT_true hi
  have htk := fun w1 (x : PSt pb a cap T ar dep r w1) => take_l pb a cap T ar dep r 2 (by decide) ⟨#[99, 108, 117, 115, 116, 101, 114]⟩ kClus rfl w1 x
  rw [hi, if_pos rfl] at htk
  have hts := fun w1 (x : PSt pb a cap T ar dep r w1) => take_l pb a cap T ar dep r 2 (by decide) ⟨#[115, 101, 116]⟩ kSet rfl w1 x
  rw [isT_other hi (by decide), if_neg (by decide)] at hts
  have hl0 := isT_cons hi
  generalize hpt : peekT r = t at *
  obtain ⟨tk, tx, tn, tl⟩ := t
  dsimp only at e1 e2
  subst e1; subst e2
  unfold tokV at hpk
  dsimp only at hpk
  have HS := Lib.hid h; have HLT := Lib.hid h.lt; have HPK := Lib.hid hpk; have HTK := Lib.hid htk; have HTS := Lib.hid hts; have HX := Lib.hid hX; have HX0 := Lib.hid hx0; have HW0 := Lib.hid hw0; have HB := Lib.hid hB
  clear hpt h hpk htk hts hX hx0 hw0 hi hB
  unfold kClus at HPK
  go_enter Tryz.func161, Tryz.ntmps161
  go_wp2_with (first
    | (go_at_call 159; refine HPK.out.mono ?_; rintro e w1 ⟨rfl, x1⟩; have hcl := tok_cells w1 2 ⟨#[99, 108, 117, 115, 116, 101, 114]⟩ tn tl; have x1' := Lib.hid x1)
    | (go_at_call 100; refine (HTK.out _ hs2.out).mono ?_; rintro e w3 ⟨rfl, hs3, x3⟩; replace hs3 := Lib.hid hs3; replace x3 := Lib.hid x3)
    | (go_at_call 100; refine (HTS.out _ (HS.out.ext (HX0.out.trans (x1'.out.alloc _)))).mono ?_; rintro e w2 ⟨rfl, hs2, x2⟩; clear hcl; replace hs2 := Lib.hid hs2; replace x2 := Lib.hid x2))
  have x23 := x2.out.trans x3.out
  have x03 := (But.of (HX0.out.trans (x1'.out.alloc (.cells #[.int .i64 2, .string ⟨#[99, 108, 117, 115, 116, 101, 114]⟩, .int .i64 tn, .int .i64 tl] 220)))).trans x23
  have hh3 := but_heap x23 ((x1'.out.alloc (.cells #[.int .i64 2, .string ⟨#[99, 108, 117, 115, 116, 101, 114]⟩, .int .i64 tn, .int .i64 tl] 220)).block _ (by simp) |>.trans HW0.out) (by have := HLT.out; omega)
  have hs3' := hs3.out
  clear x1 x1' x2 x3 x23 HTK HTS HPK HX0 HW0 HS hs2 hs3
  have hX1 := HX.out
  have hn1 := name_any pb a cap T ar dep r.tail w3 hs3'
  rcases hq : pName (lastL T) r.tail with ⟨nm, r4⟩ | ⟨ln, er⟩ <;> rw [hq] at hn1 hX1
  · have hl4 := pName_len hq
    clear hq HX hs3'
    rw [PR.bind_ok] at hX1
    have HX := Lib.hid hX1
    clear hX1
    refine hn1.mono ?_
    rintro e w4 ⟨⟨_, rfl, rfl, hs4⟩, x4⟩
    clear hn1
    have hlp := HLT.out
    have X04 := Lib.hid (x03.trans x4)
    have HH4 := Lib.hid (but_heap x4 hh3 (by omega))
    have hl40 := (Array.getElem?_eq_some_iff.1 HH4.out).1
    have hbk : Calls Tryz.prog 102 #[.pointer (some ⟨pb, 0, none⟩), .int .i64 1] w4 fun e w' =>
        POut pb a cap T ar dep (fun L u w' => StmsV (w4.heap.size <= ·) L u w') (pBlock (lastL T) ar.data.toList f (dep + 1) r4) e w' /\ But pb w4 w' := HB.out dep 1 r4 w4 hdep (Nat.le_refl _) (by omega) hs4
    clear x03 hh3 x4 hs4
    go_wp2_with fail
    have hX1 := HX.out
    rcases hq : pBlock (lastL T) ar.data.toList f (dep + 1) r4 with ⟨L, r5⟩ | ⟨ln, er⟩ <;> rw [hq] at hbk hX1 <;> clear hq HX
    · rw [PR.bind_ok] at hX1
      have HX := Lib.hid hX1
      clear hX1
      refine hbk.mono ?_
      rintro e w5 ⟨⟨_, rfl, ⟨lb, lc, rfl, hsp, hlc1, hlc2⟩, hs5⟩, x5⟩
      clear hbk
      have hl5 := x5.size
      have X05 := Lib.hid (X04.out.trans x5)
      have k0 := but_heap x5 HH4.out (by omega)
      have HS5 := Lib.hid hs5
      have HSP := Lib.hid hsp
      have hlc1' := Lib.hid hlc1
      have hlc2' := Lib.hid hlc2
      have HZ := Lib.hid (set_five k0 (.int .i64 5) (.string nm) (.slice none 0 0) (.slice none 0 0) (.slice lb L.length lc))
      obtain ⟨y0, y1, y2, y3, y4, f0, f1, f2, f3, f4⟩ := five_cells k0
      clear k0 X04 HH4 x5 hs5 hsp hlc1 hlc2
      go_wp2
      refine bodyPost_ret (results_cell_row rfl _ _ w.heap.size 67 #[.int .i64 5, .string nm, .slice none 0 0, .slice none 0 0, .slice lb L.length lc] (0, 0) _ rfl HZ.out Tryz.underlying67 rfl size_stm) rfl ?_
      obtain ⟨F1, F2, F3⟩ := fin_five HS5.out X05.out w.heap.size hlp (Nat.le_refl _) (.int .i64 5) (.string nm) (.slice none 0 0) (.slice none 0 0) (.slice lb L.length lc)
      rw [HX.out]
      refine ⟨⟨_, rfl, ⟨[.int .i64 5, .string nm, .slice none 0 0, .slice none 0 0, .slice lb L.length lc], rfl, ?_⟩, F1⟩, F2⟩
      have hsp' := StmsP.keep (ok' := (w.heap.size <= ·)) (fun g hg _ => F3 g (by have hg : w4.heap.size <= g := hg; omega)) (fun g hg _ => by have hg : w4.heap.size <= g := hg; show w.heap.size <= g; omega) L lb HSP.out
      rw [StmP]
      exact ⟨none, 0, none, 0, lb, lc, rfl, fun k hk => absurd hk (by simp), fun k hk => absurd hk (by simp), hsp', by simp, by simp, by simp, by simp, by have := hlc1'.out; have := hlc2'.out; omega⟩
    rw [PR.bind_err] at hX1
    have HX := Lib.hid hX1
    clear hX1
    refine hbk.mono ?_
    rintro e w5 ⟨rfl, x5⟩
    clear hbk
    unfold failE
    go_wp2
    exact ⟨rfl, by rw [HX.out]; exact rfl, X04.out.trans x5⟩
  clear hq HX
  rw [PR.bind_err] at hX1
  have HX := Lib.hid hX1
  clear hX1
  refine hn1.mono ?_
  rintro e w4 ⟨rfl, x4⟩
  clear hn1
  unfold failE
  go_wp2
  exact ⟨rfl, by rw [HX.out]; exact rfl, x03.trans x4⟩
end Go.Proofs.YtjaeedbjknejdaaGreatDoor.Pa
