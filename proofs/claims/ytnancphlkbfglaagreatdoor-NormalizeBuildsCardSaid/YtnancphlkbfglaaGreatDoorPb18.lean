/- Packed texts: TreMem, NorChain, NorDoc2, LexDrop -/
import Derived.Test.YtnancphlkbfglaaGreatDoorPb01
import Derived.Test.YtnancphlkbfglaaGreatDoorPb02
import Derived.Lib.Hide
import Derived.Test.YtnancphlkbfglaaGreatDoorPb16
import Derived.Test.YtnancphlkbfglaaGreatDoorPb17
import Derived.Deep.CutRange
import Derived.Test.YtnancphlkbfglaaGreatDoorPb15
import Derived.Test.YtnancphlkbfglaaGreatDoorPb05
import Derived.Lib.Builder
import Derived.WalkKit
import Derived.BigCall
set_option linter.unusedVariables false
set_option linter.unusedSimpArgs false
namespace Go.Proofs.YtnancphlkbfglaaGreatDoor.Tr
open Go.RowKit Go.Lib Fx Lx
def TwoAt (n : Nat) (w : World) (a : Option Addr) (L : List Two) : Prop :=
  ∀ k (h : k < L.length), ∃ g o, a = some ⟨g, o, none⟩ ∧ g < n ∧ w.cell? ⟨g, o + k * 2, none⟩ = some (.string L[k].1) ∧ w.cell? ⟨g, o + k * 2 + 1, none⟩ = some (.string L[k].2)
theorem TwoAt.below {n : Nat} {w w' : World} {a : Option Addr} {L : List Two} (h : TwoAt n w a L) (x : Below n w w') : TwoAt n w' a L := fun k hk => by
  obtain ⟨g, o, ha, hg, h0, h1⟩ := h k hk
  exact ⟨g, o, ha, hg, (x.cell (p := ⟨g, o + k * 2, none⟩) hg).trans h0, (x.cell (p := ⟨g, o + k * 2 + 1, none⟩) hg).trans h1⟩
theorem TwoAt.mono {n m : Nat} {w : World} {a : Option Addr} {L : List Two} (h : TwoAt n w a L) (hm : n ≤ m) : TwoAt m w a L := fun k hk => by
  obtain ⟨g, o, ha, hg, r⟩ := h k hk
  exact ⟨g, o, ha, by omega, r⟩
theorem TwoAt.take {n : Nat} {w : World} {a : Option Addr} {L : List Two} (h : TwoAt n w a L) (i : Nat) : TwoAt n w a (L.take i) := fun k hk => by
  have hk' : k < L.length := by simp at hk; omega
  obtain ⟨g, o, ha, hg, r⟩ := h k hk'
  rw [List.getElem_take]
  exact ⟨g, o, ha, hg, r⟩
mutual
def StmAt (n : Nat) (w : World) (g o : Nat) : Stm → Prop
  | .mk k nm rs al body => ∃ r rc a ac b bc, w.cell? ⟨g, o, none⟩ = some (.int .i64 k) ∧ w.cell? ⟨g, o + 1, none⟩ = some (.string nm) ∧
      w.cell? ⟨g, o + 2, none⟩ = some (.slice r rs.length rc) ∧ w.cell? ⟨g, o + 3, none⟩ = some (.slice a al.length ac) ∧ w.cell? ⟨g, o + 4, none⟩ = some (.slice b body.length bc) ∧
      TwoAt n w r rs ∧ TwoAt n w a al ∧ StmsAt n w b body ∧ rs.length ≤ rc ∧ al.length ≤ ac ∧ rc ≤ maxLen ∧ ac ≤ maxLen ∧ body.length ≤ maxLen
def StmsAt (n : Nat) (w : World) (b : Option Addr) : List Stm → Prop
  | [] => True
  | x :: r => ∃ g o, b = some ⟨g, o, none⟩ ∧ g < n ∧ StmAt n w g o x ∧ StmsAt n w (some ⟨g, o + 5, none⟩) r
end
theorem stmsAt_cons (n : Nat) (w : World) (b : Option Addr) (x : Stm) (r : List Stm) : StmsAt n w b (x :: r) ↔ ∃ g o, b = some ⟨g, o, none⟩ ∧ g < n ∧ StmAt n w g o x ∧ StmsAt n w (some ⟨g, o + 5, none⟩) r := by rw [StmsAt]
mutual
theorem StmAt.below {n : Nat} {w w' : World} (x : Below n w w') : ∀ {g o : Nat} (s : Stm), g < n → StmAt n w g o s → StmAt n w' g o s
  | g, o, .mk k nm rs al body, hg, h => by
    rw [StmAt] at h ⊢
    obtain ⟨r, rc, a, ac, b, bc, h0, h1, h2, h3, h4, hr, ha, hb, hl⟩ := h
    exact ⟨r, rc, a, ac, b, bc, (x.cell (p := ⟨g, o, none⟩) hg).trans h0, (x.cell (p := ⟨g, o + 1, none⟩) hg).trans h1, (x.cell (p := ⟨g, o + 2, none⟩) hg).trans h2, (x.cell (p := ⟨g, o + 3, none⟩) hg).trans h3, (x.cell (p := ⟨g, o + 4, none⟩) hg).trans h4, hr.below x, ha.below x, StmsAt.below x body hb, hl⟩
theorem StmsAt.below {n : Nat} {w w' : World} (x : Below n w w') : ∀ {b : Option Addr} (L : List Stm), StmsAt n w b L → StmsAt n w' b L
  | _, [], _ => by rw [StmsAt]; trivial
  | b, s :: r, h => by
    rw [StmsAt] at h ⊢
    obtain ⟨g, o, hb, hg, hs, hr⟩ := h
    exact ⟨g, o, hb, hg, StmAt.below x s hg hs, StmsAt.below x r hr⟩
end
mutual
theorem StmAt.mono {n m : Nat} {w : World} (hm : n ≤ m) : ∀ {g o : Nat} (s : Stm), StmAt n w g o s → StmAt m w g o s
  | g, o, .mk k nm rs al body, h => by
    rw [StmAt] at h ⊢
    obtain ⟨r, rc, a, ac, b, bc, h0, h1, h2, h3, h4, hr, ha, hb, hl⟩ := h
    exact ⟨r, rc, a, ac, b, bc, h0, h1, h2, h3, h4, hr.mono hm, ha.mono hm, StmsAt.mono hm body hb, hl⟩
theorem StmsAt.mono {n m : Nat} {w : World} (hm : n ≤ m) : ∀ {b : Option Addr} (L : List Stm), StmsAt n w b L → StmsAt m w b L
  | _, [], _ => by rw [StmsAt]; trivial
  | b, s :: r, h => by
    rw [StmsAt] at h ⊢
    obtain ⟨g, o, hb, hg, hs, hr⟩ := h
    exact ⟨g, o, hb, by omega, StmAt.mono hm s hs, StmsAt.mono hm r hr⟩
end
theorem StmsAt.at {n : Nat} {w : World} : ∀ {b : Option Addr} (L : List Stm), StmsAt n w b L → ∀ k (hk : k < L.length), ∃ g o, b = some ⟨g, o, none⟩ ∧ g < n ∧ StmAt n w g (o + k * 5) L[k]
  | _, [], _, k, hk => absurd hk (by simp)
  | b, s :: r, h, 0, _ => by
    rw [StmsAt] at h
    obtain ⟨g, o, hb, hg, hs, _⟩ := h
    exact ⟨g, o, hb, hg, by rw [Nat.zero_mul, Nat.add_zero]; exact hs⟩
  | b, s :: r, h, k + 1, hk => by
    rw [StmsAt] at h
    obtain ⟨g, o, hb, hg, _, hr⟩ := h
    obtain ⟨g', o', hb', hg', hs'⟩ := StmsAt.at r hr k (by simpa using hk)
    injection hb' with hb'; injection hb' with e1 e2 _
    subst e1; subst e2
    refine ⟨g, o, hb, hg, ?_⟩
    rw [show o + (k + 1) * 5 = o + 5 + k * 5 by omega]
    exact hs'
theorem StmsAt.of {n : Nat} {w : World} : ∀ (g o : Nat) (L : List Stm), g < n → (∀ k (hk : k < L.length), StmAt n w g (o + k * 5) L[k]) → StmsAt n w (some ⟨g, o, none⟩) L
  | g, o, [], _, _ => by rw [StmsAt]; trivial
  | g, o, s :: r, hg, h => by
    rw [StmsAt]
    refine ⟨g, o, rfl, hg, (by have h0 := h 0 (Nat.zero_lt_succ _); rw [Nat.zero_mul, Nat.add_zero] at h0; exact h0), StmsAt.of g (o + 5) r hg fun k hk => ?_⟩
    have := h (k + 1) (by simpa using hk)
    rw [show o + 5 + k * 5 = o + (k + 1) * 5 by omega]
    exact this
end Go.Proofs.YtnancphlkbfglaaGreatDoor.Tr

namespace Go.Proofs.YtnancphlkbfglaaGreatDoor.Nm
open Go.RowKit Go.Sort Go.Lib Go.Shelf Fx Lx Tr At
def BlkR (w0 : World) (bb m1 m2 B : Nat) (r : Except Int St) (e : Ending) (w' : World) : Prop :=
  match r with
  | .error er => e = .returned (.int .i64 er) ∧ er ≠ 0
  | .ok S => e = .returned (.int .i64 0) ∧ BldE w0 bb m1 m2 B w' S
theorem ment_err {n : ByteArray} {p : Pl} {S : St} {er : Int} (h : ment n p S = .error er) : er = 6 := by
  unfold ment at h
  split at h
  · injection h with h; exact h.symm
  · split at h <;> cases h
theorem two_atr {n : Nat} {w : World} {a : Option Addr} {L : List Two} (h : TwoAt n w a L) : AtrIn w a L := fun k hk => by
  obtain ⟨g, o, e, _, c0, c1⟩ := h k hk
  exact ⟨g, o, e, c0, c1⟩
structure ChnAt (w0 : World) (bb m1 m2 B : Nat) (p : Pl) (own : List Two) (R : Except Int St) (rs : List Two) (m k : Nat) (w : World) (gp ge : Nat) (pn pe ov : Value) (i : Nat) (S : St) (la : Nat) (lp : ByteArray) (wr : World) : Prop where
  r : R = chainT own p (rs.drop i) (if i = 0 then none else some (la, lp)) S
  s : Sml (m + i) (k + 1) S
  b : BldE w0 bb m1 m2 B wr S
  pl : wr.heap[gp]? = some (.cells #[.int .i64 p.c, pn, pe] 71 (0, 0))
  l : wr.heap[ge]? = some (.cells #[.int .i64 la, .string lp] 80 (0, 0))
  o : AtL wr ov own
  pn : AtL wr pn p.n
  ok : i ≠ 0 → la < S.N.length ∧ lp.size ≤ 64
  kb : KeepB w wr
theorem chainT_cons (own : List Two) (p : Pl) (r : Two) (rs : List Two) (last : Option (Nat × ByteArray)) (S : St) : chainT own p (r :: rs) last S = match ment r.1 p S with
    | .error e => .error e
    | .ok (v, S) => chainT own p rs (some (v, r.2)) (match last with | none => S | some l => { S with K := S.K ++ [⟨l.1, l.2, v, r.2, own⟩] }) := rfl
theorem AtL.other {w : World} {v : Value} {L : List Two} {cs : Array Value} {E : TypeId} {g j : Nat} {u : Value} (h : AtL w v L) (hb : w.heap[g]? = some (.cells cs E (0, 0))) (h6 : E ≠ 109) : AtL (w.setCell ⟨g, j, none⟩ u) v L := h.keep (set_grown w g j u) (cel_ty hb) (nope h6.symm)
theorem ChnAt.fin {w0 : World} {bb m1 m2 B : Nat} {p : Pl} {own : List Two} {R : Except Int St} {rs : List Two} {m k : Nat} {w : World} {gp ge : Nat} {pn pe ov : Value} {i : Nat} {S3 : St} {la v : Nat} {lp pt : ByteArray} {w6 : World} (hb : BldE w0 bb m1 m2 B w6 S3)
    (pl : w6.heap[gp]? = some (.cells #[.int .i64 p.c, pn, pe] 71 (0, 0))) (l : w6.heap[ge]? = some (.cells #[.int .i64 la, .string lp] 80 (0, 0))) (o : AtL w6 ov own) (hpn : AtL w6 pn p.n) (kb : KeepB w w6) (hge : w.heap.size ≤ ge) (hx : w0.heap.size ≤ w.heap.size)
    (r : R = chainT own p (rs.drop (i + 1)) (some (v, pt)) S3) (s : Sml (m + (i + 1)) (k + 1) S3) (ok : v < S3.N.length ∧ pt.size ≤ 64) :
    ChnAt w0 bb m1 m2 B p own R rs m k w gp ge pn pe ov (i + 1) S3 v pt ((w6.setCell ⟨ge, 0, none⟩ (.int .i64 v)).setCell ⟨ge, 1, none⟩ (.string pt)) := by
  have l1 := blk_set l 0 (.int .i64 v)
  have l2 := blk_set l1 1 (.string pt)
  have hne : gp ≠ ge := fun e => by subst e; rw [pl] at l; injection l with l; injection l with _ l; exact absurd l (by decide)
  refine ⟨by rw [if_neg (by omega)]; exact r, s, ?_, ?_, l2, (o.other l (by decide)).other l1 (by decide), (hpn.other l (by decide)).other l1 (by decide), fun _ => ok, (kb.set hge).set hge⟩
  · obtain ⟨_, _, _, _, _, _, h⟩ := hb
    exact ⟨_, _, _, _, _, _, (h.other l (by omega) (by decide) (by decide) (by decide) (by decide) (by decide) (by decide)).other l1 (by omega) (by decide) (by decide) (by decide) (by decide) (by decide) (by decide)⟩
  · rw [Below.heap_setCell _ _ _ _ (show gp ≠ ge from hne), Below.heap_setCell _ _ _ _ (show gp ≠ ge from hne)]; exact pl
set_option maxHeartbeats 4000000 in
set_option maxRecDepth 100000 in
theorem chain_any (w0 : World) (bb m1 m2 B nn k : Nat) (nm : ByteArray) (rs al : List Two) (p : Pl) (pn pe : Value) (S : St) (r a b : Option Addr) (N Bn rc ac bc : Nat) (w : World) (hb : BldE w0 bb m1 m2 B w S) (hpn : AtL w pn p.n) (hpe : AtL w pe p.e)
    (hN : N = rs.length) (hr : TwoAt nn w0 r rs) (ha : TwoAt nn w0 a al) (hnn : nn ≤ w0.heap.size) (hs : Sml (10 * k) k S) (hp : SmP k p) (hk : k ≤ 512) (hrs : ∀ q ∈ rs, q.1.size ≤ 64 ∧ q.2.size ≤ 64) (hrl : rs.length ≤ 10) (hal : ∀ q ∈ al, q.1.size ≤ 64 ∧ q.2.size ≤ 64) (hll : al.length ≤ 20) :
    Calls Tryz.prog 58 #[.pointer (some ⟨bb, 0, none⟩), .agg #[.int .i64 2, .string nm, .slice r N rc, .slice a al.length ac, .slice b Bn bc], .agg #[.int .i64 p.c, pn, pe]] w fun e w' => BlkR w0 bb m1 m2 B (chainT (mrgT (p.e ++ al)) p rs none S) e w' ∧ KeepB w w' ∧ Ext w0 w' := by
  obtain ⟨R, hR⟩ : ∃ R, R = chainT (mrgT (p.e ++ al)) p rs none S := ⟨_, rfl⟩
  obtain ⟨own, ho⟩ : ∃ o, o = mrgT (p.e ++ al) := ⟨_, rfl⟩
  obtain ⟨pep, pec, rfl, hei, hez⟩ := hpe
  have hown : SmA (k + 1) own := by rw [ho]; exact hp.2.2.2.mrg hll hal
  have hx0 : Ext w0 w := by obtain ⟨_, _, _, _, _, _, h⟩ := hb; exact h.X
  have hmg := fun (w5 : World) (x : Ext w w5) => mrg0_any pep a p.e al pec ac w5 (hei.ext x) (two_atr (TwoAt.below ha ((hx0.trans x).mono hnn))) (by have := hp.2.2.2.1; omega) (by omega) (fun q hq => by
    rcases List.mem_append.1 hq with h | h
    · have := hp.2.2.2.2 q h; unfold maxLen; omega
    · have := hal q h; unfold maxLen; omega)
  rw [← ho] at hmg
  rw [← hR]
  rw [← ho] at hR
  obtain ⟨A, hA⟩ : ∃ A, A = al.length := ⟨_, rfl⟩
  obtain ⟨PE, hPE⟩ : ∃ A, A = p.e.length := ⟨_, rfl⟩
  rw [← hA, ← hPE] at hmg
  rw [← hA, ← hPE]
  have HMG := Lib.hid hmg
  have HRR := Lib.hid hR; have HB := Lib.hid hb; have HPN := Lib.hid hpn; have HTR := Lib.hid hr; have HS := Lib.hid hs; have HP := Lib.hid hp; have HRS := Lib.hid hrs; have HOW := Lib.hid hown; have HX0 := Lib.hid hx0; have HNL := Lib.hid hN; have HNN := Lib.hid hnn
  rw [← hN] at hrl
  clear hmg hR hb hpn hr ha hs hp hrs hown hx0 hal hll hA hPE hei hez ho hN hnn
  go_enter Tryz.func58, Tryz.ntmps58
  go_wp2_with (go_at_call 57; refine (HMG.out _ (((Ext.refl _).alloc _).alloc _)).mono ?_; rintro e w2 ⟨⟨oa, oc, rfl, hoi, hoz⟩, x2⟩; have HOV := Lib.hid (show AtL w2 (.slice oa own.length oc) own from ⟨oa, oc, rfl, hoi, hoz⟩); clear hoi hoz; have hbb := boxes x2; have q2 := fun ob => ((Ext.refl w2).alloc ob).cell (hbb.1 2 _ rfl))
  rw [show w.heap.size + 1 = w.heap.size + 1 from rfl]
  have hP2 := At.heap_ext (show ((w.alloc (.cells #[.int .i64 2, .string nm, .slice r N rc, .slice a A ac, .slice b Bn bc] 56)).alloc (.cells #[.int .i64 p.c, pn, .slice pep PE pec] 71)).heap[w.heap.size + 1]? = some (.cells #[.int .i64 p.c, pn, .slice pep PE pec] 71 (0, 0)) from by have h := heap_alloc_new (w.alloc (.cells #[.int .i64 2, .string nm, .slice r N rc, .slice a A ac, .slice b Bn bc] 56)) (.cells #[.int .i64 p.c, pn, .slice pep PE pec] 71); rw [World.size_alloc] at h; exact h) x2
  have xw2 : Ext w w2 := (((Ext.refl w).alloc _).alloc _).trans x2
  have hC : Hid (ChnAt w0 bb m1 m2 B p own R rs (10 * k) k w (w.heap.size + 1) w2.heap.size pn (.slice pep PE pec) (.slice oa own.length oc) 0 S 0 ⟨#[]⟩ (w2.alloc (.cells #[.int .i64 0, .string ⟨#[]⟩] 80))) := Lib.hid (by
    refine ⟨by rw [List.drop_zero, if_pos rfl]; exact HRR.out, HS.out.mono (Nat.le_refl _) (by omega), ?_, At.heap_ext hP2 ((Ext.refl _).alloc _), heap_alloc_new _ _, HOV.out.ext ((Ext.refl _).alloc _), HPN.out.ext (xw2.alloc _), fun h => absurd rfl h, KeepB.of (xw2.alloc _)⟩
    obtain ⟨_, _, _, _, _, _, h⟩ := HB.out
    exact ⟨_, _, _, _, _, _, h.ext (xw2.alloc _)⟩)
  have hsz2 : w.heap.size ≤ w2.heap.size := xw2.size
  have hsz0 : w0.heap.size ≤ w.heap.size := HX0.out.size
  obtain ⟨ge, hge⟩ : ∃ g, g = w2.heap.size := ⟨_, rfl⟩
  obtain ⟨gp, hgp⟩ : ∃ g, g = w.heap.size + 1 := ⟨_, rfl⟩
  rw [← hge, ← hgp] at hC
  have HGP := Lib.hid (show w.heap.size ≤ gp by omega); have HGE := Lib.hid (show w.heap.size ≤ ge by omega)
  clear hbb hP2 HMG HOV HB
  go_wp2_with fail
  rw [← hge, ← hgp]
  clear hge hgp hsz2 hsz0
  go_loopw [22] (fun i' wr => ∃ (i : Nat) (S' : St) (la : Nat) (lp : ByteArray), i ≤ N ∧ i' = .int .i64 i ∧ Hid (ChnAt w0 bb m1 m2 B p own R rs (10 * k) k w gp ge pn (.slice pep PE pec) (.slice oa own.length oc) i S' la lp wr)) (fun i' _ => N - (RowKit.intOf i').toNat)
  case atStart => exact ⟨0, S, 0, ⟨#[]⟩, Nat.zero_le _, rfl, hC⟩
  case round =>
    clear hC q2 x2 xw2
    obtain ⟨i, S', la, lp, hi, rfl, hC⟩ := hrel
    by_cases hlt : i < N
    · have hkl : i < rs.length := by rw [← HNL.out]; exact hlt
      have hx := hC.out.b.elim fun _ h => h.elim fun _ h => h.elim fun _ h => h.elim fun _ h => h.elim fun _ h => h.elim fun _ h => h.X
      obtain ⟨g, o, rfl, -, c0, c1⟩ := (TwoAt.below HTR.out (hx.mono HNN.out)) i hkl
      have hrr := hC.out.r
      rw [List.drop_eq_getElem_cons hkl, chainT_cons] at hrr
      obtain ⟨hs1, hs2⟩ := HRS.out _ (List.getElem_mem hkl)
      obtain ⟨n, hn⟩ : ∃ q, q = rs[i].1 := ⟨_, rfl⟩
      obtain ⟨pt, hpt⟩ : ∃ q, q = rs[i].2 := ⟨_, rfl⟩
      rw [← hn] at c0 hs1 hrr; rw [← hpt] at c1 hs2 hrr
      have hsm := hC.out.s
      have hnl := hsm.n; have hal := hsm.a
      have hmc := fun w5 (x : Ext wr w5) => ment_any w0 bb m1 m2 B n p pn (.slice pep PE pec) S' w5 (by obtain ⟨_, _, _, _, _, _, h⟩ := hC.out.b; exact ⟨_, _, _, _, _, _, h.ext x⟩) (hC.out.pn.ext x) hs1 (by omega) (by omega)
      have hme := @ment_err n p S'
      have hmo := fun v S2 => @Sml.ment (10 * k + i) (k + 1) S' hsm n p (HP.out.mono (Nat.le_succ k)) hs1 v S2
      obtain ⟨M, hM⟩ : ∃ M, M = ment n p S' := ⟨_, rfl⟩
      rw [← hM] at hrr hmc hme hmo
      have y0 := fun ob => ((Ext.refl wr).alloc ob).cell (show wr.cell? ⟨gp, 0, none⟩ = some (.int .i64 p.c) by rw [Lib.cell_of_heap hC.out.pl]; rfl)
      have y1 := fun ob => ((Ext.refl wr).alloc ob).cell (show wr.cell? ⟨gp, 1, none⟩ = some pn by rw [Lib.cell_of_heap hC.out.pl]; rfl)
      have y2 := fun ob => ((Ext.refl wr).alloc ob).cell (show wr.cell? ⟨gp, 2, none⟩ = some (.slice pep PE pec) by rw [Lib.cell_of_heap hC.out.pl]; rfl)
      have b0 : (0 : Int) ≤ (i : Int) := by omega
      have b1 : (i : Int) < (N : Int) := by omega
      have HMC := Lib.hid hmc; have HRR2 := Lib.hid hrr; have HMO := Lib.hid hmo; have HS2 := Lib.hid hs2
      have HX5 := Lib.hid hx
      cases M with
      | error er =>
        have he6 := hme rfl
        subst he6
        have hr : Hid (R = .error 6) := Lib.hid HRR2.out
        clear hmc hrr hmo hme hM hn hpt hs1 hs2 hsm hnl hal hx HRR2 HMO
        go_wp2_with (go_at_call 56; refine (HMC.out _ ((Ext.refl _).alloc _)).mono ?_; rintro e w5 ⟨⟨rfl, -⟩, kb5, x5⟩)
        go_ret
        rw [hr.out]
        exact ⟨⟨rfl, by decide⟩, (hC.out.kb.ext ((Ext.refl _).alloc _)).trans kb5, x5⟩
      | ok vs =>
        obtain ⟨v, S2⟩ := vs
        obtain ⟨g1, g2, g3, g4, g5⟩ := HMO.out v S2 rfl
        have G1 := Lib.hid g1; have G2 := Lib.hid g2; have G4 := Lib.hid g4; have G5 := Lib.hid g5
        clear hmc hrr hmo hme hM hn hpt hs1 hs2 hsm hnl hal hx HMO g1 g2 g3 g4 g5
        by_cases h0 : i = 0
        · have d1 : decide (0 < i) = false := decide_eq_false (by omega)
          have d2 : ¬ 0 < i := by omega
          have d3 : decide ((0 : Int) < (i : Int)) = false := decide_eq_false (by omega)
          have hr : Hid (R = chainT own p (rs.drop (i + 1)) (some (v, pt)) S2) := Lib.hid (by rw [HRR2.out, if_pos h0])
          have hs3 : Hid (Sml (10 * k + (i + 1)) (k + 1) S2) := Lib.hid G1.out
          clear h0 HRR2 G1
          go_wp2_with (go_at_call 56; refine (HMC.out _ ((Ext.refl _).alloc _)).mono ?_; rintro e w5 ⟨⟨rfl, hB5⟩, kb5, x5⟩; have HB5 := Lib.hid hB5; have KB5 := Lib.hid kb5; have X5 := Lib.hid x5; have rf1 : w5.cell? ⟨wr.heap.size, 1, none⟩ = some (.string pt) := (by rw [Lib.cell_of_heap (kb5.blk _ _ _ _ (heap_alloc_new wr (.cells #[.string n, .string pt] 58)) (by decide) (by decide) (by decide) (by decide) (by decide))]; rfl); have HL5 := Lib.hid (kb5.blk _ _ _ _ (At.heap_ext hC.out.l ((Ext.refl wr).alloc (.cells #[.string n, .string pt] 58))) (by decide) (by decide) (by decide) (by decide) (by decide)); have HP5 := Lib.hid (kb5.blk _ _ _ _ (At.heap_ext hC.out.pl ((Ext.refl wr).alloc (.cells #[.string n, .string pt] 58))) (by decide) (by decide) (by decide) (by decide) (by decide)); have HO5 := Lib.hid (kb5.atL (hC.out.o.ext ((Ext.refl wr).alloc (.cells #[.string n, .string pt] 58)))); have HQ5 := Lib.hid (kb5.atL (hC.out.pn.ext ((Ext.refl wr).alloc (.cells #[.string n, .string pt] 58)))); have HK5 := Lib.hid ((hC.out.kb.ext ((Ext.refl wr).alloc (.cells #[.string n, .string pt] 58))).trans kb5); have le0 := fun ob => ((Ext.refl w5).alloc ob).cell (show w5.cell? ⟨ge, 0, none⟩ = some (.int .i64 la) from (by rw [Lib.cell_of_heap HL5.out]; rfl)); have le1 := fun ob => ((Ext.refl w5).alloc ob).cell (show w5.cell? ⟨ge, 1, none⟩ = some (.string lp) from (by rw [Lib.cell_of_heap HL5.out]; rfl)); have lf : ∀ ob j, (w5.alloc ob).frozen? ⟨ge, j, none⟩ = false := fun ob j => Lib.frozen_of_heap (At.heap_ext HL5.out ((Ext.refl w5).alloc ob)) j; clear hB5 kb5 x5)
          go_roundw
          case rel => exact ⟨i + 1, S2, v, pt, by omega, by go_num, Lib.hid (ChnAt.fin (by obtain ⟨_, _, _, _, _, _, h⟩ := HB5.out; exact ⟨_, _, _, _, _, _, h.ext ((Ext.refl _).alloc _)⟩) (At.heap_ext HP5.out ((Ext.refl _).alloc _)) (At.heap_ext HL5.out ((Ext.refl _).alloc _)) (HO5.out.ext ((Ext.refl _).alloc _)) (HQ5.out.ext ((Ext.refl _).alloc _)) (HK5.out.ext ((Ext.refl _).alloc _)) HGE.out HX0.out.size hr.out hs3.out ⟨G2.out, HS2.out⟩)⟩
          case measure => simp [RowKit.intOf]; omega
        · have d1 : decide (0 < i) = true := decide_eq_true (by omega)
          have d2 : 0 < i := by omega
          have d3 : decide ((0 : Int) < (i : Int)) = true := decide_eq_true (by omega)
          obtain ⟨hla, hlp⟩ := hC.out.ok h0
          obtain ⟨S3, hS3⟩ : ∃ S3 : St, S3 = { S2 with K := S2.K ++ [⟨la, lp, v, pt, own⟩] } := ⟨_, rfl⟩
          have hr : Hid (R = chainT own p (rs.drop (i + 1)) (some (v, pt)) S3) := Lib.hid (by rw [HRR2.out, if_neg h0, hS3])
          have hs3 : Hid (Sml (10 * k + (i + 1)) (k + 1) S3) := Lib.hid (by
            have g1 := G1.out
            have hl := hC.out.s.l
            rw [hS3]
            refine ⟨g1.n, g1.a, g1.c, ?_, g1.at', fun x hx => ?_, g1.nn, g1.cc⟩
            · show (S2.K ++ _).length ≤ _
              rw [G4.out]; simp; omega
            · rcases List.mem_append.1 hx with hx | hx
              · exact g1.kt x hx
              · rw [List.mem_singleton.1 hx]
                exact ⟨HOW.out, by show la < S2.N.length; have := G5.out; omega, G2.out, hlp, HS2.out⟩)
          have hv3 : Hid (v < S3.N.length) := Lib.hid (by rw [hS3]; exact G2.out)
          have HS3 := Lib.hid hS3
          have hkl2 : Hid (S2.K.length ≤ 10 * k + i) := Lib.hid (by rw [G4.out]; exact hC.out.s.l)
          clear h0 HRR2 G1 hla hlp hS3
          go_wp2_with (go_at_call 56; refine (HMC.out _ ((Ext.refl _).alloc _)).mono ?_; rintro e w5 ⟨⟨rfl, hB5⟩, kb5, x5⟩; have HB5 := Lib.hid hB5; have KB5 := Lib.hid kb5; have X5 := Lib.hid x5; have rf1 : w5.cell? ⟨wr.heap.size, 1, none⟩ = some (.string pt) := (by rw [Lib.cell_of_heap (kb5.blk _ _ _ _ (heap_alloc_new wr (.cells #[.string n, .string pt] 58)) (by decide) (by decide) (by decide) (by decide) (by decide))]; rfl); have HL5 := Lib.hid (kb5.blk _ _ _ _ (At.heap_ext hC.out.l ((Ext.refl wr).alloc (.cells #[.string n, .string pt] 58))) (by decide) (by decide) (by decide) (by decide) (by decide)); have HP5 := Lib.hid (kb5.blk _ _ _ _ (At.heap_ext hC.out.pl ((Ext.refl wr).alloc (.cells #[.string n, .string pt] 58))) (by decide) (by decide) (by decide) (by decide) (by decide)); have HO5 := Lib.hid (kb5.atL (hC.out.o.ext ((Ext.refl wr).alloc (.cells #[.string n, .string pt] 58)))); have HQ5 := Lib.hid (kb5.atL (hC.out.pn.ext ((Ext.refl wr).alloc (.cells #[.string n, .string pt] 58)))); have HK5 := Lib.hid ((hC.out.kb.ext ((Ext.refl wr).alloc (.cells #[.string n, .string pt] 58))).trans kb5); have le0 := fun ob => ((Ext.refl w5).alloc ob).cell (show w5.cell? ⟨ge, 0, none⟩ = some (.int .i64 la) from (by rw [Lib.cell_of_heap HL5.out]; rfl)); have le1 := fun ob => ((Ext.refl w5).alloc ob).cell (show w5.cell? ⟨ge, 1, none⟩ = some (.string lp) from (by rw [Lib.cell_of_heap HL5.out]; rfl)); have lf : ∀ ob j, (w5.alloc ob).frozen? ⟨ge, j, none⟩ = false := fun ob j => Lib.frozen_of_heap (At.heap_ext HL5.out ((Ext.refl w5).alloc ob)) j; clear hB5 kb5 x5)
          obtain ⟨nv5, av5, cv5, lv5, aw5, ks5, hb5⟩ := HB5.out
          obtain ⟨lb, lc, rfl, -, -⟩ := row_val hb5.K
          obtain ⟨w6, hw6⟩ : ∃ w6, w6 = w5.alloc (.cells #[.int .i64 v, .string pt] 80) := ⟨_, rfl⟩
          have x6 : Ext w5 w6 := by rw [hw6]; exact (Ext.refl _).alloc _
          have hn6 : w6.heap[w5.heap.size]? = some (.cells #[.int .i64 v, .string pt] 80 (0, 0)) := by rw [hw6]; exact heap_alloc_new _ _
          rw [← hw6]
          have HB6 := Lib.hid (hb5.ext x6); have HN6 := Lib.hid hn6
          have HL6 := Lib.hid (At.heap_ext HL5.out x6); have HP6 := Lib.hid (At.heap_ext HP5.out x6); have HO6 := Lib.hid (HO5.out.ext x6); have HQ6 := Lib.hid (HQ5.out.ext x6); have HK6 := Lib.hid (HK5.out.ext x6)
          have a5 := HB6.out.cells.2.2.2.2.2
          have a5a := fun ob => (HB6.out.ext ((Ext.refl w6).alloc ob)).cells.2.2.2.2.2
          have l0 : w6.cell? ⟨ge, 0, none⟩ = some (.int .i64 la) := by rw [Lib.cell_of_heap HL6.out]; rfl
          have l1 : w6.cell? ⟨ge, 1, none⟩ = some (.string lp) := by rw [Lib.cell_of_heap HL6.out]; rfl
          have n0 : w6.cell? ⟨w5.heap.size, 0, none⟩ = some (.int .i64 v) := by rw [Lib.cell_of_heap hn6]; rfl
          have n1 : w6.cell? ⟨w5.heap.size, 1, none⟩ = some (.string pt) := by rw [Lib.cell_of_heap hn6]; rfl
          obtain ⟨j0, hj, hjz0, hjz1, hjz2⟩ := info_parts info_lnk
          have hrl2 := hrl; have hk2 := hk; have hi2 := hi
          clear hw6 x6 hn6 hb5 le0 le1 lf HB5 HL5 HP5 HO5 HQ5 HK5 rf1
          go_cut [44] from 44 to 56 (fun s44 wx => s44 = .pointer (some ⟨bb, 0, none⟩) ∧ Hid (BldE w0 bb m1 m2 B wx S3) ∧ Hid (KeepB w6 wx))
          case first =>
            go_region_law (first
              | (refine step_append_lies _ (by rfl) _ _ 66 (by rfl) B 82 j0 _ 5 72 Tryz.underlying66 hj hjz0 hjz1 hjz2 rfl (by decide) _ _ _ (by rfl) (At.own_ext HB6.out.K (((Ext.refl w6).alloc _).drew)) ⟨w6.heap.size, 0, none⟩ 1 1 [.int .i64 la, .string lp, .int .i64 v, .string pt, .slice oa own.length oc] (by rfl) (by rfl) (World.news_of_block (cs := #[.int .i64 la, .string lp, .int .i64 v, .string pt, .slice oa own.length oc]) (t := 82) (fr := (0, 0)) (heap_alloc_new w6 _)) (by intro u hu; simp at hu; rcases hu with rfl | rfl | rfl | rfl | rfl <;> rfl) (by omega) (by have := hkl2.out; unfold maxLen; omega) (by have := hkl2.out; omega) (by have := HB6.out.Z; simp; omega) _ rfl ?_
                 intro g7 c7 w7 hown1 hgrow hat2 hlt2
                 have HB7 := Lib.hid (HB6.out.ext (((Ext.refl w6).alloc (.cells #[.int .i64 la, .string lp, .int .i64 v, .string pt, .slice oa own.length oc] 82)).drew))
                 have hS7 := HB7.out.midS hgrow (row_ty (At.own_ext HB6.out.K (((Ext.refl w6).alloc _).drew))) (by decide)
                 have e7 : w7.cell? ⟨bb, 5, none⟩ = some (.slice lb S2.K.length lc) := by rw [Lib.cell_of_heap hS7]; rfl
                 have f7 : w7.frozen? ⟨bb, 5, none⟩ = false := Lib.frozen_of_heap hS7 5
                 have FIN := Lib.hid (HB7.out.appK (v := .slice oa own.length oc) ⟨la, lp, v, pt, own⟩ rfl (HO6.out.ext (((Ext.refl w6).alloc _).drew)) hown1 hgrow)
                 clear hown1 hgrow hat2 hlt2 hS7))
            all_goals go_wp2
            all_goals go_meet
            all_goals first
              | exact ⟨rfl, Lib.hid (by rw [HS3.out]; exact ⟨_, _, _, _, _, _, FIN.out.1⟩), Lib.hid ((KeepB.of (((Ext.refl w6).alloc _).drew)).trans FIN.out.2)⟩
              | exact ⟨rfl, Lib.hid (by rw [HS3.out]; exact ⟨_, _, _, _, _, _, FIN.out.1.ext ((Ext.refl _).drew)⟩), Lib.hid (((KeepB.of (((Ext.refl w6).alloc _).drew)).trans FIN.out.2).ext ((Ext.refl _).drew))⟩
          case rest =>
            obtain ⟨rfl, HB8, HK8⟩ := hcut
            have HN8 := Lib.hid (HK8.out.blk _ _ _ _ HN6.out (by decide) (by decide) (by decide) (by decide) (by decide))
            have HL8 := Lib.hid (HK8.out.blk _ _ _ _ HL6.out (by decide) (by decide) (by decide) (by decide) (by decide))
            have HP8 := Lib.hid (HK8.out.blk _ _ _ _ HP6.out (by decide) (by decide) (by decide) (by decide) (by decide))
            have HO8 := Lib.hid (HK8.out.atL HO6.out)
            have HQ8 := Lib.hid (HK8.out.atL HQ6.out)
            have HK9 := Lib.hid (HK6.out.trans HK8.out)
            have l0' : wc.cell? ⟨ge, 0, none⟩ = some (.int .i64 la) := by rw [Lib.cell_of_heap HL8.out]; rfl
            have l1' : wc.cell? ⟨ge, 1, none⟩ = some (.string lp) := by rw [Lib.cell_of_heap HL8.out]; rfl
            have lf : ∀ j, wc.frozen? ⟨ge, j, none⟩ = false := fun j => Lib.frozen_of_heap HL8.out j
            have n0' : wc.cell? ⟨w5.heap.size, 0, none⟩ = some (.int .i64 v) := by rw [Lib.cell_of_heap HN8.out]; rfl
            have n1' : wc.cell? ⟨w5.heap.size, 1, none⟩ = some (.string pt) := by rw [Lib.cell_of_heap HN8.out]; rfl
            clear a5 a5a l0 l1 n0 n1
            go_wp2
            go_roundw
            case rel => exact ⟨i + 1, S3, v, pt, by omega, by go_num, Lib.hid (ChnAt.fin HB8.out HP8.out HL8.out HO8.out HQ8.out HK9.out HGE.out HX0.out.size hr.out hs3.out ⟨hv3.out, HS2.out⟩)⟩
            case measure => simp [RowKit.intOf]; omega
    · have hr : Hid (R = .ok S') := Lib.hid (by rw [hC.out.r, List.drop_eq_nil_of_le (by rw [← HNL.out]; omega)]; unfold chainT; rfl)
      go_wp2
      go_ret
      rw [hr.out]
      obtain ⟨_, _, _, _, _, _, h⟩ := hC.out.b
      exact ⟨⟨rfl, _, _, _, _, _, _, h⟩, hC.out.kb, h.X⟩
end Go.Proofs.YtnancphlkbfglaaGreatDoor.Nm

namespace Go.Proofs.YtnancphlkbfglaaGreatDoor.Nm
open Go.RowKit Go.Sort Go.Lib Fx Lx Tr At
theorem DocE.ext {w0 : World} {bb B : Nat} {nm : ByteArray} {dir : Bool} {w w2 : World} {S : St} {E : Int} (h : DocE w0 bb B nm dir w S E) (x : Ext w w2) : DocE w0 bb B nm dir w2 S E := by
  obtain ⟨_, _, _, _, _, _, h⟩ := h
  exact ⟨_, _, _, _, _, _, h.ext x⟩
theorem DocE.X {w0 : World} {bb B : Nat} {nm : ByteArray} {dir : Bool} {w : World} {S : St} {E : Int} (h : DocE w0 bb B nm dir w S E) : Ext w0 w := by
  obtain ⟨_, _, _, _, _, _, h⟩ := h
  exact h.X
def DocS (w0 : World) (bb B : Nat) (nm : ByteArray) (dir : Bool) (w : World) (r : Except Int St) : Prop :=
  match r with
  | .error er => er ≠ 0 ∧ ∃ S, DocE w0 bb B nm dir w S er
  | .ok S => DocE w0 bb B nm dir w S 0
theorem DocS.ext {w0 : World} {bb B : Nat} {nm : ByteArray} {dir : Bool} {w w2 : World} {r : Except Int St} (h : DocS w0 bb B nm dir w r) (x : Ext w w2) : DocS w0 bb B nm dir w2 r := by
  cases r with
  | error er => exact ⟨h.1, h.2.elim fun S h => ⟨S, h.ext x⟩⟩
  | ok S => exact DocE.ext h x
theorem DocS.some {w0 : World} {bb B : Nat} {nm : ByteArray} {dir : Bool} {w : World} {r : Except Int St} (h : DocS w0 bb B nm dir w r) : ∃ S E, DocE w0 bb B nm dir w S E := by
  cases r with
  | error er => exact h.2.elim fun S h => ⟨S, er, h⟩
  | ok S => exact ⟨S, 0, h⟩
theorem DocS.X {w0 : World} {bb B : Nat} {nm : ByteArray} {dir : Bool} {w : World} {r : Except Int St} (h : DocS w0 bb B nm dir w r) : Ext w0 w := by
  obtain ⟨S, E, h⟩ := h.some
  exact h.X
theorem KeepD.own {w w' : World} (h : KeepD w w') {B : Nat} {T : TypeId} {sz : Nat} {v : Value} {n : Nat} {xs : List Value} (o : w.ownsRow B T sz v n xs) (h1 : T ≠ 88) (h2 : T ≠ 40) (h3 : T ≠ 54) (h4 : T ≠ 42) (h5 : T ≠ 142) : w'.ownsRow B T sz v n xs := by
  refine ⟨o.1, ?_⟩
  rcases o.2 with h0 | ⟨g, cap, cur, hv, hb, hc, r⟩
  · exact .inl h0
  · exact .inr ⟨g, cap, cur, hv, hb, h.blk _ _ _ _ hc h1 h2 h3 h4 h5, r⟩
theorem KeepD.set {a b : World} (h : KeepD a b) {g j : Nat} {u : Value} (hg : a.heap.size ≤ g) : KeepD a (b.setCell ⟨g, j, none⟩ u) :=
  ⟨by have := h.size; simpa [World.setCell] using this, fun k cs E fl e h1 h2 h3 h4 h5 => by
    rw [Below.heap_setCell _ _ _ _ (show k ≠ g from fun e2 => by have := (Array.getElem?_eq_some_iff.1 e).1; omega)]
    exact h.blk k cs E fl e h1 h2 h3 h4 h5⟩
theorem Doc.other {w0 w : World} {bb B : Nat} {nm : ByteArray} {dir : Bool} {nv av cv lv : Value} {aw : List Value} {ks : List (Lk × Value)} {S : St} {E : Int} (h : Doc w0 bb B nm dir w nv av cv lv aw ks S E) {cs : Array Value} {T : TypeId} {g j : Nat} {u : Value} (hb : w.heap[g]? = some (.cells cs T (0, 0))) (hg : w0.heap.size ≤ g)
    (h1 : T ≠ 88) (h2 : T ≠ 40) (h3 : T ≠ 54) (h4 : T ≠ 42) (h5 : T ≠ 142) (h6 : T ≠ 109) : Doc w0 bb B nm dir (w.setCell ⟨g, j, none⟩ u) nv av cv lv aw ks S E := by
  have hs := set_grown w g j u
  have ht := cel_ty hb
  exact ⟨cel_keep h.blk hs ht (nope h1.symm), row_keep h.N hs ht (nope h2.symm), row_keep h.A hs ht (nope h3.symm), row_keep h.C hs ht (nope h4.symm), row_keep h.K hs ht (nope h5.symm), h.At.keep hs ht (nope h6.symm), h.Kl, h.Kt.keep hs ht (nope h6.symm), ext_grown h.X hs (fun k e => by injection e with e; subst e; exact hg), Nat.le_trans h.Z hs.size, h.lo⟩
def MenR (RM : Except Int (List Nat × St)) (p : Pl) (rs : List Two) (i : Nat) (l : List Nat) (S : St) (E : Int) : Prop :=
  (E = 0 → RM = match menL p (rs.drop i) S with
    | .error e => .error e
    | .ok q => .ok (l ++ q.1, q.2)) ∧ (E ≠ 0 → RM = .error E)
theorem MenR.start (p : Pl) (rs : List Two) (S : St) : MenR (menL p rs S) p rs 0 [] S 0 := ⟨fun _ => by rw [List.drop_zero]; cases menL p rs S <;> rfl, fun h => absurd rfl h⟩
theorem MenR.step {RM : Except Int (List Nat × St)} {p : Pl} {rs : List Two} {i : Nat} {l : List Nat} {S : St} (h : MenR RM p rs i l S 0) (hi : i < rs.length) : MenR RM p rs (i + 1) (l ++ [(mentS rs[i].1 p S).1]) (mentS rs[i].1 p S).2 (mentE rs[i].1 S 0) := by
  have h0 := h.1 rfl
  rw [List.drop_eq_getElem_cons hi] at h0
  unfold menL at h0
  refine ⟨fun he => ?_, fun he => ?_⟩
  · rw [mentE_ok he] at h0
    rw [h0]
    dsimp only
    cases menL p (rs.drop (i + 1)) (mentS rs[i].1 p S).2 with
    | error e => rfl
    | ok q => simp
  · rw [mentE_err he] at h0
    exact h0
theorem MenR.done {RM : Except Int (List Nat × St)} {p : Pl} {rs : List Two} {l : List Nat} {S : St} (h : MenR RM p rs rs.length l S 0) : RM = .ok (l, S) := by
  have h0 := h.1 rfl
  rw [List.drop_length] at h0
  rw [h0]
  unfold menL
  simp
def LnkR (T K : List Lk) (own : List Two) (rs : List Two) (l : List Nat) (i : Nat) : Prop := K ++ lnkL own (some (l.getD (i - 1) 0, (rs.getD (i - 1) (⟨#[]⟩, ⟨#[]⟩)).2)) (rs.drop i) (l.drop i) = T
theorem LnkR.start (K : List Lk) (own : List Two) (rs : List Two) (l : List Nat) (hl : l.length = rs.length) : LnkR (K ++ lnkL own none rs l) K own rs l 1 := by
  unfold LnkR
  cases rs with
  | nil =>
    have : l = [] := List.eq_nil_of_length_eq_zero hl
    subst this; simp [lnkL]
  | cons r rs =>
    cases l with
    | nil => simp at hl
    | cons v l => simp [lnkL]
theorem LnkR.step {T K : List Lk} {own : List Two} {rs : List Two} {l : List Nat} {i : Nat} (h : LnkR T K own rs l i) (hl : l.length = rs.length) (h1 : 1 ≤ i) (hi : i < rs.length) :
    LnkR T (K ++ [⟨l[i - 1]'(by omega), (rs[i - 1]'(by omega)).2, l[i]'(by omega), rs[i].2, own⟩]) own rs l (i + 1) := by
  have hil : i < l.length := by omega
  unfold LnkR at h ⊢
  rw [List.drop_eq_getElem_cons hi, List.drop_eq_getElem_cons hil] at h
  unfold lnkL at h
  dsimp only at h
  have g0 : l.getD (i - 1) 0 = l[i - 1]'(by omega) := by rw [List.getD_eq_getElem?_getD, List.getElem?_eq_getElem (by omega)]; rfl
  have g1 : rs.getD (i - 1) (⟨#[]⟩, ⟨#[]⟩) = rs[i - 1]'(by omega) := by rw [List.getD_eq_getElem?_getD, List.getElem?_eq_getElem (by omega)]; rfl
  have g2 : l.getD i 0 = l[i] := by rw [List.getD_eq_getElem?_getD, List.getElem?_eq_getElem hil]; rfl
  have g3 : rs.getD i (⟨#[]⟩, ⟨#[]⟩) = rs[i] := by rw [List.getD_eq_getElem?_getD, List.getElem?_eq_getElem hi]; rfl
  rw [g0, g1] at h
  rw [Nat.add_sub_cancel, g2, g3, List.append_assoc]
  exact h
theorem LnkR.done {T K : List Lk} {own : List Two} {rs : List Two} {l : List Nat} {i : Nat} (h : LnkR T K own rs l i) (hi : rs.length ≤ i) : T = K := by
  unfold LnkR at h
  rw [List.drop_eq_nil_of_le hi] at h
  rw [← h]; unfold lnkL; simp
theorem chain_edges {own : List Two} {p : Pl} {rs : List Two} {S S' : St} {l : List Nat} (h : menL p rs S = .ok (l, S')) : chainT own p rs none S = .ok { S' with K := S'.K ++ lnkL own none rs l } := by rw [chain_doc, h]
theorem chain_err {own : List Two} {p : Pl} {rs : List Two} {S : St} {e : Int} (h : menL p rs S = .error e) : chainT own p rs none S = .error e := by rw [chain_doc, h]
end Go.Proofs.YtnancphlkbfglaaGreatDoor.Nm

namespace Go.Proofs.YtnancphlkbfglaaGreatDoor.Lx
open Go.RowKit Go.Sort Go.Lib Go.Shelf Fx
theorem ne_facts {x k : Int} (h : x ≠ k) : (x == k) = false ∧ (x != k) = true := by
  have : (x == k) = false := by rw [beq_eq_false_iff_ne]; exact h
  exact ⟨this, by rw [bne, this]; rfl⟩
theorem eq_facts {x k : Int} (h : x = k) : (x == k) = true ∧ (x != k) = false := by
  have : (x == k) = true := by rw [beq_iff_eq]; exact h
  exact ⟨this, by rw [bne, this]; rfl⟩
end Go.Proofs.YtnancphlkbfglaaGreatDoor.Lx
