/- Packed texts: TreEql, TrePar, TreRtp -/
import Derived.Test.YtnjnfkfmkbnkhaaGreatDoorPa34
import Derived.Test.YtnjnfkfmkbnkhaaGreatDoorPa27
import Derived.Test.YtnjnfkfmkbnkhaaGreatDoorPa23
import Derived.Test.YtnjnfkfmkbnkhaaGreatDoorPa22
import Derived.Test.YtnjnfkfmkbnkhaaGreatDoorPa14
set_option linter.unusedVariables false
set_option linter.unusedSimpArgs false
/- What the tree's equal and Equal return. -/
namespace Go.Proofs.YtnjnfkfmkbnkhaaGreatDoor.Tr
open Go.RowKit Go.Sort Go.Lib Go.Shelf Fx Lx

theorem eqb_mk (k k' : Int) (n n' : ByteArray) (r r' a a' : List Two) (b b' : List Stm) :
    eqb (Stm.mk k n r a b) (Stm.mk k' n' r' a' b') = ((k == k') && (n.toList == n'.toList) && eqb r r' && eqb a a' && eqb b b') := by
  rw [Bool.eq_iff_iff]
  simp only [Bool.and_eq_true, eqb_iff, Stm.mk.injEq, beq_iff_eq, beqs, decide_eq_true_eq, and_assoc]
set_option maxHeartbeats 4000000 in
set_option maxRecDepth 100000 in
theorem equalS_any (k k' : Int) (nm nm' : ByteArray) (rs rs' al al' : List Two) (body body' : List Stm) (r r' a a' b b' : Option Addr) (rc rc' ac ac' bc bc' : Nat) (w : World)
    (hr : TwoIn w r rs) (hr' : TwoIn w r' rs') (ha : TwoIn w a al) (ha' : TwoIn w a' al') (hrl : rs.length ≤ 9223372036854775807) (hal : al.length ≤ 9223372036854775807)
    (hb : ∀ w', Ext w w' → Calls Tryz.prog 29 #[.slice b body.length bc, .slice b' body'.length bc', .func (.func 30) #[] #[]] w' fun e w'' => e = .returned (.bool (eqb body body')) ∧ Ext w' w'') :
    Calls Tryz.prog 30 #[.agg #[.int .i64 k, .string nm, .slice r rs.length rc, .slice a al.length ac, .slice b body.length bc], .agg #[.int .i64 k', .string nm', .slice r' rs'.length rc', .slice a' al'.length ac', .slice b' body'.length bc']] w fun e w' => e = .returned (.bool (eqb (Stm.mk k nm rs al body) (Stm.mk k' nm' rs' al' body'))) ∧ Ext w w' := by
  rw [eqb_mk]
  have hx : Ext w ((w.alloc (.cells #[.int .i64 k, .string nm, .slice r rs.length rc, .slice a al.length ac, .slice b body.length bc] 47)).alloc (.cells #[.int .i64 k', .string nm', .slice r' rs'.length rc', .slice a' al'.length ac', .slice b' body'.length bc'] 47)) := ((Ext.refl w).alloc _).alloc _
  have hc1 := fun w1 (x : Ext ((w.alloc (.cells #[.int .i64 k, .string nm, .slice r rs.length rc, .slice a al.length ac, .slice b body.length bc] 47)).alloc (.cells #[.int .i64 k', .string nm', .slice r' rs'.length rc', .slice a' al'.length ac', .slice b' body'.length bc'] 47)) w1) => stm_cells w k nm r a b rs.length al.length body.length rc ac bc w1 (((Ext.refl _).alloc _).trans x)
  have hc2 := stm_cells (w.alloc (.cells #[.int .i64 k, .string nm, .slice r rs.length rc, .slice a al.length ac, .slice b body.length bc] 47)) k' nm' r' a' b' rs'.length al'.length body'.length rc' ac' bc'
  rw [World.size_alloc] at hc2
  have h3 := fun w' (x : Ext w w') => equal_ref r r' rs rs' rc rc' w' (hr.ext x) (hr'.ext x) hrl
  have h4 := fun w' (x : Ext w w') => equal_attr a a' al al' ac ac' w' (ha.ext x) (ha'.ext x) hal
  generalize eqb rs rs' = c3 at *
  generalize eqb al al' = c4 at *
  generalize eqb body body' = c5 at *
  generalize rs.length = R at *
  generalize rs'.length = R' at *
  generalize al.length = A at *
  generalize al'.length = A' at *
  generalize body.length = B at *
  generalize body'.length = B' at *
  have HC1 := Lib.hid hc1; have HC2 := Lib.hid hc2; have H3 := Lib.hid h3; have H4 := Lib.hid h4; have H5 := Lib.hid hb; have HX := Lib.hid hx
  obtain ⟨p0, p1, p2, p3, p4⟩ := hc1 _ (Ext.refl _)
  obtain ⟨q0, q1, q2, q3, q4⟩ := hc2 _ (Ext.refl _)
  clear hc1 hc2 h3 h4 hb hr hr' ha ha' hrl hal hx
  cases g1 : (k == k')
  · go_enter Tryz.func30, Tryz.ntmps30
    go_wp2
    go_returns
    exact ⟨rfl, HX.out⟩
  cases g2 : (nm.toList == nm'.toList)
  · go_enter Tryz.func30, Tryz.ntmps30
    go_wp2
    go_returns
    exact ⟨rfl, HX.out⟩
  cases c3
  · go_enter Tryz.func30, Tryz.ntmps30
    go_wp2_with (go_at_call 47; refine (H3.out _ HX.out).mono ?_; rintro e w1 ⟨rfl, x1⟩; obtain ⟨p0, p1, p2, p3, p4⟩ := HC1.out _ x1; obtain ⟨q0, q1, q2, q3, q4⟩ := HC2.out _ x1)
    go_returns
    exact ⟨rfl, HX.out.trans x1⟩
  cases c4
  · go_enter Tryz.func30, Tryz.ntmps30
    go_wp2_with (first
      | (go_at_call 47; refine (H3.out _ HX.out).mono ?_; rintro e w1 ⟨rfl, x1⟩; obtain ⟨p0, p1, p2, p3, p4⟩ := HC1.out _ x1; obtain ⟨q0, q1, q2, q3, q4⟩ := HC2.out _ x1)
      | (go_at_call 48; refine (H4.out _ (HX.out.trans x1)).mono ?_; rintro e w2 ⟨rfl, x2⟩; obtain ⟨p0, p1, p2, p3, p4⟩ := HC1.out _ (x1.trans x2); obtain ⟨q0, q1, q2, q3, q4⟩ := HC2.out _ (x1.trans x2)))
    go_returns
    exact ⟨rfl, (HX.out.trans x1).trans x2⟩
  · go_enter Tryz.func30, Tryz.ntmps30
    go_wp2_with (first
      | (go_at_call 47; refine (H3.out _ HX.out).mono ?_; rintro e w1 ⟨rfl, x1⟩; obtain ⟨p0, p1, p2, p3, p4⟩ := HC1.out _ x1; obtain ⟨q0, q1, q2, q3, q4⟩ := HC2.out _ x1)
      | (go_at_call 48; refine (H4.out _ (HX.out.trans x1)).mono ?_; rintro e w2 ⟨rfl, x2⟩; obtain ⟨p0, p1, p2, p3, p4⟩ := HC1.out _ (x1.trans x2); obtain ⟨q0, q1, q2, q3, q4⟩ := HC2.out _ (x1.trans x2))
      | (go_at_call 29; refine (H5.out _ ((HX.out.trans x1).trans x2)).mono ?_; rintro e w3 ⟨rfl, x3⟩))
    go_returns
    exact ⟨rfl, ((HX.out.trans x1).trans x2).trans x3⟩
set_option maxHeartbeats 4000000 in
set_option maxRecDepth 100000 in
theorem equalL_any : ∀ (K : Nat) (L M : List Stm) (a b : Option Addr) (ca cb n : Nat) (w : World), sizeL L ≤ K → K ≤ 1048576 → n ≤ w.heap.size → StmsAt n w a L → StmsAt n w b M →
    Calls Tryz.prog 29 #[.slice a L.length ca, .slice b M.length cb, .func (.func 30) #[] #[]] w fun e w' => e = .returned (.bool (eqb L M)) ∧ Ext w w' := by
  intro K
  induction K using Nat.strongRecOn with
  | _ K ih =>
  intro L M a b ca cb n w hK hmax hn hL hM
  by_cases hne : L.length = M.length
  · obtain ⟨V, hV⟩ : ∃ V, V = eqb L M := ⟨_, rfl⟩
    rw [← hV]
    have HV : Hid (V = eqb (L.drop 0) (M.drop 0)) := Lib.hid hV
    obtain ⟨N, hN⟩ : ∃ N, N = L.length := ⟨_, rfl⟩
    have hNM : N ≤ 1048576 := by have := sizeL_len L; omega
    rw [← hN] at hne ⊢
    rw [← hne]
    have HN := Lib.hid hN; have HMN := Lib.hid hne; have HL := Lib.hid hL; have HM := Lib.hid hM; have HK := Lib.hid hK; have HMX := Lib.hid hmax; have HNW := Lib.hid hn; have HIH := Lib.hid ih
    clear hV hN hL hM hne hK hmax hn ih
    go_enter Tryz.func29, Tryz.ntmps29
    go_wp2
    go_loopw [17] (fun i' wr => ∃ k : Nat, k ≤ N ∧ i' = .int .i64 k ∧ Ext w wr ∧ Hid (V = eqb (L.drop k) (M.drop k))) (fun i' _ => N - (RowKit.intOf i').toNat)
    case atStart => exact ⟨0, by omega, rfl, Ext.refl _, HV⟩
    case round =>
      obtain ⟨k, hk, rfl, hx, hb⟩ := hrel
      clear HV
      by_cases hlt : k < N
      · have hkl : k < L.length := by rw [← HN.out]; exact hlt
        have hkm : k < M.length := by rw [← HMN.out]; exact hlt
        have hbn : Below n w wr := Below.mono hx HNW.out
        obtain ⟨g, o, rfl, hg, hst⟩ := StmsAt.at L (StmsAt.below hbn L HL.out) k hkl
        obtain ⟨g2, o2, rfl, hg2, hst2⟩ := StmsAt.at M (StmsAt.below hbn M HM.out) k hkm
        have hsz : sizeS L[k] ≤ K := Nat.le_trans (sizeL_at L k hkl) HK.out
        have hbv := hb.out
        rw [List.drop_eq_getElem_cons hkl, List.drop_eq_getElem_cons hkm, eqb_cons] at hbv
        obtain ⟨s, hs⟩ : ∃ s, s = L[k] := ⟨_, rfl⟩
        obtain ⟨s2, hs2⟩ : ∃ s, s = M[k] := ⟨_, rfl⟩
        rw [← hs] at hst hsz hbv
        rw [← hs2] at hst2 hbv
        clear hs hs2 hb
        obtain ⟨kind, nm, rs, al, body⟩ := s
        obtain ⟨kind2, nm2, rs2, al2, body2⟩ := s2
        have hbd := sizeS_body (.mk kind nm rs al body)
        simp only [Stm.body, Stm.name, Stm.refs, Stm.attrs] at hbd
        rw [StmAt] at hst hst2
        obtain ⟨r, rc, a', atc, b', bc, c0, c1, c2, c3, c4, hr, ha, hbs, hl1, hl2, hl3, hl4, hl5⟩ := hst
        obtain ⟨r2, rc2, a2, atc2, b2, bc2, d0, d1, d2, d3, d4, hr2, ha2, hbs2, hm1, hm2, hm3, hm4, hm5⟩ := hst2
        have hx2 : Ext wr ((wr.alloc (.cells #[.int .i64 kind, .string nm, .slice r rs.length rc, .slice a' al.length atc, .slice b' body.length bc] 47)).alloc (.cells #[.int .i64 kind2, .string nm2, .slice r2 rs2.length rc2, .slice a2 al2.length atc2, .slice b2 body2.length bc2] 47)) := ((Ext.refl wr).alloc _).alloc _
        have hx1 : Ext wr (wr.alloc (.cells #[.int .i64 kind, .string nm, .slice r rs.length rc, .slice a' al.length atc, .slice b' body.length bc] 47)) := (Ext.refl wr).alloc _
        have e0 := hx1.cell d0; have e1 := hx1.cell d1; have e2 := hx1.cell d2; have e3 := hx1.cell d3; have e4 := hx1.cell d4
        obtain ⟨p0, p1, p2, p3, p4⟩ := stm_cells wr kind nm r a' b' rs.length al.length body.length rc atc bc _ ((Ext.refl _).alloc (.cells #[.int .i64 kind2, .string nm2, .slice r2 rs2.length rc2, .slice a2 al2.length atc2, .slice b2 body2.length bc2] 47))
        have hq := stm_cells (wr.alloc (.cells #[.int .i64 kind, .string nm, .slice r rs.length rc, .slice a' al.length atc, .slice b' body.length bc] 47)) kind2 nm2 r2 a2 b2 rs2.length al2.length body2.length rc2 atc2 bc2 _ (Ext.refl _)
        rw [World.size_alloc] at hq
        obtain ⟨q0, q1, q2, q3, q4⟩ := hq
        have hwn : n ≤ wr.heap.size := Nat.le_trans HNW.out hx.size
        have hcall := equalS_any kind kind2 nm nm2 rs rs2 al al2 body body2 r r2 a' a2 b' b2 rc rc2 atc atc2 bc bc2 _ (hr.in.ext hx2) (hr2.in.ext hx2) (ha.in.ext hx2) (ha2.in.ext hx2) (by have := sizeTwo_len rs; have := HMX.out; omega) (by have := sizeTwo_len al; have := HMX.out; omega)
          (fun w' x => HIH.out (sizeL body) (by omega) body body2 b' b2 bc bc2 n w' (Nat.le_refl _) (by have := HMX.out; omega) (by have h := (hx2.trans x).size; omega) (StmsAt.below (Below.mono (hx2.trans x) hwn) body hbs) (StmsAt.below (Below.mono (hx2.trans x) hwn) body2 hbs2))
        generalize eqb (Stm.mk kind nm rs al body) (Stm.mk kind2 nm2 rs2 al2 body2) = cc at hbv hcall
        have HC := Lib.hid hcall
        clear hcall hbd hsz hr ha hbs hl1 hl2 hl3 hl4 hl5 hr2 ha2 hbs2 hm1 hm2 hm3 hm4 hm5 hg hg2 hx1 hbn
        generalize rs.length = R at *
        generalize rs2.length = R2 at *
        generalize al.length = A at *
        generalize al2.length = A2 at *
        generalize body.length = B at *
        generalize body2.length = B2 at *
        cases cc
        · rw [Bool.false_and] at hbv
          have hf := Lib.hid hbv
          clear hbv
          go_wp2_with (go_at_call 30; refine HC.out.mono ?_; rintro e w5 ⟨rfl, x5⟩)
          go_returns
          exact ⟨by rw [hf.out]; rfl, (hx.trans hx2).trans x5⟩
        · rw [Bool.true_and] at hbv
          have hf := Lib.hid hbv
          clear hbv
          go_wp2_with (go_at_call 30; refine HC.out.mono ?_; rintro e w5 ⟨rfl, x5⟩)
          go_roundw
          case rel => exact ⟨k + 1, by omega, by go_num, (hx.trans hx2).trans x5, hf⟩
          case measure => simp [RowKit.intOf]; omega
      · have hf : Hid (V = true) := Lib.hid (by
          rw [hb.out, List.drop_eq_nil_of_le (by rw [← HN.out]; omega), List.drop_eq_nil_of_le (by rw [← HMN.out]; omega)]
          exact eqb_self _)
        clear hb
        go_wp2
        go_returns
        exact ⟨by rw [hf.out]; rfl, hx⟩
  · rw [eqb_len hne]
    obtain ⟨f1, f2⟩ := ne_facts (x := (L.length : Int)) (k := (M.length : Int)) (by omega)
    clear hL hM hne hK hmax hn ih
    generalize L.length = N at *
    generalize M.length = K at *
    go_enter Tryz.func29, Tryz.ntmps29
    go_wp2
    go_returns
    exact ⟨rfl, Ext.refl _⟩
/-- Whether two trees are one. -/
noncomputable def eqT (nm nm' : ByteArray) (d d' : Bool) (L M : List Stm) : Bool := (nm.toList == nm'.toList) && (d == d') && eqb L M
set_option maxHeartbeats 4000000 in
set_option maxRecDepth 100000 in
theorem equalT_any (nm nm' : ByteArray) (dir dir' : Bool) (L M : List Stm) (a b : Option Addr) (ca cb n : Nat) (w : World) (hs : sizeL L ≤ 1048576) (hn : n ≤ w.heap.size) (hL : StmsAt n w a L) (hM : StmsAt n w b M) :
    Calls Tryz.prog 14 #[.agg #[.string nm, .bool dir, .slice a L.length ca], .agg #[.string nm', .bool dir', .slice b M.length cb]] w fun e w' => e = .returned (.bool (eqT nm nm' dir dir' L M)) ∧ Ext w w' := by
  unfold eqT
  have hx : Ext w ((w.alloc (.cells #[.string nm, .bool dir, .slice a L.length ca] 24)).alloc (.cells #[.string nm', .bool dir', .slice b M.length cb] 24)) := ((Ext.refl w).alloc _).alloc _
  have hc := fun w' (x : Ext w w') => equalL_any 1048576 L M a b ca cb n w' hs (Nat.le_refl _) (by have h := x.size; omega) (StmsAt.below (Below.mono x hn) L hL) (StmsAt.below (Below.mono x hn) M hM)
  obtain ⟨p0, p1, p2⟩ := tree_cells w nm dir a L.length ca _ ((Ext.refl _).alloc (.cells #[.string nm', .bool dir', .slice b M.length cb] 24))
  have hq := tree_cells (w.alloc (.cells #[.string nm, .bool dir, .slice a L.length ca] 24)) nm' dir' b M.length cb _ (Ext.refl _)
  rw [World.size_alloc] at hq
  obtain ⟨q0, q1, q2⟩ := hq
  generalize eqb L M = c5 at *
  generalize L.length = N at *
  generalize M.length = K at *
  have HC := Lib.hid hc; have HX := Lib.hid hx
  clear hc hx hs hn hL hM
  cases g1 : (nm.toList == nm'.toList)
  · go_enter Tryz.func14, Tryz.ntmps14
    go_wp2
    go_returns
    exact ⟨rfl, HX.out⟩
  cases g2 : (dir == dir')
  · go_enter Tryz.func14, Tryz.ntmps14
    go_wp2
    go_returns
    exact ⟨rfl, HX.out⟩
  · go_enter Tryz.func14, Tryz.ntmps14
    go_wp2_with (go_at_call 29; refine (HC.out _ HX.out).mono ?_; rintro e w3 ⟨rfl, x3⟩)
    go_returns
    exact ⟨rfl, HX.out.trans x3⟩
end Go.Proofs.YtnjnfkfmkbnkhaaGreatDoor.Tr

/- The parser as a plain function on tokens, and that it reads back the tokens of a printed tree; no program in sight. -/
namespace Go.Proofs.YtnjnfkfmkbnkhaaGreatDoor.Tr
open Go.Lib Fx Lx

/-- What a part of the parser gives: a value and what is left, or a line and an error. -/
inductive PR (α : Type) where
  | ok (v : α) (r : List Tok) : PR α
  | err (ln e : Int) : PR α
def PR.bind {α β : Type} (x : PR α) (g : α → List Tok → PR β) : PR β :=
  match x with
  | .ok v r => g v r
  | .err ln e => .err ln e
theorem PR.bind_ok {α β : Type} (v : α) (r : List Tok) (g : α → List Tok → PR β) : (PR.ok v r).bind g = g v r := rfl
theorem PR.bind_err {α β : Type} (ln e : Int) (g : α → List Tok → PR β) : (PR.err ln e).bind g = .err ln e := rfl
def lineOf (last : Int) : List Tok → Int
  | t :: _ => t.line
  | [] => last
/-- The next token has this kind and this text. -/
def isT (k : Int) (x : List UInt8) : List Tok → Bool
  | t :: _ => decide (t.kind = k) && decide (t.text = x)
  | [] => false
def pMark (last : Int) (m : List UInt8) (r : List Tok) : PR Unit := if isT 5 m r = true then .ok () r.tail else .err (lineOf last r) 3
def pName (last : Int) : List Tok → PR ByteArray
  | t :: r => if t.kind = 1 then .ok ⟨t.text.toArray⟩ r else .err t.line 3
  | [] => .err last 3
def pVal (last : Int) : List Tok → PR ByteArray
  | t :: r => if t.kind = 1 ∨ t.kind = 4 then .ok ⟨t.text.toArray⟩ r else if t.kind = 3 then .ok ⟨(fmt t.n).toArray⟩ r else .err t.line 3
  | [] => .err last 3
/-- One attribute. -/
def pAttr (last : Int) (r : List Tok) : PR Two :=
  (pName last r).bind fun k r => (pMark last [61] r).bind fun _ r => (pVal last r).bind fun v r => .ok (k, v) r
/-- The attributes behind the bracket. -/
def pAttrs (last : Int) : Nat → List Two → List Tok → PR (List Two)
  | 0, _, _ => .err 0 0
  | f + 1, out, r =>
    if isT 5 [93] r = true then .ok out r.tail
    else (if out.isEmpty = true then PR.ok () r else pMark last [44] r).bind fun _ r => (pAttr last r).bind fun q r => pAttrs last f (out ++ [q]) r
def pAttrsB (last : Int) (r : List Tok) : PR (List Two) := (pMark last [91] r).bind fun _ r => pAttrs last (r.length + 1) [] r
def pOpt (last : Int) (r : List Tok) : PR (List Two) :=
  (if isT 5 [91] r = true then pAttrsB last r else .ok [] r).bind fun a r => (pMark last [59] r).bind fun _ r => .ok a r
def pPort (last : Int) (node : ByteArray) (r : List Tok) : PR Two :=
  if isT 5 [58] r = true then (pName last r.tail).bind fun p r => .ok (node, p) r else .ok (node, ⟨#[]⟩) r
def pRef (last : Int) (r : List Tok) : PR Two := (pName last r).bind fun n r => pPort last n r
def pRefs (last : Int) (ar : List UInt8) : Nat → List Two → List Tok → PR (List Two)
  | 0, _, _ => .err 0 0
  | f + 1, out, r =>
    if (decide (out.length < 2) || isT 5 ar r) = true then (pMark last ar r).bind fun _ r => (pRef last r).bind fun q r => pRefs last ar f (out ++ [q]) r
    else .ok out r
def kNode : List UInt8 := [110, 111, 100, 101]
def kEdge : List UInt8 := [101, 100, 103, 101]
def kSet : List UInt8 := [115, 101, 116]
def kClus : List UInt8 := [99, 108, 117, 115, 116, 101, 114]
/-- The chain of a statement that begins with a name. -/
def pChain (last : Int) (ar : List UInt8) (r : List Tok) : PR Stm :=
  (pName last r).bind fun n r =>
    if (isT 5 [58] r || isT 5 ar r) = false then (pOpt last r).bind fun a r => .ok (.mk 1 n [] a []) r
    else (pPort last n r).bind fun q r => (pRefs last ar (r.length + 2) [q] r).bind fun rs r => (pOpt last r).bind fun a r => .ok (.mk 2 ⟨#[]⟩ rs a []) r
def pSet (last : Int) (r : List Tok) : PR Stm :=
  (pName last r).bind fun n r => (pMark last [61] r).bind fun _ r => (pVal last r).bind fun v r => (pMark last [59] r).bind fun _ r => .ok (.mk 4 n [] [(⟨#[]⟩, v)] []) r
def pDef (last : Int) (x : List UInt8) (r : List Tok) : PR Stm :=
  (pAttrsB last r).bind fun a r => (pMark last [59] r).bind fun _ r => .ok (.mk 3 ⟨x.toArray⟩ [] a []) r
def textOf : List Tok → List UInt8
  | t :: _ => t.text
  | [] => []
mutual
def pStm (last : Int) (ar : List UInt8) : Nat → Nat → List Tok → PR Stm
  | 0, _, _ => .err 0 0
  | f + 1, dep, r =>
    if (isT 2 kNode r || isT 2 kEdge r) = true then pDef last (textOf r) r.tail
    else if isT 2 kSet r = true then pSet last r.tail
    else if isT 2 kClus r = true then (pName last r.tail).bind fun n r => (pBlock last ar f (dep + 1) r).bind fun b r => .ok (.mk 5 n [] [] b) r
    else pChain last ar r
def pBlock (last : Int) (ar : List UInt8) : Nat → Nat → List Tok → PR (List Stm)
  | 0, _, _ => .err 0 0
  | f + 1, dep, r => if isT 5 [123] r = true ∧ 6 < dep then .err (lineOf last r) 2 else (pMark last [123] r).bind fun _ r => pStms last ar f dep [] r
def pStms (last : Int) (ar : List UInt8) : Nat → Nat → List Stm → List Tok → PR (List Stm)
  | 0, _, _, _ => .err 0 0
  | f + 1, dep, out, r =>
    if isT 5 [125] r = true then .ok out r.tail
    else (pStm last ar f dep r).bind fun s r => pStms last ar f dep (out ++ [s]) r
end
/-- A whole source. -/
def pTree (last : Int) (f : Nat) (r : List Tok) : PR (Bool × ByteArray × List Stm) :=
  if isT 2 [100, 105, 103, 114, 97, 112, 104] r = true then (pName last r.tail).bind fun n r => (pBlock last [45, 62] f 0 r).bind fun b r => .ok (true, n, b) r
  else if isT 2 [103, 114, 97, 112, 104] r = true then (pName last r.tail).bind fun n r => (pBlock last [45, 45] f 0 r).bind fun b r => .ok (false, n, b) r
  else .err (lineOf last r) 3

theorem bs_mk (s : ByteArray) : (⟨s.data.toList.toArray⟩ : ByteArray) = s := by cases s; simp
theorem empty_of (s : ByteArray) (h : s.size = 0) : s = ⟨#[]⟩ := by
  apply ByteArray.ext; exact Array.eq_empty_of_size_eq_zero h
theorem pMark_mk (last : Int) (m : List UInt8) (ln : Int) (r : List Tok) : pMark last m (mk m ln :: r) = .ok () r := by
  unfold pMark isT mk
  rw [if_pos (by simp)]; rfl
theorem isT_mk (m x : List UInt8) (ln : Int) (r : List Tok) : isT 5 x (mk m ln :: r) = decide (m = x) := by unfold isT mk; simp
theorem isT_nm (x : List UInt8) (s : ByteArray) (ln : Int) (r : List Tok) : isT 5 x (nm s ln :: r) = false := by unfold isT nm; simp
theorem isT2_nm (x : List UInt8) (s : ByteArray) (ln : Int) (r : List Tok) : isT 2 x (nm s ln :: r) = false := by unfold isT nm; simp
theorem pName_nm (last : Int) (s : ByteArray) (ln : Int) (r : List Tok) : pName last (nm s ln :: r) = .ok s r := by
  unfold pName nm; dsimp only; rw [if_pos rfl, bs_mk]
theorem pVal_tok (last : Int) (s : ByteArray) (ln : Int) (r : List Tok) : pVal last (valTok s ln :: r) = .ok s r := by
  unfold pVal valTok
  dsimp only
  by_cases h1 : nameB s.data.toList = true
  · rw [if_pos h1, if_pos (.inl rfl), bs_mk]
  rw [if_neg h1]
  by_cases h2 : (parse s.data.toList).2 = 0
  · rw [if_pos h2]
    obtain ⟨e, _, _⟩ := exact_ok s.data.toList (parse s.data.toList).1 (by rw [← h2])
    rw [if_neg (show ¬ ((3 : Int) = 1 ∨ (3 : Int) = 4) by decide), if_pos rfl]
    dsimp only
    rw [e, bs_mk]
  · rw [if_neg h2, if_pos (.inr rfl), bs_mk]
theorem pAttr_tok (last ln : Int) (q : Two) (r : List Tok) : pAttr last (attrToks ln q ++ r) = .ok q r := by
  unfold pAttr attrToks
  rw [List.cons_append, pName_nm, PR.bind_ok, List.cons_append, pMark_mk, PR.bind_ok, List.cons_append, List.nil_append, pVal_tok, PR.bind_ok]
theorem sepToks_cons (m : Tok) (x : List Tok) : ∀ l : List (List Tok), sepToks m (x :: l) = x ++ l.flatMap (fun y => m :: y)
  | [] => by simp [sepToks]
  | y :: l => by
    show x ++ m :: sepToks m (y :: l) = _
    rw [sepToks_cons m y l]; simp
theorem pAttrs_rest (last ln : Int) (r : List Tok) : ∀ (a out : List Two) (f : Nat), out ≠ [] → a.length < f → pAttrs last f out ((a.map (attrToks ln)).flatMap (fun y => mk [44] ln :: y) ++ mk [93] ln :: r) = .ok (out ++ a) r
  | [], out, f + 1, _, _ => by
    show pAttrs last (f + 1) out (mk [93] ln :: r) = _
    rw [pAttrs, if_pos (by rw [isT_mk]; rfl), List.append_nil]; rfl
  | q :: a, out, f + 1, h, hf => by
    have hl : a.length < f := by simpa using hf
    show pAttrs last (f + 1) out (mk [44] ln :: (attrToks ln q ++ (a.map (attrToks ln)).flatMap (fun y => mk [44] ln :: y)) ++ mk [93] ln :: r) = _
    rw [List.cons_append, pAttrs, if_neg (by rw [isT_mk]; decide), if_neg (by simpa using h), pMark_mk, PR.bind_ok, List.append_assoc, pAttr_tok, PR.bind_ok, pAttrs_rest last ln r a (out ++ [q]) f (by simp) hl]
    simp
theorem pAttrsB_list (last ln : Int) (a : List Two) (r : List Tok) : pAttrsB last (listToks ln a ++ r) = .ok a r := by
  unfold pAttrsB listToks
  rw [List.cons_append, pMark_mk, PR.bind_ok]
  cases a with
  | nil =>
    show pAttrs last ((mk [93] ln :: r).length + 1) [] (mk [93] ln :: r) = _
    rw [pAttrs, if_pos (by rw [isT_mk]; rfl)]; rfl
  | cons q a =>
    rw [List.map_cons, sepToks_cons]
    have e : attrToks ln q ++ (a.map (attrToks ln)).flatMap (fun y => mk [44] ln :: y) ++ [mk [93] ln] ++ r = attrToks ln q ++ ((a.map (attrToks ln)).flatMap (fun y => mk [44] ln :: y) ++ mk [93] ln :: r) := by simp
    rw [e]
    have hlen : a.length < (attrToks ln q ++ ((a.map (attrToks ln)).flatMap (fun y => mk [44] ln :: y) ++ mk [93] ln :: r)).length := by
      have : ∀ l : List Two, l.length ≤ ((l.map (attrToks ln)).flatMap (fun y => mk [44] ln :: y)).length := by
        intro l
        induction l with
        | nil => simp
        | cons x l ih => simp only [List.map_cons, List.flatMap_cons, List.length_append, List.length_cons] at ih ⊢; omega
      have := this a
      simp only [List.length_append, List.length_cons] at this ⊢
      omega
    rw [pAttrs, if_neg (by unfold attrToks; rw [List.cons_append, isT_nm]; decide), if_pos (by rfl), PR.bind_ok, pAttr_tok, PR.bind_ok, List.nil_append, pAttrs_rest last ln r a [q] _ (by simp) hlen]
    rfl
theorem pOpt_tail (last ln : Int) (a : List Two) (r : List Tok) : pOpt last (tailToks ln a ++ r) = .ok a r := by
  unfold pOpt tailToks
  by_cases h : a.isEmpty = true
  · rw [if_pos h, List.nil_append, List.cons_append, List.nil_append, if_neg (by rw [isT_mk]; decide), PR.bind_ok, pMark_mk, PR.bind_ok, List.isEmpty_iff.1 h]
  · rw [if_neg h]
    have e : listToks ln a ++ [mk [59] ln] ++ r = listToks ln a ++ (mk [59] ln :: r) := by simp
    rw [e, if_pos (by unfold listToks; rw [List.cons_append, isT_mk]; rfl), pAttrsB_list, PR.bind_ok, pMark_mk, PR.bind_ok]
theorem pPort_tok (last ln : Int) (q : Two) (r : List Tok) (hr : isT 5 [58] r = false) : pPort last q.1 ((if q.2.size = 0 then [] else [mk [58] ln, nm q.2 ln]) ++ r) = .ok q r := by
  unfold pPort
  by_cases h : q.2.size = 0
  · rw [if_pos h, List.nil_append, if_neg (by rw [hr]; decide)]
    rw [show q = (q.1, q.2) from rfl, empty_of q.2 h]
  · rw [if_neg h, List.cons_append, List.cons_append, List.nil_append, if_pos (by rw [isT_mk]; rfl)]
    show (pName last (nm q.2 ln :: r)).bind _ = _
    rw [pName_nm, PR.bind_ok]
theorem pRef_tok (last ln : Int) (q : Two) (r : List Tok) (hr : isT 5 [58] r = false) : pRef last (refToks ln q ++ r) = .ok q r := by
  unfold pRef refToks
  rw [List.cons_append, pName_nm, PR.bind_ok, pPort_tok last ln q r hr]
theorem tail_colon (ln : Int) (a : List Two) (r : List Tok) (x : List UInt8) (h : x = [58] ∨ x = [45, 62] ∨ x = [45, 45]) : isT 5 x (tailToks ln a ++ r) = false := by
  unfold tailToks listToks
  by_cases h0 : a.isEmpty = true
  · rw [if_pos h0, List.nil_append, List.cons_append, isT_mk]
    rcases h with rfl | rfl | rfl <;> decide
  · rw [if_neg h0, List.cons_append, List.cons_append, isT_mk]
    rcases h with rfl | rfl | rfl <;> decide
theorem arrowM_or (d : Bool) : arrowM d = [58] ∨ arrowM d = [45, 62] ∨ arrowM d = [45, 45] := by cases d <;> simp [arrowM]
theorem pRefs_rest (last ln : Int) (d : Bool) (t : List Tok) (ht : isT 5 (arrowM d) t = false) (ht2 : isT 5 [58] t = false) : ∀ (l out : List Two) (f : Nat), 2 ≤ out.length + l.length → l.length < f →
    pRefs last (arrowM d) f out ((l.map (refToks ln)).flatMap (fun y => mk (arrowM d) ln :: y) ++ t) = .ok (out ++ l) t
  | [], out, f + 1, h, _ => by
    show pRefs last (arrowM d) (f + 1) out t = _
    rw [pRefs, ht, decide_eq_false (by simp at h; omega), if_neg (by decide), List.append_nil]
  | q :: l, out, f + 1, h, hf => by
    have hl : l.length < f := by simpa using hf
    have hcol : isT 5 [58] ((l.map (refToks ln)).flatMap (fun y => mk (arrowM d) ln :: y) ++ t) = false := by
      cases l with
      | nil => exact ht2
      | cons x l =>
        rw [List.map_cons, List.flatMap_cons, List.append_assoc, List.cons_append, isT_mk]
        cases d <;> decide
    rw [List.map_cons, List.flatMap_cons, List.append_assoc, List.cons_append, pRefs, if_pos (by rw [isT_mk]; simp), pMark_mk, PR.bind_ok, pRef_tok last ln q _ hcol, PR.bind_ok]
    rw [pRefs_rest last ln d t ht ht2 l (out ++ [q]) f (by simp at h ⊢; omega) hl]
    simp
theorem pChain_edge (last ln : Int) (d : Bool) (rs a : List Two) (r : List Tok) (h2 : 2 ≤ rs.length) :
    pChain last (arrowM d) (sepToks (mk (arrowM d) ln) (rs.map (refToks ln)) ++ (tailToks ln a ++ r)) = .ok (.mk 2 ⟨#[]⟩ rs a []) r := by
  match rs, h2 with
  | q :: q2 :: l, _ =>
    rw [List.map_cons, sepToks_cons]
    obtain ⟨t, ht⟩ : ∃ t, t = tailToks ln a ++ r := ⟨_, rfl⟩
    have h1 : isT 5 (arrowM d) t = false := by rw [ht]; exact tail_colon ln a r _ (arrowM_or d)
    have h3 : isT 5 [58] t = false := by rw [ht]; exact tail_colon ln a r _ (.inl rfl)
    rw [← ht]
    have hcol : isT 5 [58] (((q2 :: l).map (refToks ln)).flatMap (fun y => mk (arrowM d) ln :: y) ++ t) = false := by
      rw [List.map_cons, List.flatMap_cons, List.append_assoc, List.cons_append, isT_mk]
      cases d <;> decide
    have hlen : (q2 :: l).length < (((q2 :: l).map (refToks ln)).flatMap (fun y => mk (arrowM d) ln :: y) ++ t).length + 2 := by
      have : ∀ m : List Two, m.length ≤ ((m.map (refToks ln)).flatMap (fun y => mk (arrowM d) ln :: y)).length := by
        intro m
        induction m with
        | nil => simp
        | cons x m ih => simp only [List.map_cons, List.flatMap_cons, List.length_append, List.length_cons] at ih ⊢; omega
      have := this (q2 :: l)
      rw [List.length_append]
      omega
    have hrest := pRefs_rest last ln d t h1 h3 (q2 :: l) [q] _ (by simp; omega) hlen
    have hwho : (isT 5 [58] ((if q.2.size = 0 then [] else [mk [58] ln, nm q.2 ln]) ++ (((q2 :: l).map (refToks ln)).flatMap (fun y => mk (arrowM d) ln :: y) ++ t)) || isT 5 (arrowM d) ((if q.2.size = 0 then [] else [mk [58] ln, nm q.2 ln]) ++ (((q2 :: l).map (refToks ln)).flatMap (fun y => mk (arrowM d) ln :: y) ++ t))) = true := by
      by_cases h0 : q.2.size = 0
      · rw [if_pos h0, List.nil_append, List.map_cons, List.flatMap_cons, List.append_assoc, List.cons_append, isT_mk, isT_mk]; simp
      · rw [if_neg h0, List.cons_append, isT_mk]; simp
    have hport := pPort_tok last ln q _ hcol
    rw [List.append_assoc]
    generalize ((q2 :: l).map (refToks ln)).flatMap (fun y => mk (arrowM d) ln :: y) ++ t = T at *
    unfold pChain refToks
    rw [List.cons_append, pName_nm, PR.bind_ok, hwho, if_neg (by decide), hport, PR.bind_ok, hrest, PR.bind_ok, ht, pOpt_tail, PR.bind_ok]
    rfl
theorem pChain_node (last ln : Int) (d : Bool) (n : ByteArray) (a : List Two) (r : List Tok) : pChain last (arrowM d) (nm n ln :: (tailToks ln a ++ r)) = .ok (.mk 1 n [] a []) r := by
  unfold pChain
  rw [pName_nm, PR.bind_ok, tail_colon ln a r _ (.inl rfl), tail_colon ln a r _ (arrowM_or d), if_pos (by rfl), pOpt_tail, PR.bind_ok]
end Go.Proofs.YtnjnfkfmkbnkhaaGreatDoor.Tr

/- The plain parser reads back the tokens of a valid tree; different valid trees have different texts; no program in sight. -/
namespace Go.Proofs.YtnjnfkfmkbnkhaaGreatDoor.Tr
open Go.Lib Fx Lx

mutual
def fuelS : Stm → Nat
  | .mk _ _ _ _ b => 3 + fuelL b
def fuelL : List Stm → Nat
  | [] => 1
  | x :: r => 1 + fuelS x + fuelL r
end
/-- What the form says of the parts. -/
theorem form_parts (k : Int) (n : ByteArray) (r a : List Two) (b : List Stm) (h : formB (.mk k n r a b) = true) :
    (k = 1 ∧ r = [] ∧ b = []) ∨ (k = 2 ∧ n = ⟨#[]⟩ ∧ b = [] ∧ 2 ≤ r.length) ∨ (k = 3 ∧ r = [] ∧ b = [] ∧ (n.data.toList = kNode ∨ n.data.toList = kEdge)) ∨ (k = 4 ∧ r = [] ∧ b = [] ∧ ∃ v, a = [(⟨#[]⟩, v)]) ∨ (k = 5 ∧ r = [] ∧ a = []) := by
  rw [formB_mk] at h
  by_cases h1 : k = 1
  · rw [if_pos h1] at h
    simp only [Bool.and_eq_true, decide_eq_true_eq] at h
    exact .inl ⟨h1, List.eq_nil_of_length_eq_zero h.1, List.eq_nil_of_length_eq_zero h.2⟩
  rw [if_neg h1] at h
  by_cases h2 : k = 2
  · rw [if_pos h2] at h
    simp only [Bool.and_eq_true, decide_eq_true_eq] at h
    exact .inr (.inl ⟨h2, empty_of n h.1.1, List.eq_nil_of_length_eq_zero h.1.2, h.2⟩)
  rw [if_neg h2] at h
  by_cases h3 : k = 3
  · rw [if_pos h3] at h
    simp only [Bool.and_eq_true, Bool.or_eq_true, decide_eq_true_eq] at h
    exact .inr (.inr (.inl ⟨h3, List.eq_nil_of_length_eq_zero h.1.1, List.eq_nil_of_length_eq_zero h.1.2, h.2⟩))
  rw [if_neg h3] at h
  by_cases h4 : k = 4
  · rw [if_pos h4] at h
    simp only [Bool.and_eq_true, decide_eq_true_eq] at h
    refine .inr (.inr (.inr (.inl ⟨h4, List.eq_nil_of_length_eq_zero h.1.1, List.eq_nil_of_length_eq_zero h.1.2, ?_⟩)))
    have h5 := h.2
    unfold setB at h5
    split at h5
    · rename_i q
      obtain ⟨x, v⟩ := q
      have : x.size = 0 := by simpa using h5
      exact ⟨v, by rw [empty_of x this]⟩
    · exact absurd h5 (by decide)
  rw [if_neg h4] at h
  by_cases h5 : k = 5
  · rw [if_pos h5] at h
    simp only [Bool.and_eq_true, decide_eq_true_eq] at h
    exact .inr (.inr (.inr (.inr ⟨h5, List.eq_nil_of_length_eq_zero h.1, List.eq_nil_of_length_eq_zero h.2⟩)))
  · rw [if_neg h5] at h; exact absurd h (by decide)
theorem stmE_depth (k : Int) (n : ByteArray) (r a : List Two) (b : List Stm) (dep : Nat) (h : stmE (.mk k n r a b, dep) = 0) (h5 : k = 5) : dep < 6 := by
  unfold stmE at h
  dsimp only at h
  split at h
  · exact absurd h (by decide)
  · split at h
    · exact absurd h (by decide)
    · rename_i h2
      have : ¬ (k = 5 ∧ 6 ≤ dep) := h2
      omega
theorem isT2_tok (x y : List UInt8) (ln : Int) (r : List Tok) : isT 2 y (⟨2, x, 0, ln⟩ :: r) = decide (x = y) := by unfold isT; simp
theorem toksS_1 (d : Bool) (ln : Int) (n : ByteArray) (r a : List Two) (b : List Stm) : toksS d ln (.mk 1 n r a b) = nm n ln :: tailToks ln a := by rw [toksS, if_pos rfl]
theorem toksS_2 (d : Bool) (ln : Int) (n : ByteArray) (r a : List Two) (b : List Stm) : toksS d ln (.mk 2 n r a b) = sepToks (mk (arrowM d) ln) (r.map (refToks ln)) ++ tailToks ln a := by
  rw [toksS, if_neg (show ¬ (2 : Int) = 1 by decide), if_pos rfl]
theorem toksS_3 (d : Bool) (ln : Int) (n : ByteArray) (r a : List Two) (b : List Stm) : toksS d ln (.mk 3 n r a b) = ⟨2, n.data.toList, 0, ln⟩ :: (listToks ln a ++ [mk [59] ln]) := by
  rw [toksS, if_neg (show ¬ (3 : Int) = 1 by decide), if_neg (show ¬ (3 : Int) = 2 by decide), if_pos rfl]
theorem toksS_4 (d : Bool) (ln : Int) (n : ByteArray) (r a : List Two) (b : List Stm) : toksS d ln (.mk 4 n r a b) = [⟨2, [115, 101, 116], 0, ln⟩, nm n ln, mk [61] ln, valTok (a.headD (⟨#[]⟩, ⟨#[]⟩)).2 ln, mk [59] ln] := by
  rw [toksS, if_neg (show ¬ (4 : Int) = 1 by decide), if_neg (show ¬ (4 : Int) = 2 by decide), if_neg (show ¬ (4 : Int) = 3 by decide), if_pos rfl]
theorem toksS_5 (d : Bool) (ln : Int) (n : ByteArray) (r a : List Two) (b : List Stm) : toksS d ln (.mk 5 n r a b) = ⟨2, [99, 108, 117, 115, 116, 101, 114], 0, ln⟩ :: nm n ln :: mk [123] ln :: (toksL d (ln + 1) b ++ [mk [125] (ln + 1 + linesL b)]) := by
  rw [toksS, if_neg (show ¬ (5 : Int) = 1 by decide), if_neg (show ¬ (5 : Int) = 2 by decide), if_neg (show ¬ (5 : Int) = 3 by decide), if_neg (show ¬ (5 : Int) = 4 by decide)]
mutual
theorem pStm_tok (last : Int) (d : Bool) : ∀ (x : Stm) (dep : Nat) (ln : Int) (f : Nat) (t : List Tok), AllS okS x → (∀ p ∈ flatS dep x, stmE p = 0) → fuelS x ≤ f → pStm last (arrowM d) f dep (toksS d ln x ++ t) = .ok x t
  | .mk k n r a b, dep, ln, f, t, h, hv, hf => by
    rw [AllS] at h
    obtain ⟨⟨hfm, hn, _, _⟩, hb⟩ := h
    rw [fuelS] at hf
    obtain ⟨f, rfl⟩ : ∃ f', f = f' + 1 := ⟨f - 1, by omega⟩
    rw [pStm]
    rcases form_parts k n r a b hfm with ⟨rfl, rfl, rfl⟩ | ⟨rfl, rfl, rfl, h2⟩ | ⟨rfl, rfl, rfl, h3⟩ | ⟨rfl, rfl, rfl, v, rfl⟩ | ⟨rfl, rfl, rfl⟩
    · rw [toksS_1, List.cons_append, isT2_nm, isT2_nm, isT2_nm, isT2_nm, if_neg (by decide), if_neg (by decide), if_neg (by decide), pChain_node]
    · rw [toksS_2]
      have he : ∀ y : List UInt8, isT 2 y (sepToks (mk (arrowM d) ln) (r.map (refToks ln)) ++ tailToks ln a ++ t) = false := fun y => by
        match r, h2 with
        | q :: q2 :: l, _ =>
          rw [List.map_cons, sepToks_cons]
          unfold refToks
          rw [List.cons_append, List.cons_append, List.cons_append, isT2_nm]
      rw [he, he, he, he, if_neg (by decide), if_neg (by decide), if_neg (by decide), List.append_assoc, pChain_edge last ln d r a t h2]
    · rw [toksS_3, List.cons_append, isT2_tok, isT2_tok]
      have hk : (decide (n.data.toList = kNode) || decide (n.data.toList = kEdge)) = true := by
        rcases h3 with h | h <;> simp [h]
      rw [hk, if_pos rfl]
      have e : listToks ln a ++ [mk [59] ln] ++ t = listToks ln a ++ (mk [59] ln :: t) := by simp
      show pDef last n.data.toList (listToks ln a ++ [mk [59] ln] ++ t) = _
      unfold pDef
      rw [e, pAttrsB_list, PR.bind_ok, pMark_mk, PR.bind_ok, bs_mk]
    · rw [toksS_4, List.cons_append, isT2_tok, isT2_tok, isT2_tok, if_neg (by decide), if_pos (by decide)]
      show pSet last (nm n ln :: mk [61] ln :: valTok v ln :: mk [59] ln :: t) = _
      unfold pSet
      rw [pName_nm, PR.bind_ok, pMark_mk, PR.bind_ok, pVal_tok, PR.bind_ok, pMark_mk, PR.bind_ok]
    · rw [toksS_5, List.cons_append, isT2_tok, isT2_tok, isT2_tok, isT2_tok, if_neg (by decide), if_neg (by decide), if_pos (by decide)]
      show (pName last (nm n ln :: (mk [123] ln :: (toksL d (ln + 1) b ++ [mk [125] (ln + 1 + linesL b)])) ++ t)).bind _ = _
      rw [List.cons_append, pName_nm, PR.bind_ok]
      have hd := stmE_depth 5 n [] [] b dep (hv _ (by rw [flatS]; exact List.mem_cons_self)) rfl
      have hv2 : ∀ p ∈ flatL (dep + 1) b, stmE p = 0 := fun p hp => hv p (by rw [flatS, if_pos rfl]; exact List.mem_cons_of_mem _ hp)
      obtain ⟨f, rfl⟩ : ∃ f', f = f' + 1 := ⟨f - 1, by omega⟩
      rw [pBlock, if_neg (by omega), List.cons_append, pMark_mk, PR.bind_ok, List.append_assoc, List.cons_append, List.nil_append, pStms_tok last d b (dep + 1) (ln + 1) f [] (mk [125] (ln + 1 + linesL b) :: t) hb hv2 (by omega)]
      rotate_left
      · rw [isT_mk]; rfl
      rw [PR.bind_ok]
      rfl
theorem pStms_tok (last : Int) (d : Bool) : ∀ (X : List Stm) (dep : Nat) (ln : Int) (f : Nat) (out : List Stm) (t : List Tok), AllL okS X → (∀ p ∈ flatL dep X, stmE p = 0) → fuelL X ≤ f → isT 5 [125] t = true → pStms last (arrowM d) f dep out (toksL d ln X ++ t) = .ok (out ++ X) t.tail
  | [], dep, ln, f, out, t, _, _, hf, ht => by
    rw [fuelL] at hf
    obtain ⟨f, rfl⟩ : ∃ f', f = f' + 1 := ⟨f - 1, by omega⟩
    rw [toksL, List.nil_append, pStms, if_pos ht, List.append_nil]
  | x :: r, dep, ln, f, out, t, h, hv, hf, ht => by
    rw [fuelL] at hf
    rw [AllL] at h
    obtain ⟨f, rfl⟩ : ∃ f', f = f' + 1 := ⟨f - 1, by omega⟩
    have hv1 : ∀ p ∈ flatS dep x, stmE p = 0 := fun p hp => hv p (by rw [flatL]; exact List.mem_append_left _ hp)
    have hv2 : ∀ p ∈ flatL dep r, stmE p = 0 := fun p hp => hv p (by rw [flatL]; exact List.mem_append_right _ hp)
    have hne : isT 5 [125] (toksS d ln x ++ (toksL d (ln + linesS x) r ++ t)) = false := by
      obtain ⟨k, n, rs, a, b⟩ := x
      have hfm := h.1
      rw [AllS] at hfm
      rcases form_parts k n rs a b hfm.1.1 with ⟨rfl, rfl, rfl⟩ | ⟨rfl, rfl, rfl, h2⟩ | ⟨rfl, rfl, rfl, h3⟩ | ⟨rfl, rfl, rfl, v, rfl⟩ | ⟨rfl, rfl, rfl⟩
      · rw [toksS_1, List.cons_append, isT_nm]
      · rw [toksS_2]
        match rs, h2 with
        | q :: q2 :: l, _ =>
          rw [List.map_cons, sepToks_cons]
          unfold refToks
          rw [List.cons_append, List.cons_append, List.cons_append, isT_nm]
      · rw [toksS_3, List.cons_append]; rfl
      · rw [toksS_4, List.cons_append]; rfl
      · rw [toksS_5, List.cons_append]; rfl
    rw [toksL, List.append_assoc, pStms, hne, if_neg (by decide), pStm_tok last d x dep ln f _ h.1 hv1 (by omega), PR.bind_ok, pStms_tok last d r dep (ln + linesS x) f (out ++ [x]) t h.2 hv2 (by omega) ht]
    simp
end
theorem pTree_tok (last : Int) (d : Bool) (name : ByteArray) (body : List Stm) (f : Nat) (hv : validE name body = 0) (hf : 2 + fuelL body ≤ f) : pTree last f (toksT d name body) = .ok (d, name, body) [] := by
  obtain ⟨_, _, h3, h4⟩ := valid_ok name body hv
  obtain ⟨f, rfl⟩ : ∃ f', f = f' + 1 := ⟨f - 1, by omega⟩
  unfold toksT pTree
  rw [isT2_tok, isT2_tok]
  have hb : ∀ d : Bool, pBlock last (arrowM d) (f + 1) 0 (mk [123] 1 :: (toksL d 2 body ++ [mk [125] (2 + linesL body)])) = .ok body [] := fun d => by
    rw [pBlock, if_neg (by omega), pMark_mk, PR.bind_ok, pStms_tok last d body 0 2 f [] [mk [125] (2 + linesL body)] h4 h3 (by omega) (by rw [isT_mk]; rfl)]
    rfl
  cases d
  · rw [if_neg (by decide), if_pos (by decide), List.tail_cons, pName_nm, PR.bind_ok]
    have := hb false
    rw [show arrowM false = [45, 45] from rfl] at this
    rw [this, PR.bind_ok]
  · rw [if_pos (by decide), List.tail_cons, pName_nm, PR.bind_ok]
    have := hb true
    rw [show arrowM true = [45, 62] from rfl] at this
    rw [this, PR.bind_ok]
/-- Valid trees with one text are one. -/
theorem print_inj (d d' : Bool) (n n' : ByteArray) (b b' : List Stm) (h : validE n b = 0) (h' : validE n' b' = 0) (e : printT d n b = printT d' n' b') : d = d' ∧ n = n' ∧ b = b' := by
  obtain ⟨h1, _, _, h2⟩ := valid_ok n b h
  obtain ⟨h1', _, _, h2'⟩ := valid_ok n' b' h'
  have z := Z_tree d n b h1 h2
  have z' := Z_tree d' n' b' h1' h2'
  rw [e, z'] at z
  have ht : toksT d' n' b' = toksT d n b := (Prod.mk.inj z).1
  have p := pTree_tok 0 d n b (2 + fuelL b + (2 + fuelL b')) h (by omega)
  have p' := pTree_tok 0 d' n' b' (2 + fuelL b + (2 + fuelL b')) h' (by omega)
  rw [← ht, p'] at p
  have := (PR.ok.inj p).1
  obtain ⟨e1, e2⟩ := Prod.mk.inj this
  obtain ⟨e2, e3⟩ := Prod.mk.inj e2
  exact ⟨e1.symm, e2.symm, e3.symm⟩
end Go.Proofs.YtnjnfkfmkbnkhaaGreatDoor.Tr
