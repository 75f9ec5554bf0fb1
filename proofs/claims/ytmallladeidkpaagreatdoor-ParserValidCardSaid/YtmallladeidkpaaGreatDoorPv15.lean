/- Packed texts: ParAttrs, ParPort, ParBlock -/
import Derived.Test.YtmallladeidkpaaGreatDoorPv14
import Derived.OwnWalk
set_option linter.unusedVariables false
set_option linter.unusedSimpArgs false
/- What the parser's attrs returns. -/
namespace Go.Proofs.YtmallladeidkpaaGreatDoor.Pa
open Go.RowKit Go.Sort Go.Lib Go.Shelf Fx Lx Tr

theorem mark_l (pb : Nat) (a : Option Addr) (cap : Nat) (T : List Tok) (ar : ByteArray) (dep : Int) (r : List Tok) (x : ByteArray) (l : List UInt8) (hx : x.data.toList = l) (w : World) (h : PSt pb a cap T ar dep r w) :
    Calls Tryz.prog 42 #[.pointer (some ⟨pb, 0, none⟩), .string x] w fun e w' =>
      POut pb a cap T ar dep (fun _ u _ => u = .tuple #[]) (pMark (lastL T) l r) e w' ∧ But pb w w' := by
  subst hx; exact mark_any pb a cap T ar dep r x w h
theorem take_l (pb : Nat) (a : Option Addr) (cap : Nat) (T : List Tok) (ar : ByteArray) (dep : Int) (r : List Tok) (kd : Int) (hkd : kd ≠ 0) (x : ByteArray) (l : List UInt8) (hx : x.data.toList = l) (w : World) (h : PSt pb a cap T ar dep r w) :
    Calls Tryz.prog 34 #[.pointer (some ⟨pb, 0, none⟩), .int .i64 kd, .string x] w fun e w' =>
      e = .returned (.bool (isT kd l r)) ∧ PSt pb a cap T ar dep (if isT kd l r = true then r.tail else r) w' ∧ But pb w w' := by
  subst hx; exact take_any pb a cap T ar dep r kd hkd x w h
theorem is_l (pb : Nat) (a : Option Addr) (cap : Nat) (T : List Tok) (ar : ByteArray) (dep : Int) (r : List Tok) (kd : Int) (hkd : kd ≠ 0) (x : ByteArray) (l : List UInt8) (hx : x.data.toList = l) (w : World) (h : PSt pb a cap T ar dep r w) :
    Calls Tryz.prog 49 #[.pointer (some ⟨pb, 0, none⟩), .int .i64 kd, .string x] w fun e w' => e = .returned (.bool (isT kd l r)) ∧ Ext w w' := by
  subst hx; exact is_any pb a cap T ar dep r kd hkd x w h
theorem isT_cons {kd : Int} {x : List UInt8} {r : List Tok} (h : isT kd x r = true) : r.tail.length + 1 = r.length := by
  cases r with
  | nil => cases h
  | cons t r => rfl
theorem pMark_len {last : Int} {m : List UInt8} {r r' : List Tok} {u : Unit} (h : pMark last m r = .ok u r') : r'.length + 1 = r.length := by
  unfold pMark at h
  by_cases hi : isT 5 m r = true
  · rw [if_pos hi] at h; injection h with _ h; rw [← h]; exact isT_cons hi
  · rw [if_neg hi] at h; cases h
theorem pName_len {last : Int} {r r' : List Tok} {u : ByteArray} (h : pName last r = .ok u r') : r'.length + 1 = r.length := by
  cases r with
  | nil => cases h
  | cons t r =>
    unfold pName at h
    dsimp only at h
    by_cases hi : t.kind = 1
    · rw [if_pos hi] at h; injection h with _ h; rw [← h]; rfl
    · rw [if_neg hi] at h; cases h
theorem pVal_len {last : Int} {r r' : List Tok} {u : ByteArray} (h : pVal last r = .ok u r') : r'.length + 1 = r.length := by
  cases r with
  | nil => cases h
  | cons t r =>
    unfold pVal at h
    dsimp only at h
    by_cases hi : t.kind = 1 ∨ t.kind = 4
    · rw [if_pos hi] at h; injection h with _ h; rw [← h]; rfl
    · rw [if_neg hi] at h
      by_cases h3 : t.kind = 3
      · rw [if_pos h3] at h; injection h with _ h; rw [← h]; rfl
      · rw [if_neg h3] at h; cases h
theorem PSt.len {pb : Nat} {a : Option Addr} {cap : Nat} {T : List Tok} {ar : ByteArray} {dep : Int} {r : List Tok} {w : World} (h : PSt pb a cap T ar dep r w) : r.length ≤ T.length ∧ T.length ≤ 16384 := by
  obtain ⟨k, hk, hn, hd, _⟩ := h
  exact ⟨by rw [← hd, List.length_drop]; omega, hn⟩
def slen : Value → Nat
  | .slice _ n _ => n
  | _ => 0
theorem own_slice {w : World} {B : Nat} {e : TypeId} {sz : Nat} {v : Value} {n : Nat} {xs : List Value} (h : w.ownsRow B e sz v n xs) : ∃ ao c, v = .slice ao n c := by
  rcases h.2 with ⟨h1, h2⟩ | ⟨g, cap, cur, hv, _⟩
  · exact ⟨none, 0, by rw [h1, h2]⟩
  · exact ⟨_, cap, hv⟩
theorem info_attr : (Tryz.prog.info? 61).map (fun i => (i.zero, i.size, i.bytes)) = some (some (.agg #[.string ⟨#[]⟩, .string ⟨#[]⟩]), 2, 32) := by kernel_rfl
set_option maxHeartbeats 4000000 in
set_option maxRecDepth 100000 in
theorem attrs_any (pb : Nat) (a : Option Addr) (cap : Nat) (T : List Tok) (ar : ByteArray) (dep : Int) (r : List Tok) (w : World) (h : PSt pb a cap T ar dep r w) :
    Calls Tryz.prog 26 #[.pointer (some ⟨pb, 0, none⟩)] w fun e w' =>
      POut pb a cap T ar dep (fun L u w' => TwoV (w.heap.size ≤ ·) L u w') (pAttrsB (lastL T) r) e w' ∧ But pb w w' := by
  obtain ⟨i0, hi, hz0, hz1, hz2⟩ := info_parts info_attr
  obtain ⟨X, hX⟩ : ∃ X, X = pAttrsB (lastL T) r := ⟨_, rfl⟩
  rw [← hX]
  unfold pAttrsB at hX
  have HS := Lib.hid h; have HX := Lib.hid hX
  clear h hX
  rcases hm : pMark (lastL T) [91] r with ⟨v, r1⟩ | ⟨ln, er⟩
  · have hX := HX.out
    rw [hm, PR.bind_ok] at hX
    replace HX := Lib.hid hX
    have hm1 := mark_l pb a cap T ar dep r ⟨#[91]⟩ [91] rfl w HS.out
    rw [hm] at hm1
    have HM := Lib.hid hm1
    have HL := Lib.hid (pMark_len hm)
    clear hX hm hm1
    go_enter Tryz.func26, Tryz.ntmps26
    go_wp2_with (go_at_call 42; refine HM.out.mono ?_; rintro e w1 ⟨⟨_, rfl, rfl, hs1⟩, x1⟩; replace hs1 := Lib.hid hs1; replace x1 := Lib.hid x1)
    go_loopw [3] (fun out' wr => ∃ (ao : Option Addr) (n c : Nat) (out : List Two) (r : List Tok) (f : Nat), out' = .slice ao n c ∧ n = out.length ∧ n + r.length ≤ 16384 ∧ r.length < f ∧ Hid (PSt pb a cap T ar dep r wr) ∧ Hid (But pb w wr) ∧ Hid (wr.ownsRow w.heap.size 61 2 out' n (twosC out)) ∧ Hid (X = pAttrs (lastL T) f out r)) (fun out' _ => 16384 - slen out')
    case atStart => exact ⟨none, 0, 0, [], r1, r1.length + 1, rfl, rfl, by have := hs1.out.len; omega, by omega, hs1, x1, Lib.hid (World.ownsRow_nil _ _ _ _), HX⟩
    case round =>
      obtain ⟨ao, n, c, out, r, f, rfl, hn, hlen, hf, hs, hb, hown, hX⟩ := hrel
      replace hn := Lib.hid hn
      clear HX HL hs1 x1 HM
      obtain ⟨f, rfl⟩ : ∃ g, f = g + 1 := ⟨f - 1, by omega⟩
      have hX0 := hX.out
      rw [pAttrs] at hX0
      have htk := take_l pb a cap T ar dep r 5 (by decide) ⟨#[93]⟩ [93] rfl wr hs.out
      by_cases hi : isT 5 [93] r = true
      · rw [if_pos hi] at hX0
        rw [hi, if_pos rfl] at htk
        have HTK := Lib.hid htk; replace hX := Lib.hid hX0
        clear hX0 htk hi
        go_wp2_with (go_at_call 34; refine HTK.out.mono ?_; rintro e w2 ⟨rfl, hs2, x2⟩; replace hs2 := Lib.hid hs2; replace x2 := Lib.hid x2)
        go_returns
        have hlt := HS.out.lt
        rw [hX.out]
        have hn' := hn.out
        subst hn'
        exact ⟨⟨_, rfl, own_two (own_but hown.out x2.out hlt), hs2.out⟩, hb.out.trans x2.out⟩
      · rw [if_neg hi] at hX0
        have hi' : isT 5 [93] r = false := by simpa using hi
        rw [hi', if_neg (by decide)] at htk
        have HTK := Lib.hid htk
        clear hX htk hi hi'
        have hlt := HS.out.lt
        have HLT := Lib.hid hlt
        clear hlt
        obtain hcase | ⟨h0, hcase⟩ : (n = 0 ∧ Hid (X = (pAttr (lastL T) r).bind fun q r => pAttrs (lastL T) f (out ++ [q]) r)) ∨ (¬ n = 0 ∧ Hid (X = (pMark (lastL T) [44] r).bind fun _ r => (pAttr (lastL T) r).bind fun q r => pAttrs (lastL T) f (out ++ [q]) r)) := by
          by_cases h0 : n = 0
          · have he : out.isEmpty = true := by rw [List.isEmpty_iff]; exact List.eq_nil_of_length_eq_zero (by rw [← hn.out]; exact h0)
            rw [if_pos he, PR.bind_ok] at hX0
            exact .inl ⟨h0, Lib.hid hX0⟩
          · have he : ¬ out.isEmpty = true := by rw [List.isEmpty_iff]; rintro rfl; exact h0 hn.out
            rw [if_neg he] at hX0
            exact .inr ⟨h0, Lib.hid hX0⟩
        · obtain ⟨h0, hX⟩ := hcase
          subst h0
          clear hX0
          go_wp2_with (go_at_call 34; refine HTK.out.mono ?_; rintro e w2 ⟨rfl, hs2, x2⟩)
          have hown2 := Lib.hid (own_but hown.out x2 HLT.out)
          replace x2 := Lib.hid (hb.out.trans x2)
          clear HTK hown hs hb
          obtain ⟨r2, hr2⟩ : ∃ r2, r2 = r := ⟨_, rfl⟩
          rw [← hr2] at hs2 hX hlen hf
          clear hr2 r
          rcases hnm : pName (lastL T) r2 with ⟨k, r3⟩ | ⟨ln, er⟩
          · have hX1 := hX.out
            rw [pAttr, hnm, PR.bind_ok] at hX1
            have hn1 := name_any pb a cap T ar dep r2 w2 hs2
            rw [hnm] at hn1
            have HX1 := Lib.hid hX1
            have hl1 := pName_len hnm
            clear hX hX1 hnm hs2
            refine hn1.mono ?_
            rintro e w3 ⟨⟨_, rfl, rfl, hs3⟩, x3⟩
            clear hn1
            have hown3 := Lib.hid (own_but hown2.out x3 HLT.out)
            replace x3 := Lib.hid (x2.out.trans x3)
            clear x2 hown2
            go_wp2_with fail
            rcases hmm : pMark (lastL T) [61] r3 with ⟨v, r4⟩ | ⟨ln, er⟩
            · have hX1 := HX1.out
              rw [hmm, PR.bind_ok] at hX1
              have hn1 := mark_l pb a cap T ar dep r3 ⟨#[61]⟩ [61] rfl w3 hs3
              rw [hmm] at hn1
              have HX2 := Lib.hid hX1
              have hl2 := pMark_len hmm
              clear HX1 hX1 hmm hs3
              refine hn1.mono ?_
              rintro e w4 ⟨⟨_, rfl, rfl, hs4⟩, x4⟩
              clear hn1
              have hown4 := Lib.hid (own_but hown3.out x4 HLT.out)
              replace x4 := Lib.hid (x3.out.trans x4)
              clear x3 hown3
              go_wp2_with fail
              rcases hvv : pVal (lastL T) r4 with ⟨v, r5⟩ | ⟨ln, er⟩
              · have hX1 := HX2.out
                rw [hvv, PR.bind_ok, PR.bind_ok] at hX1
                have hn1 := value_any pb a cap T ar dep r4 w4 hs4
                rw [hvv] at hn1
                have HX3 := Lib.hid hX1
                have hl3 := pVal_len hvv
                clear HX2 hX1 hvv hs4
                refine hn1.mono ?_
                rintro e w5 ⟨⟨_, rfl, rfl, hs5⟩, x5⟩
                clear hn1
                have hown5 := Lib.hid (own_but hown4.out x5 HLT.out)
                replace x5 := Lib.hid (x4.out.trans x5)
                clear x4 hown4
                have hsz := x5.out.size
                go_wp2_with (at_builtin; refine wpList_append_own _ rfl _ _ 35 rfl w.heap.size 61 i0 _ 2 32 Tryz.underlying35 hi hz0 hz1 hz2 rfl (by decide) _ _ _ rfl (own_ext' hown5.out ((Ext.refl w5).alloc _)) ⟨w5.heap.size, 0, none⟩ 1 1 [.string k, .string v] rfl rfl ?c1 ?c2 ?c3 ?c4 ?c5 ?_)
                case c1 => exact World.news_of_block (cs := #[.string k, .string v]) (t := 61) (fr := (0, 0)) (heap_alloc_new w5 _)
                case c2 => simp [Value.oneCell']
                case c3 => unfold maxLen; omega
                case c4 => omega
                case c5 => simp; omega
                intro v' w6 hown' hgrow _
                have hrow : ∀ q, Value.ownBlock (.slice ao 0 c) = some q → w.heap.size ≤ q := fun q hq => (hown5.out.lt q hq).1
                have hs6 := Lib.hid (((hs5.ext ((Ext.refl w5).alloc (.cells #[.string k, .string v] 61))).below (Below.grown (Below.refl w.heap.size _) hgrow (by simp; omega) hrow) HLT.out))
                have x6 := Lib.hid (But.grown (x5.out.alloc (.cells #[.string k, .string v] 61)) hgrow hrow)
                have hown6 : Hid (w6.ownsRow w.heap.size 61 2 v' (0 + 1) (twosC (out ++ [(k, v)]))) := Lib.hid (by rw [twosC_snoc]; exact hown')
                clear hown' hgrow hrow hown5 x5 hs5
                obtain ⟨ao', c', rfl⟩ := own_slice hown6.out
                go_wp2
                go_roundw
                case rel => exact ⟨ao', 0 + 1, c', out ++ [(k, v)], r5, f, rfl, by rw [List.length_append, ← hn.out]; rfl, by omega, by omega, hs6, x6, hown6, HX3⟩
                case measure => simp only [slen]; omega
              · have hX1 := HX2.out
                rw [hvv, PR.bind_err, PR.bind_err] at hX1
                have hn1 := value_any pb a cap T ar dep r4 w4 hs4
                rw [hvv] at hn1
                have HX3 := Lib.hid hX1
                clear HX2 hX1 hvv hs4
                refine hn1.mono ?_
                rintro e w5 ⟨rfl, x5⟩
                unfold failE
                go_wp2
                exact ⟨rfl, by rw [HX3.out]; exact rfl, x4.out.trans x5⟩
            · have hX1 := HX1.out
              rw [hmm, PR.bind_err, PR.bind_err] at hX1
              have hn1 := mark_l pb a cap T ar dep r3 ⟨#[61]⟩ [61] rfl w3 hs3
              rw [hmm] at hn1
              have HX2 := Lib.hid hX1
              clear HX1 hX1 hmm hs3
              refine hn1.mono ?_
              rintro e w4 ⟨rfl, x4⟩
              unfold failE
              go_wp2
              exact ⟨rfl, by rw [HX2.out]; exact rfl, x3.out.trans x4⟩
          · have hX1 := hX.out
            rw [pAttr, hnm, PR.bind_err, PR.bind_err] at hX1
            have hn1 := name_any pb a cap T ar dep r2 w2 hs2
            rw [hnm] at hn1
            have HX1 := Lib.hid hX1
            clear hX hX1 hnm hs2
            refine hn1.mono ?_
            rintro e w3 ⟨rfl, x3⟩
            unfold failE
            go_wp2
            exact ⟨rfl, by rw [HX1.out]; exact rfl, x2.out.trans x3⟩
        · clear hX0
          go_wp2_with (go_at_call 34; refine HTK.out.mono ?_; rintro e w2 ⟨rfl, hs2, x2⟩)
          have hown2 := Lib.hid (own_but hown.out x2 HLT.out)
          replace x2 := Lib.hid (hb.out.trans x2)
          clear HTK hown hs hb
          rcases hcm : pMark (lastL T) [44] r with ⟨u, r1⟩ | ⟨ln, er⟩
          · have hX1 := hcase.out
            rw [hcm, PR.bind_ok] at hX1
            have hn1 := mark_l pb a cap T ar dep r ⟨#[44]⟩ [44] rfl w2 hs2
            rw [hcm] at hn1
            have hl0 := pMark_len hcm
            have hX := Lib.hid hX1
            clear hcase hX1 hcm hs2
            refine hn1.mono ?_
            rintro e w1' ⟨⟨_, rfl, rfl, hs1'⟩, x1'⟩
            clear hn1
            have hown1 := Lib.hid (own_but hown2.out x1' HLT.out)
            replace x1' := Lib.hid (x2.out.trans x1')
            clear x2 hown2
            obtain ⟨r2, hr2⟩ : ∃ r2, r2 = r1 := ⟨_, rfl⟩
            rw [← hr2] at hs1' hX hl0
            clear hr2 r1
            have hs2 := hs1'
            have x2 := x1'
            have hown2 := hown1
            clear hs1' x1' hown1
            go_wp2_with fail
            rcases hnm : pName (lastL T) r2 with ⟨k, r3⟩ | ⟨ln, er⟩
            · have hX1 := hX.out
              rw [pAttr, hnm, PR.bind_ok] at hX1
              have hn1 := name_any pb a cap T ar dep r2 w1' hs2
              rw [hnm] at hn1
              have HX1 := Lib.hid hX1
              have hl1 := pName_len hnm
              clear hX hX1 hnm hs2
              refine hn1.mono ?_
              rintro e w3 ⟨⟨_, rfl, rfl, hs3⟩, x3⟩
              clear hn1
              have hown3 := Lib.hid (own_but hown2.out x3 HLT.out)
              replace x3 := Lib.hid (x2.out.trans x3)
              clear x2 hown2
              go_wp2_with fail
              rcases hmm : pMark (lastL T) [61] r3 with ⟨v, r4⟩ | ⟨ln, er⟩
              · have hX1 := HX1.out
                rw [hmm, PR.bind_ok] at hX1
                have hn1 := mark_l pb a cap T ar dep r3 ⟨#[61]⟩ [61] rfl w3 hs3
                rw [hmm] at hn1
                have HX2 := Lib.hid hX1
                have hl2 := pMark_len hmm
                clear HX1 hX1 hmm hs3
                refine hn1.mono ?_
                rintro e w4 ⟨⟨_, rfl, rfl, hs4⟩, x4⟩
                clear hn1
                have hown4 := Lib.hid (own_but hown3.out x4 HLT.out)
                replace x4 := Lib.hid (x3.out.trans x4)
                clear x3 hown3
                go_wp2_with fail
                rcases hvv : pVal (lastL T) r4 with ⟨v, r5⟩ | ⟨ln, er⟩
                · have hX1 := HX2.out
                  rw [hvv, PR.bind_ok, PR.bind_ok] at hX1
                  have hn1 := value_any pb a cap T ar dep r4 w4 hs4
                  rw [hvv] at hn1
                  have HX3 := Lib.hid hX1
                  have hl3 := pVal_len hvv
                  clear HX2 hX1 hvv hs4
                  refine hn1.mono ?_
                  rintro e w5 ⟨⟨_, rfl, rfl, hs5⟩, x5⟩
                  clear hn1
                  have hown5 := Lib.hid (own_but hown4.out x5 HLT.out)
                  replace x5 := Lib.hid (x4.out.trans x5)
                  clear x4 hown4
                  have hsz := x5.out.size
                  go_wp2_with (at_builtin; refine wpList_append_own _ rfl _ _ 35 rfl w.heap.size 61 i0 _ 2 32 Tryz.underlying35 hi hz0 hz1 hz2 rfl (by decide) _ _ _ rfl (own_ext' hown5.out ((Ext.refl w5).alloc _)) ⟨w5.heap.size, 0, none⟩ 1 1 [.string k, .string v] rfl rfl ?c1 ?c2 ?c3 ?c4 ?c5 ?_)
                  case c1 => exact World.news_of_block (cs := #[.string k, .string v]) (t := 61) (fr := (0, 0)) (heap_alloc_new w5 _)
                  case c2 => simp [Value.oneCell']
                  case c3 => unfold maxLen; omega
                  case c4 => omega
                  case c5 => simp; omega
                  intro v' w6 hown' hgrow _
                  have hrow : ∀ q, Value.ownBlock (.slice ao n c) = some q → w.heap.size ≤ q := fun q hq => (hown5.out.lt q hq).1
                  have hs6 := Lib.hid (((hs5.ext ((Ext.refl w5).alloc (.cells #[.string k, .string v] 61))).below (Below.grown (Below.refl w.heap.size _) hgrow (by simp; omega) hrow) HLT.out))
                  have x6 := Lib.hid (But.grown (x5.out.alloc (.cells #[.string k, .string v] 61)) hgrow hrow)
                  have hown6 : Hid (w6.ownsRow w.heap.size 61 2 v' (n + 1) (twosC (out ++ [(k, v)]))) := Lib.hid (by rw [twosC_snoc]; exact hown')
                  clear hown' hgrow hrow hown5 x5 hs5
                  obtain ⟨ao', c', rfl⟩ := own_slice hown6.out
                  go_wp2
                  go_roundw
                  case rel => exact ⟨ao', n + 1, c', out ++ [(k, v)], r5, f, rfl, by rw [List.length_append, ← hn.out]; rfl, by omega, by omega, hs6, x6, hown6, HX3⟩
                  case measure => simp only [slen]; omega
                · have hX1 := HX2.out
                  rw [hvv, PR.bind_err, PR.bind_err] at hX1
                  have hn1 := value_any pb a cap T ar dep r4 w4 hs4
                  rw [hvv] at hn1
                  have HX3 := Lib.hid hX1
                  clear HX2 hX1 hvv hs4
                  refine hn1.mono ?_
                  rintro e w5 ⟨rfl, x5⟩
                  unfold failE
                  go_wp2
                  exact ⟨rfl, by rw [HX3.out]; exact rfl, x4.out.trans x5⟩
              · have hX1 := HX1.out
                rw [hmm, PR.bind_err, PR.bind_err] at hX1
                have hn1 := mark_l pb a cap T ar dep r3 ⟨#[61]⟩ [61] rfl w3 hs3
                rw [hmm] at hn1
                have HX2 := Lib.hid hX1
                clear HX1 hX1 hmm hs3
                refine hn1.mono ?_
                rintro e w4 ⟨rfl, x4⟩
                unfold failE
                go_wp2
                exact ⟨rfl, by rw [HX2.out]; exact rfl, x3.out.trans x4⟩
            · have hX1 := hX.out
              rw [pAttr, hnm, PR.bind_err, PR.bind_err] at hX1
              have hn1 := name_any pb a cap T ar dep r2 w1' hs2
              rw [hnm] at hn1
              have HX1 := Lib.hid hX1
              clear hX hX1 hnm hs2
              refine hn1.mono ?_
              rintro e w3 ⟨rfl, x3⟩
              unfold failE
              go_wp2
              exact ⟨rfl, by rw [HX1.out]; exact rfl, x2.out.trans x3⟩
          · have hX1 := hcase.out
            rw [hcm, PR.bind_err] at hX1
            have hn1 := mark_l pb a cap T ar dep r ⟨#[44]⟩ [44] rfl w2 hs2
            rw [hcm] at hn1
            have HX1 := Lib.hid hX1
            clear hcase hX1 hcm hs2
            refine hn1.mono ?_
            rintro e w3 ⟨rfl, x3⟩
            unfold failE
            go_wp2
            exact ⟨rfl, by rw [HX1.out]; exact rfl, x2.out.trans x3⟩
  · have hX := HX.out
    rw [hm, PR.bind_err] at hX
    replace HX := Lib.hid hX
    have hm1 := mark_l pb a cap T ar dep r ⟨#[91]⟩ [91] rfl w HS.out
    rw [hm] at hm1
    have HM := Lib.hid hm1
    clear hX hm hm1
    go_enter Tryz.func26, Tryz.ntmps26
    go_wp2_with (go_at_call 42; refine HM.out.mono ?_; rintro e w1 ⟨rfl, x1⟩; unfold failE)
    exact ⟨rfl, by rw [HX.out]; exact rfl, x1⟩
end Go.Proofs.YtmallladeidkpaaGreatDoor.Pa

/- What the parser's options and port return. -/
namespace Go.Proofs.YtmallladeidkpaaGreatDoor.Pa
open Go.RowKit Go.Sort Go.Lib Go.Shelf Fx Lx Tr

theorem kept_but {pb B : Nat} {w w' : World} (x : But pb w w') (h : pb < B) : Kept (B ≤ ·) w w' := fun g hg hl => x.block g hl (by omega)
theorem TwoV.but {pb B B' : Nat} {L : List Two} {u : Value} {w w' : World} (h : TwoV (B ≤ ·) L u w) (x : But pb w w') (hp : pb < B) (hB : B' ≤ B) : TwoV (B' ≤ ·) L u w' := by
  obtain ⟨a, cap, hu, ht, hl⟩ := h
  exact ⟨a, cap, hu, ht.keep (kept_but x hp) (fun g hg _ => by omega), hl⟩
theorem StmsV.but {pb B B' : Nat} {L : List Stm} {u : Value} {w w' : World} (h : StmsV (B ≤ ·) L u w) (x : But pb w w') (hp : pb < B) (hB : B' ≤ B) : StmsV (B' ≤ ·) L u w' := by
  obtain ⟨a, cap, hu, ht, hl⟩ := h
  exact ⟨a, cap, hu, StmsP.keep (kept_but x hp) (fun g hg _ => by omega) L a ht, hl⟩
theorem StmV.but {pb B B' : Nat} {s : Stm} {u : Value} {w w' : World} (h : StmV (B ≤ ·) s u w) (x : But pb w w') (hp : pb < B) (hB : B' ≤ B) : StmV (B' ≤ ·) s u w' := by
  obtain ⟨xs, hu, ht⟩ := h
  exact ⟨xs, hu, StmP.keep (kept_but x hp) (fun g hg _ => by omega) s xs ht⟩
set_option maxHeartbeats 4000000 in
theorem options_any (pb : Nat) (a : Option Addr) (cap : Nat) (T : List Tok) (ar : ByteArray) (dep : Int) (r : List Tok) (w : World) (h : PSt pb a cap T ar dep r w) :
    Calls Tryz.prog 69 #[.pointer (some ⟨pb, 0, none⟩)] w fun e w' =>
      POut pb a cap T ar dep (fun L u w' => TwoV (w.heap.size ≤ ·) L u w') (pOpt (lastL T) r) e w' ∧ But pb w w' := by
  have his := is_l pb a cap T ar dep r 5 (by decide) ⟨#[91]⟩ [91] rfl w h
  have HS := Lib.hid h
  have HLT := Lib.hid h.lt
  obtain ⟨X, hX⟩ : ∃ X, X = pOpt (lastL T) r := ⟨_, rfl⟩
  rw [← hX]
  unfold pOpt at hX
  clear h
  by_cases hi : isT 5 [91] r = true
  · rw [if_pos hi] at hX
    rw [hi] at his
    have HI := Lib.hid his
    replace hX := Lib.hid hX
    clear his hi
    go_enter Tryz.func69, Tryz.ntmps69
    go_wp2_with (go_at_call 49; refine HI.out.mono ?_; rintro e w1 ⟨rfl, x1⟩)
    have hat := attrs_any pb a cap T ar dep r w1 (HS.out.ext x1)
    have hX1 := hX.out
    rcases hq : pAttrsB (lastL T) r with ⟨L, r1⟩ | ⟨ln, er⟩ <;> rw [hq] at hat hX1 <;> clear hq hX
    · refine hat.mono ?_
      rintro e w2 ⟨⟨u, rfl, hu, hs2⟩, x2⟩
      clear hat
      rw [PR.bind_ok] at hX1
      have hmk := mark_l pb a cap T ar dep r1 ⟨#[59]⟩ [59] rfl w2 hs2
      replace hu := Lib.hid hu
      replace x1 := Lib.hid x1
      replace x2 := Lib.hid x2
      rcases hq : pMark (lastL T) [59] r1 with ⟨v, r2⟩ | ⟨ln, er⟩ <;> rw [hq] at hmk hX1 <;> clear hq
      · rw [PR.bind_ok] at hX1
        have HX := Lib.hid hX1
        have HMK := Lib.hid hmk
        clear hX1 hmk hs2
        go_wp2_with (go_at_call 42; refine HMK.out.mono ?_; rintro e w3 ⟨⟨_, rfl, rfl, hs3⟩, x3⟩; replace hs3 := Lib.hid hs3; replace x3 := Lib.hid x3)
        go_returns
        have hl := x1.out.size
        have := HLT.out
        rw [HX.out]
        exact ⟨⟨_, rfl, hu.out.but x3.out (by omega) hl, hs3.out⟩, (But.of x1.out).trans (x2.out.trans x3.out)⟩
      · rw [PR.bind_err] at hX1
        have HX := Lib.hid hX1
        have HMK := Lib.hid hmk
        clear hX1 hmk hs2
        go_wp2_with (go_at_call 42; refine HMK.out.mono ?_; rintro e w3 ⟨rfl, x3⟩; unfold failE)
        exact ⟨rfl, by rw [HX.out]; exact rfl, (But.of x1.out).trans (x2.out.trans x3)⟩
    · refine hat.mono ?_
      rintro e w2 ⟨rfl, x2⟩
      rw [PR.bind_err] at hX1
      have HX := Lib.hid hX1
      clear hX1 hat
      unfold failE
      go_wp2
      exact ⟨rfl, by rw [HX.out]; exact rfl, (But.of x1).trans x2⟩
  · rw [if_neg hi, PR.bind_ok] at hX
    have hi' : isT 5 [91] r = false := by simpa using hi
    rw [hi'] at his
    have HI := Lib.hid his
    replace hX := Lib.hid hX
    clear his hi hi'
    go_enter Tryz.func69, Tryz.ntmps69
    go_wp2_with (go_at_call 49; refine HI.out.mono ?_; rintro e w1 ⟨rfl, x1⟩)
    have hmk := mark_l pb a cap T ar dep r ⟨#[59]⟩ [59] rfl w1 (HS.out.ext x1)
    have hX1 := hX.out
    rcases hq : pMark (lastL T) [59] r with ⟨v, r2⟩ | ⟨ln, er⟩ <;> rw [hq] at hmk hX1 <;> clear hq hX
    · rw [PR.bind_ok] at hX1
      have HX := Lib.hid hX1
      clear hX1
      refine hmk.mono ?_
      rintro e w3 ⟨⟨_, rfl, rfl, hs3⟩, x3⟩
      clear hmk
      replace hs3 := Lib.hid hs3
      go_wp2
      go_returns
      rw [HX.out]
      exact ⟨⟨_, rfl, twoV_nil _ _, hs3.out⟩, (But.of x1).trans x3⟩
    · rw [PR.bind_err] at hX1
      have HX := Lib.hid hX1
      clear hX1
      refine hmk.mono ?_
      rintro e w3 ⟨rfl, x3⟩
      clear hmk
      unfold failE
      go_wp2
      exact ⟨rfl, by rw [HX.out]; exact rfl, (But.of x1).trans x3⟩
def refV (q : Two) : Value := .agg #[.string q.1, .string q.2]
theorem ref_cells (w : World) (k v : ByteArray) : ∀ w1, Ext (w.alloc (.cells #[.string k, .string v] 51)) w1 →
    w1.heap[w.heap.size]? = some (.cells #[.string k, .string v] 51 (0, 0)) := fun w1 x => by
  have hb := heap_alloc_new w (.cells #[.string k, .string v] 51)
  exact (x.block _ (by simp)).trans hb
theorem but_two {pb : Nat} {w w' : World} {k v : ByteArray} {b : Nat} {T : TypeId} (x : But pb w w') (h : w.heap[b]? = some (.cells #[.string k, .string v] T (0, 0))) (hb : b ≠ pb) :
    w'.heap[b]? = some (.cells #[.string k, .string v] T (0, 0)) := (x.block b (Array.getElem?_eq_some_iff.1 h).1 hb).trans h
theorem two_cells {w : World} {k v : ByteArray} {b : Nat} {T : TypeId} (h : w.heap[b]? = some (.cells #[.string k, .string v] T (0, 0))) :
    w.cell? ⟨b, 0, none⟩ = some (.string k) ∧ w.cell? ⟨b, 1, none⟩ = some (.string v) ∧ w.frozen? ⟨b, 0, none⟩ = false ∧ w.frozen? ⟨b, 1, none⟩ = false := by
  refine ⟨?_, ?_, Lib.frozen_of_heap h 0, Lib.frozen_of_heap h 1⟩ <;> rw [Lib.cell_of_heap h] <;> rfl
theorem set_two {w : World} {x y : Value} {b : Nat} {T : TypeId} (h : w.heap[b]? = some (.cells #[x, y] T (0, 0))) (u v : Value) :
    ((w.setCell ⟨b, 0, none⟩ u).setCell ⟨b, 1, none⟩ v).heap[b]? = some (.cells #[u, v] T (0, 0)) := setOne (setOne h 0 u) 1 v
theorem info_ref : (Tryz.prog.info? 51).map (fun i => (i.zero, i.size, i.bytes)) = some (some (.agg #[.string ⟨#[]⟩, .string ⟨#[]⟩]), 2, 32) := by kernel_rfl
theorem size_ref : (Tryz.prog.info? 51).map (·.size) = some 2 := by kernel_rfl
theorem but_far {c : Nat} {a b : World} (h : But c a b) {p : Addr} (hp : a.heap.size ≤ p.block) (u : Value) : But c a (b.setCell p u) :=
  ⟨h.os, h.tape, h.output, by have := h.size; simpa [World.setCell] using this, fun k hk hc => (Below.heap_setCell _ _ _ _ (by omega)).trans (h.block k hk hc)⟩
theorem PSt.far {pb : Nat} {a : Option Addr} {cap : Nat} {T : List Tok} {ar : ByteArray} {dep : Int} {r : List Tok} {w : World} (h : PSt pb a cap T ar dep r w) {p : Addr} (hp : pb < p.block) (u : Value) : PSt pb a cap T ar dep r (w.setCell p u) :=
  h.below (Below.setCell (Below.refl (pb + 1) w) (by omega) u) (by omega)
set_option maxHeartbeats 4000000 in
theorem port_any (pb : Nat) (a : Option Addr) (cap : Nat) (T : List Tok) (ar : ByteArray) (dep : Int) (r : List Tok) (n : ByteArray) (w : World) (h : PSt pb a cap T ar dep r w) :
    Calls Tryz.prog 70 #[.pointer (some ⟨pb, 0, none⟩), .string n] w fun e w' =>
      POut pb a cap T ar dep (fun q u _ => u = refV q) (pPort (lastL T) n r) e w' ∧ But pb w w' := by
  have HS := Lib.hid h
  have HLT := Lib.hid h.lt
  obtain ⟨X, hX⟩ : ∃ X, X = pPort (lastL T) n r := ⟨_, rfl⟩
  rw [← hX]
  unfold pPort at hX
  clear h
  have hw0 := heap_alloc_new w (.cells #[.string ⟨#[]⟩, .string ⟨#[]⟩] 51)
  have hx0 := (Ext.refl w).alloc (.cells #[.string ⟨#[]⟩, .string ⟨#[]⟩] 51)
  have hw1 := heap_alloc_new (w.alloc (.cells #[.string ⟨#[]⟩, .string ⟨#[]⟩] 51)) (.cells #[.string n, .string ⟨#[]⟩] 51)
  have hx1 := hx0.alloc (.cells #[.string n, .string ⟨#[]⟩] 51)
  have hw0' := ((Ext.refl (w.alloc (.cells #[.string ⟨#[]⟩, .string ⟨#[]⟩] 51))).alloc (.cells #[.string n, .string ⟨#[]⟩] 51)).block _ (by simp) |>.trans hw0
  rw [World.size_alloc] at hw1
  obtain ⟨W, hW⟩ : ∃ W, W = (w.alloc (.cells #[.string ⟨#[]⟩, .string ⟨#[]⟩] 51)).alloc (.cells #[.string n, .string ⟨#[]⟩] 51) := ⟨_, rfl⟩
  rw [← hW] at hw1 hx1 hw0'
  have hn0 : w.heap.size ≠ pb := by have := HLT.out; omega
  have hn1 : w.heap.size + 1 ≠ pb := by have := HLT.out; omega
  have htk := take_l pb a cap T ar dep r 5 (by decide) ⟨#[58]⟩ [58] rfl W (HS.out.ext hx1)
  have HW0 := Lib.hid hw0'; have HW1 := Lib.hid hw1; have HX1 := Lib.hid hx1; have HN0 := Lib.hid hn0; have HN1 := Lib.hid hn1
  have HW := Lib.hid hW
  clear hw0 hx0 hw0' hw1 hx1 hn0 hn1
  by_cases hi : isT 5 [58] r = true
  · rw [if_pos hi] at hX
    rw [hi, if_pos rfl] at htk
    rw [hW] at htk
    have HTK := Lib.hid htk
    replace hX := Lib.hid hX
    clear hi htk hW
    go_enter Tryz.func70, Tryz.ntmps70
    go_wp2_with (go_at_call 34; refine HTK.out.mono ?_; rintro e w1 ⟨rfl, hs1, x1⟩; rw [← HW.out] at x1)
    have hnm := name_any pb a cap T ar dep r.tail w1 hs1
    have hX1 := hX.out
    rcases hq : pName (lastL T) r.tail with ⟨p, r1⟩ | ⟨ln, er⟩ <;> rw [hq] at hnm hX1 <;> clear hq hX
    · rw [PR.bind_ok] at hX1
      have HX := Lib.hid hX1
      clear hX1 HTK hs1
      refine hnm.mono ?_
      rintro e w2 ⟨⟨_, rfl, rfl, hs2⟩, x2⟩
      have k0 := but_two (x1.trans x2) HW0.out HN0.out
      have k1 := but_two (x1.trans x2) HW1.out HN1.out
      obtain ⟨c00, c01, f00, f01⟩ := two_cells k0
      obtain ⟨c10, c11, f10, f11⟩ := two_cells k1
      have HZ := Lib.hid (set_two ((Below.heap_setCell w2 ⟨w.heap.size + 1, 1, none⟩ (.string p) w.heap.size (by show w.heap.size ≠ w.heap.size + 1; omega)).trans k0) (.string n) (.string p))
      clear hnm k0 k1
      replace hs2 := Lib.hid hs2
      replace x2 := Lib.hid (x1.trans x2)
      clear x1
      go_wp2
      refine bodyPost_ret (results_cell_row rfl _ _ w.heap.size 51 #[.string n, .string p] (0, 0) _ rfl HZ.out Tryz.underlying51 rfl size_ref) rfl ?_
      have hl := HLT.out
      rw [HX.out]
      refine ⟨⟨_, rfl, rfl, ((hs2.out.far (p := ⟨w.heap.size + 1, 1, none⟩) (by show pb < w.heap.size + 1; omega) _).far (p := ⟨w.heap.size, 0, none⟩) hl _).far (p := ⟨w.heap.size, 1, none⟩) hl _⟩, ?_⟩
      exact but_far (but_far (but_far ((But.of HX1.out).trans x2.out) (p := ⟨w.heap.size + 1, 1, none⟩) (by show w.heap.size ≤ w.heap.size + 1; omega) _) (p := ⟨w.heap.size, 0, none⟩) (Nat.le_refl _) _) (p := ⟨w.heap.size, 1, none⟩) (Nat.le_refl _) _
    · rw [PR.bind_err] at hX1
      have HX := Lib.hid hX1
      clear hX1
      refine hnm.mono ?_
      rintro e w2 ⟨rfl, x2⟩
      unfold failE
      go_wp2
      exact ⟨rfl, by rw [HX.out]; exact rfl, (But.of HX1.out).trans (x1.trans x2)⟩
  · rw [if_neg hi] at hX
    have hi' : isT 5 [58] r = false := by simpa using hi
    rw [hi', if_neg (by decide)] at htk
    rw [hW] at htk
    have HTK := Lib.hid htk
    replace hX := Lib.hid hX
    clear hi hi' htk hW
    go_enter Tryz.func70, Tryz.ntmps70
    go_wp2_with (go_at_call 34; refine HTK.out.mono ?_; rintro e w1 ⟨rfl, hs1, x1⟩; rw [← HW.out] at x1; have k0 := but_two x1 HW0.out HN0.out; have k1 := but_two x1 HW1.out HN1.out; obtain ⟨c00, c01, f00, f01⟩ := two_cells k0; obtain ⟨c10, c11, f10, f11⟩ := two_cells k1; have HZ := Lib.hid (set_two k0 (.string n) (.string ⟨#[]⟩)); clear k0 k1; replace hs1 := Lib.hid hs1; replace x1 := Lib.hid x1)
    refine bodyPost_ret (results_cell_row rfl _ _ w.heap.size 51 #[.string n, .string ⟨#[]⟩] (0, 0) _ rfl HZ.out Tryz.underlying51 rfl size_ref) rfl ?_
    have hl := HLT.out
    rw [hX.out]
    refine ⟨⟨_, rfl, rfl, (hs1.out.far (p := ⟨w.heap.size, 0, none⟩) hl _).far (p := ⟨w.heap.size, 1, none⟩) hl _⟩, ?_⟩
    exact but_far (but_far ((But.of HX1.out).trans x1.out) (p := ⟨w.heap.size, 0, none⟩) (Nat.le_refl _) _) (p := ⟨w.heap.size, 1, none⟩) (Nat.le_refl _) _
end Go.Proofs.YtmallladeidkpaaGreatDoor.Pa

/- What the parser's block returns, where its statements are read. -/
namespace Go.Proofs.YtmallladeidkpaaGreatDoor.Pa
open Go.RowKit Go.Sort Go.Lib Go.Shelf Fx Lx Tr

/-- Whatever a part of the parser leaves is shorter. -/
def Eats {α : Type} (x : PR α) (m : Nat) : Prop := ∀ v r, x = .ok v r → r.length < m
theorem Eats.bind {α β : Type} {x : PR α} {g : α → List Tok → PR β} {m : Nat} (h : ∀ v r, x = .ok v r → Eats (g v r) m) : Eats (x.bind g) m := by
  intro v r e
  cases x with
  | ok u s => exact h u s rfl v r e
  | err ln er => cases e
theorem Eats.ok {α : Type} {v : α} {r : List Tok} {m : Nat} (h : r.length < m) : Eats (PR.ok v r) m := by
  intro v' r' e; injection e with _ e; rw [← e]; exact h
theorem Eats.err {α : Type} {ln er : Int} {m : Nat} : Eats (PR.err ln er : PR α) m := by
  intro v' r' e; cases e
theorem Eats.mono {α : Type} {x : PR α} {m n : Nat} (h : Eats x m) (hn : m ≤ n) : Eats x n := fun v r e => Nat.lt_of_lt_of_le (h v r e) hn
theorem eats_mark (last : Int) (m : List UInt8) (r : List Tok) : Eats (pMark last m r) r.length := fun v s h => by have := pMark_len h; omega
theorem eats_name (last : Int) (r : List Tok) : Eats (pName last r) r.length := fun v s h => by have := pName_len h; omega
theorem eats_val (last : Int) (r : List Tok) : Eats (pVal last r) r.length := fun v s h => by have := pVal_len h; omega
theorem eats_attr (last : Int) (r : List Tok) : Eats (pAttr last r) r.length := by
  unfold pAttr
  refine Eats.bind fun v s h => ?_
  have := pName_len h
  refine Eats.bind fun v s h => ?_
  have := pMark_len h
  refine Eats.bind fun v s h => ?_
  have := pVal_len h
  exact Eats.ok (by omega)
theorem eats_attrs (last : Int) : ∀ (f : Nat) (out : List Two) (r : List Tok), Eats (pAttrs last f out r) r.length
  | 0, _, _ => by rw [pAttrs]; exact Eats.err
  | f + 1, out, r => by
    rw [pAttrs]
    by_cases hi : isT 5 [93] r = true
    · rw [if_pos hi]; have := isT_cons hi; exact Eats.ok (by omega)
    · rw [if_neg hi]
      refine Eats.bind fun v s h => ?_
      have hs : s.length ≤ r.length := by
        by_cases h0 : out.isEmpty = true
        · rw [if_pos h0] at h; injection h with _ h; rw [← h]; exact Nat.le_refl _
        · rw [if_neg h0] at h; have := pMark_len h; omega
      refine Eats.bind fun q s' h' => ?_
      have := eats_attr last s q s' h'
      exact (eats_attrs last f (out ++ [q]) s').mono (by omega)
theorem eats_attrsB (last : Int) (r : List Tok) : Eats (pAttrsB last r) r.length := by
  unfold pAttrsB
  refine Eats.bind fun v s h => ?_
  have := pMark_len h
  exact (eats_attrs last _ _ _).mono (by omega)
theorem eats_opt (last : Int) (r : List Tok) : Eats (pOpt last r) r.length := by
  unfold pOpt
  refine Eats.bind fun v s h => ?_
  have hs : s.length ≤ r.length := by
    by_cases hi : isT 5 [91] r = true
    · rw [if_pos hi] at h; have := eats_attrsB last r v s h; omega
    · rw [if_neg hi] at h; injection h with _ h; rw [← h]; exact Nat.le_refl _
  refine Eats.bind fun q s' h' => ?_
  have := pMark_len h'
  exact Eats.ok (by omega)
theorem port_le {last : Int} {n : ByteArray} {r s : List Tok} {q : Two} (h : pPort last n r = .ok q s) : s.length ≤ r.length := by
  unfold pPort at h
  by_cases hi : isT 5 [58] r = true
  · rw [if_pos hi] at h
    have := isT_cons hi
    have := Eats.bind (m := r.length) (fun v s h => by have := pName_len h; exact Eats.ok (v := (n, v)) (r := s) (by omega)) q s h
    omega
  · rw [if_neg hi] at h; injection h with _ h; rw [← h]; exact Nat.le_refl _
theorem eats_ref (last : Int) (r : List Tok) : Eats (pRef last r) r.length := by
  unfold pRef
  refine Eats.bind fun v s h => ?_
  have := pName_len h
  intro q s' h'
  have := port_le h'
  omega
theorem refs_le (last : Int) (ar : List UInt8) : ∀ (f : Nat) (out : List Two) (r : List Tok), Eats (pRefs last ar f out r) (r.length + 1)
  | 0, _, _ => by rw [pRefs]; exact Eats.err
  | f + 1, out, r => by
    rw [pRefs]
    by_cases hi : (decide (out.length < 2) || isT 5 ar r) = true
    · rw [if_pos hi]
      refine Eats.bind fun v s h => ?_
      have := pMark_len h
      refine Eats.bind fun q s' h' => ?_
      have := eats_ref last s q s' h'
      exact (refs_le last ar f _ s').mono (by omega)
    · rw [if_neg hi]; exact Eats.ok (by omega)
theorem eats_chain (last : Int) (ar : List UInt8) (r : List Tok) : Eats (pChain last ar r) r.length := by
  unfold pChain
  refine Eats.bind fun n s h => ?_
  have := pName_len h
  by_cases hi : (isT 5 [58] s || isT 5 ar s) = false
  · rw [if_pos hi]
    refine Eats.bind fun v s' h' => ?_
    have := eats_opt last s v s' h'
    exact Eats.ok (by omega)
  · rw [if_neg hi]
    refine Eats.bind fun v s' h' => ?_
    have := port_le h'
    refine Eats.bind fun v s2 h2 => ?_
    have := refs_le last ar _ _ _ v s2 h2
    refine Eats.bind fun v s3 h3 => ?_
    have := eats_opt last s2 v s3 h3
    exact Eats.ok (by omega)
theorem eats_set (last : Int) (r : List Tok) : Eats (pSet last r) r.length := by
  unfold pSet
  refine Eats.bind fun n s h => ?_
  have := pName_len h
  refine Eats.bind fun v s2 h2 => ?_
  have := pMark_len h2
  refine Eats.bind fun v s3 h3 => ?_
  have := pVal_len h3
  refine Eats.bind fun v s4 h4 => ?_
  have := pMark_len h4
  exact Eats.ok (by omega)
theorem eats_def (last : Int) (x : List UInt8) (r : List Tok) : Eats (pDef last x r) r.length := by
  unfold pDef
  refine Eats.bind fun n s h => ?_
  have := eats_attrsB last r n s h
  refine Eats.bind fun v s2 h2 => ?_
  have := pMark_len h2
  exact Eats.ok (by omega)
theorem eats_all (last : Int) (ar : List UInt8) : ∀ (f : Nat) (dep : Nat) (r : List Tok), Eats (pStm last ar f dep r) r.length ∧ Eats (pBlock last ar f dep r) r.length ∧ ∀ out, Eats (pStms last ar f dep out r) r.length
  | 0, dep, r => ⟨by rw [pStm]; exact Eats.err, by rw [pBlock]; exact Eats.err, fun out => by rw [pStms]; exact Eats.err⟩
  | f + 1, dep, r => by
    refine ⟨?_, ?_, fun out => ?_⟩
    · rw [pStm]
      by_cases h1 : (isT 2 kNode r || isT 2 kEdge r) = true
      · rw [if_pos h1]
        have h2 : r.tail.length + 1 = r.length := by
          rcases Bool.or_eq_true _ _ ▸ h1 with h | h <;> exact isT_cons h
        exact (eats_def last _ _).mono (by omega)
      rw [if_neg h1]
      by_cases h2 : isT 2 kSet r = true
      · rw [if_pos h2]; have := isT_cons h2; exact (eats_set last _).mono (by omega)
      rw [if_neg h2]
      by_cases h3 : isT 2 kClus r = true
      · rw [if_pos h3]
        have := isT_cons h3
        refine Eats.bind fun n s h => ?_
        have := pName_len h
        refine Eats.bind fun b s' h' => ?_
        have := (eats_all last ar f (dep + 1) s).2.1 b s' h'
        exact Eats.ok (by omega)
      · rw [if_neg h3]; exact eats_chain last ar r
    · rw [pBlock]
      by_cases h1 : isT 5 [123] r = true ∧ 6 < dep
      · rw [if_pos h1]; exact Eats.err
      · rw [if_neg h1]
        refine Eats.bind fun v s h => ?_
        have := pMark_len h
        exact ((eats_all last ar f dep s).2.2 []).mono (by omega)
    · rw [pStms]
      by_cases hi : isT 5 [125] r = true
      · rw [if_pos hi]; have := isT_cons hi; exact Eats.ok (by omega)
      · rw [if_neg hi]
        refine Eats.bind fun x s h => ?_
        have := (eats_all last ar f dep r).1 x s h
        exact ((eats_all last ar f dep s).2.2 (out ++ [x])).mono (by omega)
/-- What statement answers, with this fuel. -/
def StmC (pb : Nat) (a : Option Addr) (cap : Nat) (T : List Tok) (ar : ByteArray) (f : Nat) : Prop := ∀ (dep : Nat) (r : List Tok) (w : World), dep ≤ 6 → 2 * r.length + 2 ≤ f → PSt pb a cap T ar dep r w →
  Calls Tryz.prog 51 #[.pointer (some ⟨pb, 0, none⟩)] w fun e w' =>
    POut pb a cap T ar dep (fun s u w' => StmV (w.heap.size ≤ ·) s u w') (pStm (lastL T) ar.data.toList f dep r) e w' ∧ But pb w w'
/-- What block answers, with this fuel. -/
def BlockC (pb : Nat) (a : Option Addr) (cap : Nat) (T : List Tok) (ar : ByteArray) (f : Nat) : Prop := ∀ (dep d : Nat) (r : List Tok) (w : World), dep ≤ 6 → d ≤ 1 → 2 * r.length + 3 ≤ f → PSt pb a cap T ar dep r w →
  Calls Tryz.prog 36 #[.pointer (some ⟨pb, 0, none⟩), .int .i64 d] w fun e w' =>
    POut pb a cap T ar dep (fun L u w' => StmsV (w.heap.size ≤ ·) L u w') (pBlock (lastL T) ar.data.toList f (dep + d) r) e w' ∧ But pb w w'
theorem PSt.dep_cell {pb : Nat} {a : Option Addr} {cap : Nat} {T : List Tok} {ar : ByteArray} {dep : Int} {r : List Tok} {w : World} (h : PSt pb a cap T ar dep r w) :
    w.cell? ⟨pb, 3, none⟩ = some (.int .i64 dep) ∧ w.frozen? ⟨pb, 3, none⟩ = false ∧ w.cell? ⟨pb, 2, none⟩ = some (.string ar) := by
  obtain ⟨k, hk, hn, hd, hc, _⟩ := h
  obtain ⟨_, _, p2, p3, p4⟩ := hc.cells
  exact ⟨p3, p4 3, p2⟩
theorem PSt.dep_set {pb : Nat} {a : Option Addr} {cap : Nat} {T : List Tok} {ar : ByteArray} {dep : Int} {r : List Tok} {w : World} (h : PSt pb a cap T ar dep r w) (dep' : Int) :
    PSt pb a cap T ar dep' r (w.setCell ⟨pb, 3, none⟩ (.int .i64 dep')) ∧ But pb w (w.setCell ⟨pb, 3, none⟩ (.int .i64 dep')) := by
  obtain ⟨k, hk, hn, hd, hc, ht, he, hm⟩ := h
  have hb : But pb w (w.setCell ⟨pb, 3, none⟩ (.int .i64 dep')) := (But.refl pb w).setCell ⟨pb, 3, none⟩ rfl _
  exact ⟨⟨k, hk, hn, hd, hc.depth dep', ht.but hb, he.but hb, hm⟩, hb⟩
theorem info_stm : (Tryz.prog.info? 44).map (fun i => (i.zero, i.size, i.bytes)) = some (some (.agg #[.int .i64 0, .string ⟨#[]⟩, .slice none 0 0, .slice none 0 0, .slice none 0 0]), 5, 96) := by kernel_rfl
end Go.Proofs.YtmallladeidkpaaGreatDoor.Pa
