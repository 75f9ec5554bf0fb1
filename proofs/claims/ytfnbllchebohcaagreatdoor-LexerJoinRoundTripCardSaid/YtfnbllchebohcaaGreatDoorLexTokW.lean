/- What the lexer's Tokenize returns: the walk. -/
import Derived.Test.YtfnbllchebohcaaGreatDoorLexTok
namespace Go.Proofs.YtfnbllchebohcaaGreatDoor.Lx
open Go.RowKit Go.Sort Go.Lib Go.Shelf Fx

def strSize : Value → Nat
  | .string s => s.size
  | _ => 0
theorem skip_lt (s : ByteArray) (h0 : 0 < s.size) (h : s[0].toNat ≠ 10) : (skip s.data.toList).1.length + (if (skip s.data.toList).2 then 1 else 0) ≤ s.size - 1 := by
  have hd := drop_at s 0 h0
  rw [List.drop_zero] at hd
  have hl := size_len s
  rw [hd] at hl ⊢
  unfold skip
  rw [if_neg (fun e => h (by rw [e]; rfl))]
  have := skip_len (s.data.toList.drop (0 + 1))
  simp only [List.length_cons] at hl
  omega
theorem cell_new2 (w : World) (A C : Obj) (l : List Value) (T : TypeId) (hC : C = .cells l.toArray T) (j : Nat) (u : Value) (h : l[j]? = some u) :
    ((w.alloc A).alloc C).cell? ((⟨w.heap.size + 1, 0, none⟩ : Addr).add j) = some u := by
  have hb := heap_alloc_new (w.alloc A) C
  rw [World.size_alloc, hC] at hb
  have e : (⟨w.heap.size + 1, 0, none⟩ : Addr).add j = ⟨w.heap.size + 1, j, none⟩ := by simp [Addr.add]; exact fun h => h.symm
  rw [e, hC, Lib.cell_of_heap hb]
  simpa using h
/-- A list of tokens, its line and its error, as they are handed back in w. -/
def TokRes (B : Nat) (R : List Tok × Int × Int) (e : Ending) (w : World) : Prop :=
  ∃ v, e = .returned (.tuple #[v, .int .i64 R.2.1, .int .i64 R.2.2]) ∧ w.ownsRow B 31 4 v R.1.length (toksC R.1)

set_option maxHeartbeats 8000000 in
set_option maxRecDepth 1000000 in
theorem tokenize_any (s0 : ByteArray) (w : World) (hs0 : s0.size ≤ 9223372036854775807) (he : Env w) :
    Calls Tryz.prog 9 #[.string s0] w fun e w' => TokRes w.heap.size (tokenize s0.data.toList) e w' ∧ Ext w w' := by
  have HE := Lib.hid he
  clear he
  by_cases hbig : 16384 < s0.size
  · have hr : tokenize s0.data.toList = ([], 0, 2) := by unfold tokenize; rw [if_pos (by rw [← size_len]; exact hbig)]
    rw [hr]
    go_enter Tryz.func9, Tryz.ntmps9
    go_wp2
    go_returns
    exact ⟨⟨_, rfl, World.ownsRow_nil _ _ _ _⟩, Ext.refl _⟩
  · have hr : tokenize s0.data.toList = tokz s0.size 1 [] s0.data.toList := by unfold tokenize; rw [if_neg (by rw [← size_len]; exact hbig), ← size_len]
    obtain ⟨R, hR⟩ : ∃ R, R = tokenize s0.data.toList := ⟨_, rfl⟩
    rw [← hR] at hr ⊢
    have HR := Lib.hid hr
    clear hr hR
    obtain ⟨i0, hi, hz0, hz1, hz2⟩ := info_parts info_tok
    go_enter Tryz.func9, Tryz.ntmps9
    go_wp2_with fail
    go_loopw [0, 5, 6] (fun src out line wr => ∃ (s : ByteArray) (f ln : Nat) (L : List Tok), src = .string s ∧ line = .int .i64 ln ∧ wr.ownsRow w.heap.size 31 4 out L.length (toksC L) ∧ Ext w wr ∧ Hid (R = tokz f ln L s.data.toList) ∧ s.size ≤ f ∧ L.length + s.size ≤ 16384 ∧ ln + s.size ≤ 16385)
      (fun src _ _ _ => strSize src)
    case atStart => exact ⟨s0, s0.size, 1, [], rfl, rfl, World.ownsRow_nil _ _ _ _, Ext.refl _, HR, by omega, by simp; omega, by omega⟩
    case round =>
      obtain ⟨s, f, ln, L, rfl, rfl, hown, hx, ha, hf, hl, hln⟩ := hrel
      clear HR
      have hxs := hx.size
      by_cases hp : 0 < s.size
      · obtain ⟨f, rfl⟩ : ∃ f', f = f' + 1 := ⟨f - 1, by omega⟩
        have hst := ha.out
        have hsd := drop_at s 0 hp
        rw [List.drop_zero] at hsd
        rw [hsd] at hst
        have hw := tokz_ways f ln L s[0] _ R hst
        rw [← hsd] at hw
        have e1 : (s.extract 1 s.size).data.toList = s.data.toList.drop 1 := by rw [extract_from]
        have e1s : (s.extract 1 s.size).size = s.size - 1 := by simp
        rw [← e1] at hw
        clear hst ha hsd e1
        rcases hw with ⟨c1, hf'⟩ | ⟨c1, hf'⟩ | ⟨c1, hf'⟩ | ⟨c1, hf'⟩ | ⟨c1, c2, c3, c4, h5, hf'⟩ | ⟨c1, c2, c3, c4, h5, hf'⟩
        · obtain ⟨f1, _⟩ := eq_facts (x := (s[0].toNat : Int)) (k := 10) (by omega)
          go_wp2
          go_roundw
          case rel => exact ⟨s.extract 1 s.size, f, ln + 1, L, rfl, by go_num, hown, hx, hf', by omega, by omega, by omega⟩
          case measure => simp only [strSize]; omega
        · obtain ⟨f1, _⟩ := ne_facts (x := (s[0].toNat : Int)) (k := 10) (by omega)
          obtain ⟨f2, _⟩ := eq_facts (x := (s[0].toNat : Int)) (k := 32) (by omega)
          go_wp2
          go_roundw
          case rel => exact ⟨s.extract 1 s.size, f, ln, L, rfl, rfl, hown, hx, hf', by omega, by omega, by omega⟩
          case measure => simp only [strSize]; omega
        · obtain ⟨f1, _⟩ := ne_facts (x := (s[0].toNat : Int)) (k := 10) (by omega)
          obtain ⟨f2, _⟩ := ne_facts (x := (s[0].toNat : Int)) (k := 32) (by omega)
          obtain ⟨f3, _⟩ := eq_facts (x := (s[0].toNat : Int)) (k := 9) (by omega)
          go_wp2
          go_roundw
          case rel => exact ⟨s.extract 1 s.size, f, ln, L, rfl, rfl, hown, hx, hf', by omega, by omega, by omega⟩
          case measure => simp only [strSize]; omega
        · obtain ⟨f1, _⟩ := ne_facts (x := (s[0].toNat : Int)) (k := 10) (by omega)
          obtain ⟨f2, _⟩ := ne_facts (x := (s[0].toNat : Int)) (k := 32) (by omega)
          obtain ⟨f3, _⟩ := ne_facts (x := (s[0].toNat : Int)) (k := 9) (by omega)
          obtain ⟨f4, _⟩ := eq_facts (x := (s[0].toNat : Int)) (k := 35) (by omega)
          have hsk := skip_lt s hp (by omega)
          obtain ⟨a, hae⟩ : ∃ a : ByteArray, (⟨(skip s.data.toList).1.toArray⟩ : ByteArray) = a := ⟨_, rfl⟩
          obtain ⟨p, hpe⟩ : ∃ p, (skip s.data.toList).2 = p := ⟨_, rfl⟩
          have had : (skip s.data.toList).1 = a.data.toList := by rw [← hae]
          have has : (skip s.data.toList).1.length = a.size := by rw [had, size_len]
          rw [has, hpe] at hsk
          rw [hpe, had] at hf'
          have HAE := Lib.hid hae; have HPE := Lib.hid hpe
          clear hae hpe had has
          go_wp2_with fail
          refine (cutnl_n s a p _ (by omega) (HE.out.ext hx) HAE.out HPE.out).mono ?_
          rintro e w1 ⟨⟨b, rfl⟩, x1⟩
          cases p
          · have hsk' : a.size ≤ s.size - 1 := hsk
            clear hsk
            go_wp2
            go_roundw
            case rel => exact ⟨a, f, ln, L, rfl, rfl, own_ext hown x1, hx.trans x1, hf', by omega, by omega, by omega⟩
            case measure => simp only [strSize]; omega
          · have hsk' : a.size + 1 ≤ s.size - 1 := hsk
            clear hsk
            go_wp2
            go_roundw
            case rel => exact ⟨a, f, ln + 1, L, rfl, by go_num, own_ext hown x1, hx.trans x1, hf', by omega, by omega, by omega⟩
            case measure => simp only [strSize]; omega
        · obtain ⟨f1, _⟩ := ne_facts (x := (s[0].toNat : Int)) (k := 10) (by omega)
          obtain ⟨f2, _⟩ := ne_facts (x := (s[0].toNat : Int)) (k := 32) (by omega)
          obtain ⟨f3, _⟩ := ne_facts (x := (s[0].toNat : Int)) (k := 9) (by omega)
          obtain ⟨f4, _⟩ := ne_facts (x := (s[0].toNat : Int)) (k := 35) (by omega)
          obtain ⟨T, n, c, hN⟩ : ∃ T n c, next s.data.toList = (T, n, c) := ⟨_, _, _, rfl⟩
          have hnl := next_len s.data.toList (by rw [← size_len]; exact hp)
          rw [hN] at hnl h5 hf'
          have h5 : c = 0 := h5
          subst h5
          obtain ⟨n1, n2⟩ : 1 ≤ n ∧ n ≤ s.size := by rw [size_len]; exact hnl rfl
          have hnx := next_any s wr hp (by omega) (HE.out.ext hx)
          rw [hN] at hnx
          have HNX := Lib.hid hnx
          have e2 : (s.extract n s.size).data.toList = s.data.toList.drop n := by rw [extract_from]
          have e2s : (s.extract n s.size).size = s.size - n := by simp
          have hf2 : Hid (R = tokz f ln (L ++ [(⟨T.kind, T.text, T.n, ln⟩ : Tok)]) (s.extract n s.size).data.toList) := Lib.hid (by rw [e2]; exact hf'.out)
          clear hnl hnx hN e2 hf'
          go_wp2_with fail
          refine HNX.out.mono ?_
          rintro e w1 ⟨rfl, x1⟩
          unfold nextV tokV
          have hx1 := hx.trans x1
          have hxs1 := hx1.size
          have hown1 := own_ext hown x1
          go_wp2_with (at_builtin; refine wpList_append_own _ rfl _ _ 26 rfl w.heap.size 31 i0 _ 4 40 Tryz.underlying26 hi hz0 hz1 hz2 rfl (by decide) _ _ _ rfl ((hown1.alloc _).alloc _) ⟨w1.heap.size + 1, 0, none⟩ 1 1 (tokC ⟨T.kind, T.text, T.n, ln⟩) rfl rfl ?c1 ?c2 ?c3 ?c4 ?c5 ?_)
          case c1 => exact fun j u hj => cell_new2 w1 _ _ (tokC ⟨T.kind, T.text, T.n, ln⟩) 31 rfl j u hj
          case c2 => intro u hu; simp [tokC] at hu; rcases hu with rfl | rfl | rfl | rfl <;> rfl
          case c3 => unfold maxLen; omega
          case c4 => omega
          case c5 => simp; omega
          intro v' w2 hown' hgrow _
          have hown2 : w2.ownsRow w.heap.size 31 4 v' (L ++ [(⟨T.kind, T.text, T.n, ln⟩ : Tok)]).length (toksC (L ++ [(⟨T.kind, T.text, T.n, ln⟩ : Tok)])) := by
            rw [toksC_snoc]; simpa using hown'
          have hx2 : Ext w w2 := Below.grown ((hx1.alloc _).alloc _) hgrow (by simp; omega) (fun k hk => (hown1.lt k hk).1)
          clear hown' hgrow hown hown1
          go_wp2
          go_roundw
          case rel => exact ⟨s.extract n s.size, f, ln, L ++ [(⟨T.kind, T.text, T.n, ln⟩ : Tok)], rfl, rfl, hown2, hx2, hf2, by omega, by simp; omega, by omega⟩
          case measure => simp only [strSize]; omega
        · obtain ⟨f1, _⟩ := ne_facts (x := (s[0].toNat : Int)) (k := 10) (by omega)
          obtain ⟨f2, _⟩ := ne_facts (x := (s[0].toNat : Int)) (k := 32) (by omega)
          obtain ⟨f3, _⟩ := ne_facts (x := (s[0].toNat : Int)) (k := 9) (by omega)
          obtain ⟨f4, _⟩ := ne_facts (x := (s[0].toNat : Int)) (k := 35) (by omega)
          obtain ⟨T, n, c, hN⟩ : ∃ T n c, next s.data.toList = (T, n, c) := ⟨_, _, _, rfl⟩
          rw [hN] at h5 hf'
          have h5 : c ≠ 0 := h5
          have hnx := next_any s wr hp (by omega) (HE.out.ext hx)
          rw [hN] at hnx
          have HNX := Lib.hid hnx
          clear hnx hN
          go_wp2_with fail
          refine HNX.out.mono ?_
          rintro e w1 ⟨rfl, x1⟩
          unfold nextV tokV
          have hx1 := hx.trans x1
          go_wp2
          go_returns
          rw [hf'.out]
          exact ⟨⟨_, rfl, World.ownsRow_nil _ _ _ _⟩, hx1.alloc _⟩
      · have hnil : s.data.toList = [] := List.eq_nil_of_length_eq_zero (by rw [← size_len]; omega)
        have hR : R = (L, 0, 0) := by
          rw [ha.out, hnil]; cases f <;> rfl
        have HR := Lib.hid hR
        clear ha hR hnil
        go_wp2
        go_returns
        rw [HR.out]
        exact ⟨⟨_, rfl, hown⟩, hx⟩
end Go.Proofs.YtfnbllchebohcaaGreatDoor.Lx
