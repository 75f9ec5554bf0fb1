/- Packed texts: ParFew, ParCnt, TreOpen -/
import Derived.Test.YtmallladeidkpaaGreatDoorPw12
import Derived.Test.YtmallladeidkpaaGreatDoorPw02
import Derived.Test.YtmallladeidkpaaGreatDoorPw15
import Derived.Test.YtmallladeidkpaaGreatDoorPw33
import Derived.Test.YtmallladeidkpaaGreatDoorPw17
import Derived.Test.YtmallladeidkpaaGreatDoorRows
import Derived.Test.YtmallladeidkpaaGreatDoorPw05
import Derived.ProofKit
import Derived.Deep.Slices
import Derived.OpenShut
set_option linter.unusedVariables false
set_option linter.unusedSimpArgs false
/- What few returns, where a tree's statements are few, and where not. -/
namespace Go.Proofs.YtmallladeidkpaaGreatDoor.Pa
open Go.RowKit Go.Sort Go.Lib Go.Shelf Fx Lx Tr

mutual
def fewS (dep : Nat) : Stm → Bool
  | .mk _ _ rs al b => decide (rs.length ≤ 10) && decide (al.length ≤ 20) && (decide (b.length ≤ 20) && decide (dep ≤ 7) && fewA (dep + 1) b)
def fewA (dep : Nat) : List Stm → Bool
  | [] => true
  | x :: r => fewS dep x && fewA dep r
end
/-- Statements are few, at few levels. -/
def fewB (dep : Nat) (L : List Stm) : Bool := decide (L.length ≤ 20) && decide (dep ≤ 8) && fewA dep L
theorem fewS_mk (dep : Nat) (k : Int) (n : ByteArray) (rs al : List Two) (b : List Stm) : fewS dep (.mk k n rs al b) = (decide (rs.length ≤ 10) && decide (al.length ≤ 20) && fewB (dep + 1) b) := by
  rw [fewS]; unfold fewB
  rw [show decide (dep + 1 ≤ 8) = decide (dep ≤ 7) by rw [decide_eq_decide]; omega]
theorem fewA_cons (dep : Nat) (x : Stm) (r : List Stm) : fewA dep (x :: r) = (fewS dep x && fewA dep r) := by rw [fewA]
theorem fewA_nil (dep : Nat) : fewA dep [] = true := by rw [fewA]
set_option maxHeartbeats 4000000 in
set_option maxRecDepth 100000 in
theorem few_any : ∀ (K : Nat) (L : List Stm) (b : Option Addr) (cap n dep : Nat) (w : World), sizeL L ≤ K → L.length ≤ maxLen → dep ≤ 9 → n ≤ w.heap.size → StmsAt n w b L →
    Calls Tryz.prog 6 #[.slice b L.length cap, .int .i64 dep] w fun e w' => e = .returned (.bool (fewB dep L)) ∧ Ext w w' := by
  intro K
  induction K using Nat.strongRecOn with
  | _ K ih =>
  intro L b cap n dep w hK hmax hdep hn hL
  obtain ⟨V, hV⟩ : ∃ V, V = fewB dep L := ⟨_, rfl⟩
  rw [← hV]
  unfold fewB at hV
  obtain ⟨N, hN⟩ : ∃ N, N = L.length := ⟨_, rfl⟩
  rw [← hN] at hV hmax ⊢
  unfold maxLen at hmax
  by_cases h20 : N ≤ 20
  · by_cases h8 : dep ≤ 8
    · rw [decide_eq_true h20, decide_eq_true h8, Bool.true_and, Bool.true_and] at hV
      have f1 : decide ((20 : Int) < N) = false := decide_eq_false (by omega)
      have f2 : decide ((8 : Int) < dep) = false := decide_eq_false (by omega)
      have f1' : ¬ (20 : Int) < N := by omega
      have f2' : ¬ (8 : Int) < dep := by omega
      have HV : Hid (V = fewA dep (L.drop 0)) := Lib.hid hV
      have HN := Lib.hid hN; have HL := Lib.hid hL; have HK := Lib.hid hK; have HNW := Lib.hid hn; have HIH := Lib.hid ih
      clear hV hN hL hK hn ih
      go_enter Tryz.func6, Tryz.ntmps6
      go_wp2_with fail
      go_loopw [5] (fun i' wr => ∃ k : Nat, k ≤ N ∧ i' = .int .i64 k ∧ Ext w wr ∧ Hid (V = fewA dep (L.drop k))) (fun i' _ => N - (RowKit.intOf i').toNat)
      case atStart => exact ⟨0, by omega, rfl, Ext.refl _, HV⟩
      case round =>
        obtain ⟨k, hk, rfl, hx, hb⟩ := hrel
        clear HV
        by_cases hlt : k < N
        · have hkl : k < L.length := by rw [← HN.out]; exact hlt
          have hbn : Below n w wr := Below.mono hx HNW.out
          obtain ⟨g, o, rfl, hg, hst⟩ := StmsAt.at L (StmsAt.below hbn L HL.out) k hkl
          have hsz : sizeS L[k] ≤ K := Nat.le_trans (sizeL_at L k hkl) HK.out
          have hbv := hb.out
          rw [List.drop_eq_getElem_cons hkl, fewA_cons] at hbv
          obtain ⟨s, hs⟩ : ∃ s, s = L[k] := ⟨_, rfl⟩
          rw [← hs] at hst hsz hbv
          clear hs hb
          obtain ⟨kind, nm, rs, al, body⟩ := s
          have hbd := sizeS_body (.mk kind nm rs al body)
          simp only [Stm.body, Stm.name, Stm.refs, Stm.attrs] at hbd
          rw [StmAt] at hst
          obtain ⟨r, rc, a', atc, b', bc, c0, c1, c2, c3, c4, hr, ha, hbs, hl1, hl2, hl3, hl4, hl5⟩ := hst
          have hwn : n ≤ wr.heap.size := Nat.le_trans HNW.out hx.size
          have hcall := HIH.out (sizeL body) (by omega) body b' bc n (dep + 1) wr (Nat.le_refl _) hl5 (by omega) hwn (StmsAt.below (Below.refl _ _) body hbs)
          rw [fewS_mk] at hbv
          have hrl : rs.length ≤ 9223372036854775807 := by unfold maxLen at hl3; omega
          have hal : al.length ≤ 9223372036854775807 := by unfold maxLen at hl4; omega
          generalize fewB (dep + 1) body = cc at hbv hcall
          have hdp : ((dep + 1 : Nat) : Int) = (dep : Int) + 1 := by omega
          rw [hdp] at hcall
          have HC := Lib.hid hcall
          clear hcall hbd hsz hr ha hbs hl1 hl2 hl3 hl4 hl5 hg hbn hwn hdp
          generalize rs.length = R at *
          generalize al.length = A at *
          generalize body.length = B at *
          by_cases e1 : R ≤ 10
          · have g1 : ¬ (10 : Int) < R := by omega
            by_cases e2 : A ≤ 20
            · have g2 : ¬ (20 : Int) < A := by omega
              rw [decide_eq_true e1, decide_eq_true e2, Bool.true_and, Bool.true_and] at hbv
              cases cc
              · rw [Bool.false_and] at hbv
                have hf := Lib.hid hbv
                clear hbv
                go_wp2_with (go_at_call 6; refine HC.out.mono ?_; rintro e w5 ⟨rfl, x5⟩)
                go_returns
                exact ⟨by rw [hf.out]; rfl, hx.trans x5⟩
              · rw [Bool.true_and] at hbv
                have hf := Lib.hid hbv
                clear hbv
                go_wp2_with (go_at_call 6; refine HC.out.mono ?_; rintro e w5 ⟨rfl, x5⟩)
                go_roundw
                case rel => exact ⟨k + 1, by omega, by go_num, hx.trans x5, hf⟩
                case measure => simp [RowKit.intOf]; omega
            · have g2 : (20 : Int) < A := by omega
              have hf : Hid (V = false) := Lib.hid (by rw [hbv, decide_eq_false e2]; simp)
              clear hbv e2
              go_wp2_with fail
              go_returns
              exact ⟨by rw [hf.out]; rfl, hx⟩
          · have g1 : (10 : Int) < R := by omega
            have hf : Hid (V = false) := Lib.hid (by rw [hbv, decide_eq_false e1]; simp)
            clear hbv e1
            go_wp2_with fail
            go_returns
            exact ⟨by rw [hf.out]; rfl, hx⟩
        · have hf : Hid (V = true) := Lib.hid (by rw [hb.out, List.drop_eq_nil_of_le (by rw [← HN.out]; omega), fewA_nil])
          clear hb
          go_wp2_with fail
          go_returns
          exact ⟨by rw [hf.out]; rfl, hx⟩
    · have f1' : ¬ (20 : Int) < N := by omega
      have f2' : (8 : Int) < dep := by omega
      have hf : Hid (V = false) := Lib.hid (by rw [hV, decide_eq_false h8]; simp)
      clear hV hN hL hK hn ih h8
      go_enter Tryz.func6, Tryz.ntmps6
      go_wp2_with fail
      go_returns
      exact ⟨by rw [hf.out]; rfl, Ext.refl _⟩
  · have f1' : (20 : Int) < N := by omega
    have hf : Hid (V = false) := Lib.hid (by rw [hV, decide_eq_false h20]; simp)
    clear hV hN hL hK hn ih h20
    go_enter Tryz.func6, Tryz.ntmps6
    go_wp2_with fail
    go_returns
    exact ⟨by rw [hf.out]; rfl, Ext.refl _⟩
end Go.Proofs.YtmallladeidkpaaGreatDoor.Pa

/- How many statements a tree of few statements has, and how much a valid one holds; no program in sight. -/
namespace Go.Proofs.YtmallladeidkpaaGreatDoor.Pa
open Go.Lib Fx Lx Tr

def cntF : Nat → Nat
  | 0 => 0
  | k + 1 => 20 * (1 + cntF k)
theorem fewB_parts {dep : Nat} {L : List Stm} (h : fewB dep L = true) : L.length ≤ 20 ∧ dep ≤ 8 ∧ fewA dep L = true := by
  unfold fewB at h
  rw [Bool.and_eq_true, Bool.and_eq_true, decide_eq_true_eq, decide_eq_true_eq] at h
  exact ⟨h.1.1, h.1.2, h.2⟩
theorem fewS_parts {dep : Nat} {x : Stm} (h : fewS dep x = true) : x.refs.length ≤ 10 ∧ x.attrs.length ≤ 20 ∧ fewB (dep + 1) x.body = true := by
  obtain ⟨k, n, rs, al, b⟩ := x
  rw [fewS_mk, Bool.and_eq_true, Bool.and_eq_true, decide_eq_true_eq, decide_eq_true_eq] at h
  exact ⟨h.1.1, h.1.2, h.2⟩
/-- The statements of few statements, in number, and what each holds. -/
theorem few_count : ∀ (k : Nat) (L : List Stm) (dep lev : Nat), dep + k = 9 → fewB dep L = true → (flatL lev L).length ≤ cntF k ∧ ∀ p ∈ flatL lev L, p.1.refs.length ≤ 10 ∧ p.1.attrs.length ≤ 20
  | 0, L, dep, lev, hk, h => by have := (fewB_parts h).2.1; omega
  | k + 1, L, dep, lev, hk, h => by
    obtain ⟨h20, _, hA⟩ := fewB_parts h
    have H : ∀ M : List Stm, fewA dep M = true → (flatL lev M).length ≤ M.length * (1 + cntF k) ∧ ∀ p ∈ flatL lev M, p.1.refs.length ≤ 10 ∧ p.1.attrs.length ≤ 20 := by
      intro M
      induction M with
      | nil => intro _; rw [flatL_nil]; exact ⟨by simp, fun p hp => by cases hp⟩
      | cons x r ih =>
        intro hM
        rw [fewA_cons, Bool.and_eq_true] at hM
        obtain ⟨g1, g2, g3⟩ := fewS_parts hM.1
        obtain ⟨i1, i2⟩ := ih hM.2
        obtain ⟨j1, j2⟩ := few_count k x.body (dep + 1) (if x.kind = 5 then lev + 1 else lev) (by omega) g3
        rw [flatL_cons, flatS_eq]
        refine ⟨?_, fun p hp => ?_⟩
        · rw [List.length_append, List.length_cons, List.length_cons, Nat.add_mul]
          omega
        · rcases List.mem_append.1 hp with hp | hp
          · rcases List.mem_cons.1 hp with rfl | hp
            · exact ⟨g1, g2⟩
            · exact j2 p hp
          · exact i2 p hp
    obtain ⟨h1, h2⟩ := H L hA
    refine ⟨Nat.le_trans h1 ?_, h2⟩
    exact Nat.mul_le_mul_right _ h20
theorem few_flat {L : List Stm} (h : fewB 0 L = true) : (flatL 0 L).length ≤ 1099511627776 ∧ ∀ p ∈ flatL 0 L, p.1.refs.length ≤ 10 ∧ p.1.attrs.length ≤ 20 := by
  obtain ⟨h1, h2⟩ := few_count 9 L 0 0 rfl h
  exact ⟨Nat.le_trans h1 (by decide), h2⟩
/-- What a statement itself holds. -/
def ownS (x : Stm) : Nat := x.name.size + sizeTwo x.refs + sizeTwo x.attrs + 1
theorem size_flat (C : Nat) : ∀ (M : Nat) (L : List Stm), sizeL L ≤ M → ∀ lev : Nat, (∀ p ∈ flatL lev L, ownS p.1 ≤ C) → sizeL L ≤ C * (flatL lev L).length := by
  intro M
  induction M using Nat.strongRecOn with
  | _ M ih =>
  intro L
  induction L with
  | nil => intro _ _ _; rw [sizeL_nil]; omega
  | cons x r ihr =>
    intro hM lev h
    rw [sizeL_cons] at hM ⊢
    have hb := sizeS_body x
    rw [flatL_cons, flatS_eq] at h ⊢
    have h1 := ihr (by omega) lev (fun p hp => h p (List.mem_append_right _ hp))
    have h2 := ih (sizeL x.body) (by omega) x.body (Nat.le_refl _) (if x.kind = 5 then lev + 1 else lev) (fun p hp => h p (List.mem_append_left _ (List.mem_cons_of_mem _ hp)))
    have h3 : ownS x ≤ C := h (x, lev) (List.mem_append_left _ List.mem_cons_self)
    unfold ownS at h3
    rw [List.length_append, List.length_cons, Nat.mul_add, Nat.mul_add]
    omega
theorem two_le (C : Nat) : ∀ L : List Two, (∀ q ∈ L, q.1.size + q.2.size + 1 ≤ C) → sizeTwo L ≤ C * L.length
  | [], _ => by simp [sizeTwo]
  | q :: r, h => by
    have h1 := h q (by simp)
    have h2 := two_le C r fun p hp => h p (by simp [hp])
    rw [sizeTwo, List.length_cons, Nat.mul_add]; omega
theorem name_len {n : ByteArray} (h : nameB n.data.toList = true) : n.size ≤ 16 := by
  unfold nameB at h
  simp only [Bool.and_eq_true, decide_eq_true_eq] at h
  rw [size_len]; exact h.1.1.2
theorem own_le {x : Stm} (h : okS x) (hr : x.refs.length ≤ 10) (ha : x.attrs.length ≤ 20) : ownS x ≤ 1400 := by
  obtain ⟨k, n, rs, al, b⟩ := x
  obtain ⟨h1, h2, h3, h4⟩ := h
  simp only [Stm.kind, Stm.name, Stm.refs, Stm.attrs] at h2 h3 h4 hr ha
  show n.size + sizeTwo rs + sizeTwo al + 1 ≤ 1400
  have hp := form_parts k n rs al b h1
  have hn : n.size ≤ 16 := by
    rcases hp with ⟨rfl, _⟩ | ⟨rfl, rfl, _⟩ | ⟨rfl, _, _, hn | hn⟩ | ⟨rfl, _⟩ | ⟨rfl, _⟩
    · exact name_len (h2 (.inl rfl))
    · decide
    · rw [size_len, hn]; decide
    · rw [size_len, hn]; decide
    · exact name_len (h2 (.inr (.inl rfl)))
    · exact name_len (h2 (.inr (.inr rfl)))
  have hR : sizeTwo rs ≤ 33 * rs.length := two_le 33 rs fun q hq => by
    have h := List.all_eq_true.1 h3 q hq
    unfold refB at h
    rw [Bool.and_eq_true, Bool.or_eq_true, decide_eq_true_eq] at h
    have e1 := name_len h.1
    have e2 : q.2.size ≤ 16 := by
      rcases h.2 with e | e
      · omega
      · exact name_len e
    omega
  have hA : sizeTwo al ≤ 49 * al.length := two_le 49 al fun q hq => by
    obtain ⟨g1, g2, _⟩ := h4 q hq
    by_cases h5 : k = 4
    · rcases hp with ⟨rfl, _⟩ | ⟨rfl, _⟩ | ⟨rfl, _⟩ | ⟨rfl, _, _, v, rfl⟩ | ⟨rfl, _⟩
      · cases h5
      · cases h5
      · cases h5
      · rw [List.mem_singleton] at hq
        subst hq
        dsimp only at g2 ⊢
        have : ByteArray.size ⟨#[]⟩ = 0 := rfl
        omega
      · cases h5
    · have := name_len (g1 h5)
      omega
  omega
/-- A valid tree of few statements is small. -/
theorem few_valid {nm : ByteArray} {L : List Stm} (hv : validE nm L = 0) (hf : fewB 0 L = true) : nm.size ≤ 16 ∧ sizeL L ≤ 1048576 := by
  obtain ⟨h1, h2, h3, _⟩ := valid_ok nm L hv
  refine ⟨name_len h1, ?_⟩
  have := size_flat 1400 (sizeL L) L (Nat.le_refl _) 0 (fun p hp => by
    obtain ⟨r, a⟩ := (few_flat hf).2 p hp
    exact own_le (okS_of p.1 p.2 (h3 p hp)) r a)
  omega
end Go.Proofs.YtmallladeidkpaaGreatDoor.Pa

/- An argument that is a tree, opened; its bulk. -/
namespace Go.Proofs.YtmallladeidkpaaGreatDoor.Tr
open Go.RowKit Go.Lib Fx Lx Go.ChangeShapes Go.WideShapes Go.Deep

theorem cTwo : Tryz.prog.cellsOf 61 = 2 := by kernel_rfl
theorem cRef : Tryz.prog.cellsOf 51 = 2 := by kernel_rfl
theorem cStm : Tryz.prog.cellsOf 44 = 5 := by kernel_rfl
theorem cInt : Tryz.prog.cellsOf 3 = 1 := by kernel_rfl
theorem cStr : Tryz.prog.cellsOf 9 = 1 := by kernel_rfl
theorem cSl1 : Tryz.prog.cellsOf 42 = 1 := by kernel_rfl
theorem cSl2 : Tryz.prog.cellsOf 35 = 1 := by kernel_rfl
theorem cSl3 : Tryz.prog.cellsOf 22 = 1 := by kernel_rfl
theorem sizeTwo_map {H : Type} (F : Nat → Two) (D : Nat → DataW H) : ∀ l : List Nat, (∀ i ∈ l, (F i).1.size + (F i).2.size + 1 ≤ Rows.uptoBulk (D i)) → sizeTwo (l.map F) ≤ Rows.uptoBulkAll (l.map D)
  | [], _ => by simp [sizeTwo]
  | i :: r, h => by
    rw [List.map_cons, List.map_cons, sizeTwo, Rows.uptoBulkAll]
    have h1 := h i List.mem_cons_self
    have h2 := sizeTwo_map F D r (fun j hj => h j (List.mem_cons_of_mem _ hj))
    omega
theorem sizeL_map {H : Type} (F : Nat → Stm) (D : Nat → DataW H) : ∀ l : List Nat, (∀ i ∈ l, sizeS (F i) ≤ Rows.uptoBulk (D i)) → sizeL (l.map F) ≤ Rows.uptoBulkAll (l.map D)
  | [], _ => by simp [sizeL]
  | i :: r, h => by
    rw [List.map_cons, List.map_cons, sizeL, Rows.uptoBulkAll]
    have h1 := h i List.mem_cons_self
    have h2 := sizeL_map F D r (fun j hj => h j (List.mem_cons_of_mem _ hj))
    omega
theorem bulk_mem {H : Type} : ∀ {l : List (DataW H)} {d : DataW H}, d ∈ l → Rows.uptoBulk d ≤ Rows.uptoBulkAll l
  | x :: r, d, h => by
    rw [Rows.uptoBulkAll]
    rcases List.mem_cons.1 h with rfl | h
    · omega
    · have := bulk_mem h; omega
theorem add_offk (g o k j m : Nat) : ((⟨g, o, none⟩ : Addr).add (k * m)).add j = ⟨g, o + k * m + j, none⟩ := by
  simp only [Addr.add]
  by_cases h1 : k * m = 0
  · rw [h1]; by_cases h2 : j = 0 <;> simp [h2]
  · by_cases h2 : j = 0 <;> simp [h1, h2]
section
variable {H : Type} {enc : TypeId × Value → H} {W : World} {base : Nat} {sp : Nat → Bool} {held : Bool}
set_option maxRecDepth 100000 in
theorem open_attr {n : Nat} {cs : List Value} {x : DataW H × List MemPlace}
    (h : DataW.trod enc Tryz.prog W base sp held n 61 cs = some x) : ∃ (k v : ByteArray), cs = [.string k, .string v] ∧ x.1 = .agg [.lit (.string k.data.toList), .lit (.string v.data.toList)] := by
  obtain ⟨xs, n', _, rfl, hlen, hxl, hg⟩ := DataW.trod_struct Tryz.underlying61 h
  rw [cTwo] at hlen
  have hxl2 : xs.length = 2 := hxl
  clear hxl
  match cs, hlen with
  | [a, b], _ =>
    obtain ⟨y0, y1, rfl⟩ : ∃ y0 y1, xs = [y0, y1] := by
      match xs, hxl2 with
      | [y0, y1], _ => exact ⟨y0, y1, rfl⟩
    have h0 : DataW.trod enc Tryz.prog W base sp held n' 9 [a] = some y0 := by simpa [cStr] using hg 0 _ rfl
    have h1 : DataW.trod enc Tryz.prog W base sp held n' 9 [b] = some y1 := by simpa [cStr] using hg 1 _ rfl
    obtain ⟨k, e0, r0, _⟩ := DataW.trod_string Tryz.underlying9 h0
    obtain ⟨v, e1, r1, _⟩ := DataW.trod_string Tryz.underlying9 h1
    simp only [List.cons.injEq, and_true] at e0 e1
    subst e0; subst e1; subst r0; subst r1
    exact ⟨k, v, rfl, rfl⟩
set_option maxRecDepth 100000 in
theorem open_ref {n : Nat} {cs : List Value} {x : DataW H × List MemPlace}
    (h : DataW.trod enc Tryz.prog W base sp held n 51 cs = some x) : ∃ (k v : ByteArray), cs = [.string k, .string v] ∧ x.1 = .agg [.lit (.string k.data.toList), .lit (.string v.data.toList)] := by
  obtain ⟨xs, n', _, rfl, hlen, hxl, hg⟩ := DataW.trod_struct Tryz.underlying51 h
  rw [cRef] at hlen
  have hxl2 : xs.length = 2 := hxl
  clear hxl
  match cs, hlen with
  | [a, b], _ =>
    obtain ⟨y0, y1, rfl⟩ : ∃ y0 y1, xs = [y0, y1] := by
      match xs, hxl2 with
      | [y0, y1], _ => exact ⟨y0, y1, rfl⟩
    have h0 : DataW.trod enc Tryz.prog W base sp held n' 9 [a] = some y0 := by simpa [cStr] using hg 0 _ rfl
    have h1 : DataW.trod enc Tryz.prog W base sp held n' 9 [b] = some y1 := by simpa [cStr] using hg 1 _ rfl
    obtain ⟨k, e0, r0, _⟩ := DataW.trod_string Tryz.underlying9 h0
    obtain ⟨v, e1, r1, _⟩ := DataW.trod_string Tryz.underlying9 h1
    simp only [List.cons.injEq, and_true] at e0 e1
    subst e0; subst e1; subst r0; subst r1
    exact ⟨k, v, rfl, rfl⟩
theorem lt_of_cell {w : World} {g o : Nat} {v : Value} (h : w.cell? ⟨g, o, none⟩ = some v) : g < w.heap.size := World.block_lt_of_cell? _ _ h

set_option maxRecDepth 100000 in
theorem open_twos (t e : TypeId) (hu : Tryz.prog.underlying t = some (.slice e)) (hc2 : Tryz.prog.cellsOf e = 2)
    (ho : ∀ {n : Nat} {cs : List Value} {x : DataW H × List MemPlace}, DataW.trod enc Tryz.prog W base sp held n e cs = some x → ∃ (k v : ByteArray), cs = [.string k, .string v] ∧ x.1 = .agg [.lit (.string k.data.toList), .lit (.string v.data.toList)])
    {fuel : Nat} {cs : List Value} {x : DataW H × List MemPlace} (h : DataW.trod enc Tryz.prog W base sp held fuel t cs = some x) :
    ∃ (a : Option Addr) (L : List Two) (cap : Nat), cs = [.slice a L.length cap] ∧ TwoAt W.heap.size W a L ∧ L.length ≤ cap ∧ cap ≤ maxLen ∧ sizeTwo L ≤ Rows.uptoBulk x.1 := by
  rcases open_slice hu h with ⟨rfl, rfl⟩ | ⟨a, len, cap, m, n, D, Pl, rfl, _, hl, hm, hmm, hxx, hx⟩
  · exact ⟨none, [], 0, rfl, (fun k h => absurd h (Nat.not_lt_zero _)), Nat.le_refl _, Nat.zero_le _, by simp [sizeTwo]⟩
  · have hlm : len ≤ m := by rw [hmm]; split <;> omega
    rw [hc2] at hx
    have hone : ∀ i, i < len → ∃ q : Two, q.1.size + q.2.size + 1 ≤ Rows.uptoBulk (D i) ∧ ∃ g o, a = ⟨g, o, none⟩ ∧ W.cell? ⟨g, o + i * 2, none⟩ = some (.string q.1) ∧ W.cell? ⟨g, o + i * 2 + 1, none⟩ = some (.string q.2) := fun i hi => by
      obtain ⟨cs', h1, h2⟩ := hx i (by omega)
      obtain ⟨k, v, rfl, hd⟩ := ho h2
      obtain ⟨_, _, hc⟩ := World.cells?_some h1
      have c0 := hc 0 (by omega); have c1 := hc 1 (by omega)
      obtain ⟨g, o, spot⟩ := a
      have hspot : spot = none := by
        obtain ⟨cs0, q1, q2⟩ := hx 0 (by omega)
        obtain ⟨k0, v0, rfl, _⟩ := ho q2
        obtain ⟨_, _, hc0⟩ := World.cells?_some q1
        have h := World.cell?_spot (show W.cell? _ = some (.string k0) from hc0 0 (by omega))
        simpa [Addr.add] using h
      subst hspot
      rw [add_offk] at c0 c1
      have hd' : D i = .agg [.lit (.string k.data.toList), .lit (.string v.data.toList)] := hd
      refine ⟨(k, v), ?_, g, o, rfl, c0, c1⟩
      rw [hd']
      simp only [Rows.uptoBulk, Rows.uptoBulkAll]
      rw [← size_len, ← size_len]
      omega
    obtain ⟨F, hF⟩ := choose_lt (α := Two) hone
    refine ⟨some a, (List.range len).map F, cap, by simp, ?_, by simp; omega, hm, ?_⟩
    · intro k hk
      have hk' : k < len := by simpa using hk
      obtain ⟨_, g, o, rfl, c0, c1⟩ := hF k hk'
      exact ⟨g, o, rfl, lt_of_cell c0, by simpa using c0, by simpa using c1⟩
    · rw [hxx]
      simp only [Rows.uptoBulk]
      have := sizeTwo_map F D (List.range len) (fun i hi => (hF i (List.mem_range.1 hi)).1)
      omega
instance : Inhabited Stm := ⟨.mk 0 ByteArray.empty [] [] []⟩
set_option maxRecDepth 100000 in
/-- A slice of statements. -/
theorem open_stms : ∀ (M : Nat) {fuel : Nat} {cs : List Value} {x : DataW H × List MemPlace}, Rows.uptoBulk x.1 ≤ M → DataW.trod enc Tryz.prog W base sp held fuel 22 cs = some x →
    ∃ (b : Option Addr) (L : List Stm) (cap : Nat), cs = [.slice b L.length cap] ∧ StmsAt W.heap.size W b L ∧ L.length ≤ maxLen ∧ sizeL L ≤ Rows.uptoBulk x.1
  | 0, fuel, cs, x, hM, h => by
    rcases open_slice Tryz.underlying22 h with ⟨rfl, rfl⟩ | ⟨a, len, cap, m, n, D, Pl, rfl, _, hl, hm, hmm, hxx, hx⟩
    · simp [Rows.uptoBulk] at hM
    · rw [hxx] at hM; simp [Rows.uptoBulk] at hM
  | M + 1, fuel, cs, x, hM, h => by
    rcases open_slice Tryz.underlying22 h with ⟨rfl, rfl⟩ | ⟨a, len, cap, m, n, D, Pl, rfl, _, hl, hm, hmm, hxx, hx⟩
    · exact ⟨none, [], 0, rfl, by rw [StmsAt]; trivial, Nat.zero_le _, by simp [sizeL]⟩
    · have hlm : len ≤ m := by rw [hmm]; split <;> omega
      rw [cStm] at hx
      have hbk : ∀ i, i < len → Rows.uptoBulk (D i) ≤ M := fun i hi => by
        have h1 := bulk_mem (List.mem_map.2 ⟨i, List.mem_range.2 hi, rfl⟩ : D i ∈ (List.range len).map D)
        rw [hxx] at hM
        simp only [Rows.uptoBulk] at hM
        omega
      have hone : ∀ i, i < len → ∃ s : Stm, sizeS s ≤ Rows.uptoBulk (D i) ∧ ∃ g o, a = ⟨g, o, none⟩ ∧ g < W.heap.size ∧ StmAt W.heap.size W g (o + i * 5) s := fun i hi => by
        have hstm : ∀ {cs' : List Value} {y : DataW H × List MemPlace} {n : Nat}, Rows.uptoBulk y.1 ≤ M → DataW.trod enc Tryz.prog W base sp held n 44 cs' = some y →
            ∃ (k : Int) (nm : ByteArray) (r : Option Addr) (rs : List Two) (rc : Nat) (a : Option Addr) (al : List Two) (ac : Nat) (b : Option Addr) (body : List Stm) (bc : Nat), cs' = [.int .i64 k, .string nm, .slice r rs.length rc, .slice a al.length ac, .slice b body.length bc] ∧
              TwoAt W.heap.size W r rs ∧ TwoAt W.heap.size W a al ∧ StmsAt W.heap.size W b body ∧ rs.length ≤ rc ∧ al.length ≤ ac ∧ rc ≤ maxLen ∧ ac ≤ maxLen ∧ body.length ≤ maxLen ∧ sizeS (.mk k nm rs al body) ≤ Rows.uptoBulk y.1 := fun {cs' y n} hb h => by
          obtain ⟨xs, n', _, rfl, hlen, hxl, hg⟩ := DataW.trod_struct Tryz.underlying44 h
          rw [cStm] at hlen
          have hxl5 : xs.length = 5 := hxl
          clear hxl
          match cs', hlen with
          | [p0, p1, p2, p3, p4], _ =>
            obtain ⟨y0, y1, y2, y3, y4, rfl⟩ : ∃ y0 y1 y2 y3 y4, xs = [y0, y1, y2, y3, y4] := by
              match xs, hxl5 with
              | [y0, y1, y2, y3, y4], _ => exact ⟨y0, y1, y2, y3, y4, rfl⟩
            have g0 : DataW.trod enc Tryz.prog W base sp held n' 3 [p0] = some y0 := by simpa [cInt] using hg 0 _ rfl
            have g1 : DataW.trod enc Tryz.prog W base sp held n' 9 [p1] = some y1 := by simpa [cStr] using hg 1 _ rfl
            have g2 : DataW.trod enc Tryz.prog W base sp held n' 42 [p2] = some y2 := by simpa [cSl1] using hg 2 _ rfl
            have g3 : DataW.trod enc Tryz.prog W base sp held n' 35 [p3] = some y3 := by simpa [cSl2] using hg 3 _ rfl
            have g4 : DataW.trod enc Tryz.prog W base sp held n' 22 [p4] = some y4 := by simpa [cSl3] using hg 4 _ rfl
            obtain ⟨k, e0, r0, _⟩ := DataW.trod_int Tryz.underlying3 g0
            obtain ⟨nm, e1, r1, _⟩ := DataW.trod_string Tryz.underlying9 g1
            obtain ⟨r, rs, rc, e2, i2, l2, m2, s2⟩ := open_twos 42 51 Tryz.underlying42 cRef open_ref g2
            obtain ⟨a, al, ac, e3, i3, l3, m3, s3⟩ := open_twos 35 61 Tryz.underlying35 cTwo open_attr g3
            simp only [List.map_cons, List.map_nil, Rows.uptoBulk, Rows.uptoBulkAll] at hb
            obtain ⟨b, body, bc, e4, i4, m4, s4⟩ := open_stms M (by omega) g4
            simp only [List.cons.injEq, and_true] at e0 e1 e2 e3 e4
            subst e0; subst e1; subst e2; subst e3; subst e4; subst r0; subst r1
            refine ⟨k, nm, r, rs, rc, a, al, ac, b, body, bc, rfl, i2, i3, i4, l2, l3, m2, m3, m4, ?_⟩
            simp only [List.map_cons, List.map_nil, Rows.uptoBulk, Rows.uptoBulkAll, sizeS]
            rw [← size_len]
            omega
        obtain ⟨cs', h1, h2⟩ := hx i (by omega)
        obtain ⟨k, nm, r, rs, rc, a', al, ac, b, body, bc, rfl, i2, i3, i4, l2, l3, m2, m3, m4, hsz⟩ := hstm (hbk i hi) h2
        obtain ⟨_, _, hc⟩ := World.cells?_some h1
        have c0 := hc 0 (by omega); have c1 := hc 1 (by omega); have c2 := hc 2 (by omega); have c3 := hc 3 (by omega); have c4 := hc 4 (by omega)
        obtain ⟨g, o, spot⟩ := a
        have hspot : spot = none := by
          obtain ⟨cs0, q1, q2⟩ := hx 0 (by omega)
          obtain ⟨k0, nm0, r0, rs0, rc0, a0, al0, ac0, b0, body0, bc0, rfl, _⟩ := hstm (hbk 0 (by omega)) q2
          obtain ⟨_, _, hc0⟩ := World.cells?_some q1
          have h := World.cell?_spot (show W.cell? _ = some (.int .i64 k0) from hc0 0 (by omega))
          simpa [Addr.add] using h
        subst hspot
        rw [add_offk] at c0 c1 c2 c3 c4
        refine ⟨.mk k nm rs al body, hsz, g, o, rfl, lt_of_cell c1, ?_⟩
        rw [StmAt]
        exact ⟨r, rc, a', ac, b, bc, c0, c1, c2, c3, c4, i2, i3, i4, l2, l3, m2, m3, m4⟩
      obtain ⟨F, hF⟩ := choose_lt (α := Stm) hone
      refine ⟨some a, (List.range len).map F, cap, by simp, ?_, by simp; omega, ?_⟩
      · rcases Nat.eq_zero_or_pos len with h0 | h0
        · subst h0; rw [List.range_zero, List.map_nil, StmsAt]; trivial
        · obtain ⟨_, g, o, rfl, hg, _⟩ := hF 0 h0
          refine StmsAt.of g o _ hg fun k hk => ?_
          have hk' : k < len := by simpa using hk
          obtain ⟨_, g', o', e, _, r⟩ := hF k hk'
          injection e with e1 e2 _
          subst e1; subst e2
          simpa using r
      · rw [hxx]
        simp only [Rows.uptoBulk]
        have := sizeL_map F D (List.range len) (fun i hi => (hF i (List.mem_range.1 hi)).1)
        omega
end
end Go.Proofs.YtmallladeidkpaaGreatDoor.Tr
