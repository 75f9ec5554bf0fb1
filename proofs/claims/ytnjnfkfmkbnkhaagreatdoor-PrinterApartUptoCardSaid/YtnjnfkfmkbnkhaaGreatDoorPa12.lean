/- Packed texts: TreValR, TreMem, TreHas -/
import Derived.Test.YtnjnfkfmkbnkhaaGreatDoorPa05
import Derived.Test.YtnjnfkfmkbnkhaaGreatDoorPa08
import Derived.Test.YtnjnfkfmkbnkhaaGreatDoorPa11
import Derived.Test.YtnjnfkfmkbnkhaaGreatDoorPa01
import Derived.Test.YtnjnfkfmkbnkhaaGreatDoorPa02
import Derived.Lib.Hide
import Derived.Test.YtnjnfkfmkbnkhaaGreatDoorPa10
set_option linter.unusedVariables false
set_option linter.unusedSimpArgs false
/- What the document's value returns. -/
namespace Go.Proofs.YtnjnfkfmkbnkhaaGreatDoor.Tr
open Go.RowKit Go.Sort Go.Lib Go.Shelf Fx Lx

set_option maxHeartbeats 4000000 in
/-- The text of a value. -/
theorem valueR_any (s : ByteArray) (w : World) (hs : s.size < 4294967281) :
    Calls Tryz.prog 44 #[.string s] w fun e w' => e = .returned (.string ⟨(valueT s).toArray⟩) ∧ w = w' := by
  have hnm := isNameR_any s (by omega) w
  have hps := parseR_any s w (by omega)
  have hqt := fun w' => Qo.quoteR_any s w' (by omega)
  obtain ⟨V, hV⟩ : ∃ V : ByteArray, V = ⟨(valueT s).toArray⟩ := ⟨_, rfl⟩
  rw [← hV]
  have hmk : (⟨s.data.toList.toArray⟩ : ByteArray) = s := Lib.mk_data s
  unfold valueT at hV
  unfold Qo.quoteV at hqt
  generalize nameB s.data.toList = p at *
  generalize (parse s.data.toList).1 = u at *
  generalize (parse s.data.toList).2 = k at *
  generalize (quote s.data.toList).1 = t at *
  generalize (quote s.data.toList).2 = r at *
  have HN := Lib.hid hnm; have HP := Lib.hid hps; have HQ := Lib.hid hqt
  clear hnm hps hqt hs
  cases p
  · rw [if_neg (by decide)] at hV
    by_cases hk : k = 0
    · rw [if_pos hk, hmk] at hV
      subst hk
      have hf := Lib.hid hV
      clear hV
      go_enter Tryz.func44, Tryz.ntmps44
      go_wp2_with (first | (go_at_call 79; refine HN.out.mono ?_; rintro e w3 ⟨rfl, rfl⟩) | (go_at_call 61; refine HP.out.mono ?_; rintro e w1 ⟨rfl, rfl⟩))
      go_ret
      exact ⟨by rw [hf.out]; rfl, rfl⟩
    · rw [if_neg hk] at hV
      obtain ⟨f0, f0'⟩ := ne_facts hk
      have hf := Lib.hid hV
      clear hV hk
      go_enter Tryz.func44, Tryz.ntmps44
      go_wp2_with (first | (go_at_call 79; refine HN.out.mono ?_; rintro e w3 ⟨rfl, rfl⟩) | (go_at_call 61; refine HP.out.mono ?_; rintro e w1 ⟨rfl, rfl⟩) | (go_at_call 80; refine (HQ.out _).mono ?_; rintro e w2 ⟨rfl, rfl⟩))
      go_ret
      exact ⟨by rw [hf.out]; rfl, rfl⟩
  · rw [if_pos rfl, hmk] at hV
    have hf := Lib.hid hV
    clear hV
    go_enter Tryz.func44, Tryz.ntmps44
    go_wp2_with (go_at_call 79; refine HN.out.mono ?_; rintro e w3 ⟨rfl, rfl⟩)
    go_ret
    exact ⟨by rw [hf.out]; rfl, rfl⟩
end Go.Proofs.YtnjnfkfmkbnkhaaGreatDoor.Tr

/- Trees of statements in memory. -/
namespace Go.Proofs.YtnjnfkfmkbnkhaaGreatDoor.Tr
open Go.RowKit Go.Lib Fx Lx

/-- A list of pairs of texts (references, attributes) behind a slice, below block n. -/
def TwoAt (n : Nat) (w : World) (a : Option Addr) (L : List Two) : Prop :=
  ∀ k (h : k < L.length), ∃ g o, a = some ⟨g, o, none⟩ ∧ g < n ∧ w.cell? ⟨g, o + k * 2, none⟩ = some (.string L[k].1) ∧ w.cell? ⟨g, o + k * 2 + 1, none⟩ = some (.string L[k].2)
theorem TwoAt.below {n : Nat} {w w' : World} {a : Option Addr} {L : List Two} (h : TwoAt n w a L) (x : Below n w w') : TwoAt n w' a L := fun k hk => by
  obtain ⟨g, o, ha, hg, h0, h1⟩ := h k hk
  exact ⟨g, o, ha, hg, (x.cell (p := ⟨g, o + k * 2, none⟩) hg).trans h0, (x.cell (p := ⟨g, o + k * 2 + 1, none⟩) hg).trans h1⟩
theorem TwoAt.mono {n m : Nat} {w : World} {a : Option Addr} {L : List Two} (h : TwoAt n w a L) (hm : n ≤ m) : TwoAt m w a L := fun k hk => by
  obtain ⟨g, o, ha, hg, r⟩ := h k hk
  exact ⟨g, o, ha, by omega, r⟩
theorem TwoAt.take {n : Nat} {w : World} {a : Option Addr} {L : List Two} (h : TwoAt n w a L) (i : Nat) : TwoAt n w a (L.take i) := fun k hk => by
  have hk' : k < L.length := by simp at hk; omega
  obtain ⟨g, o, ha, hg, r⟩ := h k hk'
  rw [List.getElem_take]
  exact ⟨g, o, ha, hg, r⟩
mutual
/-- The five cells of a statement, and what they lead to, below block n. -/
def StmAt (n : Nat) (w : World) (g o : Nat) : Stm → Prop
  | .mk k nm rs al body => ∃ r rc a ac b bc, w.cell? ⟨g, o, none⟩ = some (.int .i64 k) ∧ w.cell? ⟨g, o + 1, none⟩ = some (.string nm) ∧
      w.cell? ⟨g, o + 2, none⟩ = some (.slice r rs.length rc) ∧ w.cell? ⟨g, o + 3, none⟩ = some (.slice a al.length ac) ∧ w.cell? ⟨g, o + 4, none⟩ = some (.slice b body.length bc) ∧
      TwoAt n w r rs ∧ TwoAt n w a al ∧ StmsAt n w b body ∧ rs.length ≤ rc ∧ al.length ≤ ac ∧ rc ≤ maxLen ∧ ac ≤ maxLen ∧ body.length ≤ maxLen
/-- A list of statements behind a slice. -/
def StmsAt (n : Nat) (w : World) (b : Option Addr) : List Stm → Prop
  | [] => True
  | x :: r => ∃ g o, b = some ⟨g, o, none⟩ ∧ g < n ∧ StmAt n w g o x ∧ StmsAt n w (some ⟨g, o + 5, none⟩) r
end
theorem stmAt_eq (n : Nat) (w : World) (g o : Nat) (x : Stm) : StmAt n w g o x ↔ ∃ r rc a ac b bc, w.cell? ⟨g, o, none⟩ = some (.int .i64 x.kind) ∧ w.cell? ⟨g, o + 1, none⟩ = some (.string x.name) ∧
      w.cell? ⟨g, o + 2, none⟩ = some (.slice r x.refs.length rc) ∧ w.cell? ⟨g, o + 3, none⟩ = some (.slice a x.attrs.length ac) ∧ w.cell? ⟨g, o + 4, none⟩ = some (.slice b x.body.length bc) ∧
      TwoAt n w r x.refs ∧ TwoAt n w a x.attrs ∧ StmsAt n w b x.body ∧ x.refs.length ≤ rc ∧ x.attrs.length ≤ ac ∧ rc ≤ maxLen ∧ ac ≤ maxLen ∧ x.body.length ≤ maxLen := by
  cases x; rw [StmAt]; rfl
theorem stmsAt_cons (n : Nat) (w : World) (b : Option Addr) (x : Stm) (r : List Stm) : StmsAt n w b (x :: r) ↔ ∃ g o, b = some ⟨g, o, none⟩ ∧ g < n ∧ StmAt n w g o x ∧ StmsAt n w (some ⟨g, o + 5, none⟩) r := by rw [StmsAt]
mutual
theorem StmAt.below {n : Nat} {w w' : World} (x : Below n w w') : ∀ {g o : Nat} (s : Stm), g < n → StmAt n w g o s → StmAt n w' g o s
  | g, o, .mk k nm rs al body, hg, h => by
    rw [StmAt] at h ⊢
    obtain ⟨r, rc, a, ac, b, bc, h0, h1, h2, h3, h4, hr, ha, hb, hl⟩ := h
    exact ⟨r, rc, a, ac, b, bc, (x.cell (p := ⟨g, o, none⟩) hg).trans h0, (x.cell (p := ⟨g, o + 1, none⟩) hg).trans h1, (x.cell (p := ⟨g, o + 2, none⟩) hg).trans h2, (x.cell (p := ⟨g, o + 3, none⟩) hg).trans h3, (x.cell (p := ⟨g, o + 4, none⟩) hg).trans h4, hr.below x, ha.below x, StmsAt.below x body hb, hl⟩
theorem StmsAt.below {n : Nat} {w w' : World} (x : Below n w w') : ∀ {b : Option Addr} (L : List Stm), StmsAt n w b L → StmsAt n w' b L
  | _, [], _ => by rw [StmsAt]; trivial
  | b, s :: r, h => by
    rw [StmsAt] at h ⊢
    obtain ⟨g, o, hb, hg, hs, hr⟩ := h
    exact ⟨g, o, hb, hg, StmAt.below x s hg hs, StmsAt.below x r hr⟩
end
mutual
theorem StmAt.mono {n m : Nat} {w : World} (hm : n ≤ m) : ∀ {g o : Nat} (s : Stm), StmAt n w g o s → StmAt m w g o s
  | g, o, .mk k nm rs al body, h => by
    rw [StmAt] at h ⊢
    obtain ⟨r, rc, a, ac, b, bc, h0, h1, h2, h3, h4, hr, ha, hb, hl⟩ := h
    exact ⟨r, rc, a, ac, b, bc, h0, h1, h2, h3, h4, hr.mono hm, ha.mono hm, StmsAt.mono hm body hb, hl⟩
theorem StmsAt.mono {n m : Nat} {w : World} (hm : n ≤ m) : ∀ {b : Option Addr} (L : List Stm), StmsAt n w b L → StmsAt m w b L
  | _, [], _ => by rw [StmsAt]; trivial
  | b, s :: r, h => by
    rw [StmsAt] at h ⊢
    obtain ⟨g, o, hb, hg, hs, hr⟩ := h
    exact ⟨g, o, hb, by omega, StmAt.mono hm s hs, StmsAt.mono hm r hr⟩
end
/-- The statement at a place of the list. -/
theorem StmsAt.at {n : Nat} {w : World} : ∀ {b : Option Addr} (L : List Stm), StmsAt n w b L → ∀ k (hk : k < L.length), ∃ g o, b = some ⟨g, o, none⟩ ∧ g < n ∧ StmAt n w g (o + k * 5) L[k]
  | _, [], _, k, hk => absurd hk (by simp)
  | b, s :: r, h, 0, _ => by
    rw [StmsAt] at h
    obtain ⟨g, o, hb, hg, hs, _⟩ := h
    exact ⟨g, o, hb, hg, by rw [Nat.zero_mul, Nat.add_zero]; exact hs⟩
  | b, s :: r, h, k + 1, hk => by
    rw [StmsAt] at h
    obtain ⟨g, o, hb, hg, _, hr⟩ := h
    obtain ⟨g', o', hb', hg', hs'⟩ := StmsAt.at r hr k (by simpa using hk)
    injection hb' with hb'; injection hb' with e1 e2 _
    subst e1; subst e2
    refine ⟨g, o, hb, hg, ?_⟩
    rw [show o + (k + 1) * 5 = o + 5 + k * 5 by omega]
    exact hs'
/-- A list of statements is where each of its statements is. -/
theorem StmsAt.of {n : Nat} {w : World} : ∀ (g o : Nat) (L : List Stm), g < n → (∀ k (hk : k < L.length), StmAt n w g (o + k * 5) L[k]) → StmsAt n w (some ⟨g, o, none⟩) L
  | g, o, [], _, _ => by rw [StmsAt]; trivial
  | g, o, s :: r, hg, h => by
    rw [StmsAt]
    refine ⟨g, o, rfl, hg, (by have h0 := h 0 (Nat.zero_lt_succ _); rw [Nat.zero_mul, Nat.add_zero] at h0; exact h0), StmsAt.of g (o + 5) r hg fun k hk => ?_⟩
    have := h (k + 1) (by simpa using hk)
    rw [show o + 5 + k * 5 = o + (k + 1) * 5 by omega]
    exact this
end Go.Proofs.YtnjnfkfmkbnkhaaGreatDoor.Tr

/- Lists of pairs of texts in memory; slices.ContainsFunc at attributes with the tree's closure. -/
namespace Go.Proofs.YtnjnfkfmkbnkhaaGreatDoor.Tr
open Go.RowKit Go.Sort Go.Lib Go.Shelf Fx Lx

/-- A list of pairs of texts behind a slice, wherever it lies. -/
def TwoIn (w : World) (a : Option Addr) (L : List Two) : Prop :=
  ∀ k (h : k < L.length), ∃ g o, a = some ⟨g, o, none⟩ ∧ w.cell? ⟨g, o + k * 2, none⟩ = some (.string L[k].1) ∧ w.cell? ⟨g, o + k * 2 + 1, none⟩ = some (.string L[k].2)
theorem TwoIn.ext {w w' : World} {a : Option Addr} {L : List Two} (h : TwoIn w a L) (x : Ext w w') : TwoIn w' a L := fun k hk => by
  obtain ⟨g, o, ha, h0, h1⟩ := h k hk
  exact ⟨g, o, ha, x.cell h0, x.cell h1⟩
theorem TwoAt.in {n : Nat} {w : World} {a : Option Addr} {L : List Two} (h : TwoAt n w a L) : TwoIn w a L := fun k hk => by
  obtain ⟨g, o, ha, _, h0, h1⟩ := h k hk
  exact ⟨g, o, ha, h0, h1⟩
def hasA (l : List Two) (n : ByteArray) : Bool := l.any (fun q => decide (q.1 = n))
theorem beqs (n x : ByteArray) : (n.toList == x.toList) = decide (n = x) := by
  rw [ByteArray.toList_eq, ByteArray.toList_eq, Bool.eq_iff_iff, beq_iff_eq, decide_eq_true_eq]
  exact ⟨fun h => ByteArray.ext (Array.toList_inj.1 h), fun h => by rw [h]⟩
set_option maxHeartbeats 4000000 in
theorem closA_any (n x : ByteArray) (d : ByteArray) (c : Addr) (w : World) (hc : w.cell? c = some (.string x)) :
    Calls Tryz.prog 91 #[.agg #[.string n, .string d], .pointer (some c)] w fun e w' => e = .returned (.bool (decide (n = x))) ∧ Ext w w' := by
  have hc' : ∀ o, (w.alloc o).cell? c = some (.string x) := fun o => ((Ext.refl w).alloc o).cell hc
  go_enter Tryz.func91, Tryz.ntmps91
  go_wp2
  go_ret
  exact ⟨ret_bool (beqs n x), (Ext.refl _).alloc _⟩
set_option maxHeartbeats 4000000 in
theorem idxA_any (a : Option Addr) (L : List Two) (cap : Nat) (x : ByteArray) (c : Addr) (w : World) (h : TwoIn w a L) (hc : w.cell? c = some (.string x)) (hL : L.length ≤ 9223372036854775807) :
    Calls Tryz.prog 106 #[.slice a L.length cap, .func (.func 91) #[] #[.pointer (some c)]] w fun e w' => (∃ r : Int, e = .returned (.int .i64 r) ∧ decide (0 ≤ r) = hasA L x) ∧ Ext w w' := by
  obtain ⟨N, hN⟩ : ∃ N, N = L.length := ⟨_, rfl⟩
  have HI := Lib.hid h
  rw [← hN] at hL ⊢
  have HN := Lib.hid hN
  have HC := Lib.hid hc
  clear h hN hc
  go_enter Tryz.func106, Tryz.ntmps106
  go_wp2_with fail
  go_loopw [8] (fun i' wr => ∃ k : Nat, k ≤ N ∧ i' = .int .i64 k ∧ Hid (∀ j (hj : j < L.length), j < k → L[j].1 ≠ x) ∧ Ext w wr) (fun i' _ => N - (RowKit.intOf i').toNat)
  case atStart => exact ⟨0, by omega, rfl, Lib.hid (fun j _ h => absurd h (by omega)), Ext.refl _⟩
  case round =>
    obtain ⟨k, hk, rfl, hall, hx⟩ := hrel
    by_cases hlt : k < N
    · have hkl : k < L.length := by rw [← HN.out]; exact hlt
      obtain ⟨g, o, rfl, c0, c1⟩ := (HI.out.ext hx) k hkl
      obtain ⟨n, hn⟩ : ∃ n, n = L[k].1 := ⟨_, rfl⟩
      obtain ⟨d, hd⟩ : ∃ d, d = L[k].2 := ⟨_, rfl⟩
      rw [← hn] at c0; rw [← hd] at c1
      have HNM := Lib.hid hn
      clear hn hd
      by_cases heq : n = x
      · have hf : Hid (hasA L x = true) := Lib.hid (by
          unfold hasA; rw [List.any_eq_true]; exact ⟨L[k], List.getElem_mem hkl, by rw [← HNM.out]; exact decide_eq_true heq⟩)
        have HCL := Lib.hid (closA_any n x d c wr (hx.cell HC.out))
        rw [decide_eq_true heq] at HCL
        clear heq hall HNM
        go_wp2_with (go_at_call 91; refine HCL.out.mono ?_; rintro e w1 ⟨rfl, x1⟩)
        go_returns
        exact ⟨⟨k, rfl, by rw [hf.out]; simp⟩, hx.trans x1⟩
      · have hf : Hid (∀ j (hj : j < L.length), j < k + 1 → L[j].1 ≠ x) := Lib.hid (fun j hj h => by
          by_cases e : j = k
          · subst e; rw [← HNM.out]; exact heq
          · exact hall.out j hj (by omega))
        have HCL := Lib.hid (closA_any n x d c wr (hx.cell HC.out))
        rw [decide_eq_false heq] at HCL
        clear heq hall HNM
        go_wp2_with (go_at_call 91; refine HCL.out.mono ?_; rintro e w1 ⟨rfl, x1⟩)
        go_roundw
        case rel => exact ⟨k + 1, by omega, by go_num, hf, hx.trans x1⟩
        case measure => simp [RowKit.intOf]; omega
    · have hf : Hid (hasA L x = false) := Lib.hid (by
        unfold hasA; rw [List.any_eq_false]; intro q hq
        obtain ⟨j, hj, rfl⟩ := List.getElem_of_mem hq
        simpa using hall.out j hj (by rw [← HN.out] at hj; omega))
      clear hall
      go_wp2
      go_returns
      exact ⟨⟨-1, rfl, by rw [hf.out]; decide⟩, hx⟩
set_option maxHeartbeats 4000000 in
theorem hasA_any (a : Option Addr) (L : List Two) (cap : Nat) (x : ByteArray) (c : Addr) (w : World) (h : TwoIn w a L) (hc : w.cell? c = some (.string x)) (hL : L.length ≤ 9223372036854775807) :
    Calls Tryz.prog 90 #[.slice a L.length cap, .func (.func 91) #[] #[.pointer (some c)]] w fun e w' => e = .returned (.bool (hasA L x)) ∧ Ext w w' := by
  have H := Lib.hid (idxA_any a L cap x c w h hc hL)
  clear h hc hL
  go_enter Tryz.func90, Tryz.ntmps90
  go_wp2_with (go_at_call 106; refine H.out.mono ?_; rintro e w1 ⟨⟨r, rfl, hr⟩, x1⟩)
  go_ret
  exact ⟨rfl, x1⟩
end Go.Proofs.YtnjnfkfmkbnkhaaGreatDoor.Tr
