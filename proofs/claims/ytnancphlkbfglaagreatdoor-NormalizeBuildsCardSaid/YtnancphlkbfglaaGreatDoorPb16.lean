/- Packed texts: TreKinds, NorDocT, NorMent, NorSame -/
import Derived.Test.YtnancphlkbfglaaGreatDoorPb01
import Derived.Test.YtnancphlkbfglaaGreatDoorPb14
import Derived.Test.YtnancphlkbfglaaGreatDoorPb15
import Derived.Deep.RegionLaw
import Derived.Deep.AppendLies
import Derived.Deep.CutRange
import Derived.BigQuiet
import Derived.Lib.Builder
import Derived.StillTailTactics
set_option linter.unusedVariables false
set_option linter.unusedSimpArgs false
namespace Go.Proofs.YtnancphlkbfglaaGreatDoor.Tr
open Go.Lib Fx Lx
theorem form_kinds (x : Stm) (h : formB x = true) : (x.kind = 1 ∨ x.kind = 2 ∨ x.kind = 3 ∨ x.kind = 4 ∨ x.kind = 5) ∧ (x.kind = 3 → kw x.name.data.toList = true) ∧ (x.kind = 4 → ∃ q, x.attrs = [q] ∧ q.1.size = 0) := by
  unfold formB at h
  by_cases h1 : x.kind = 1
  · exact ⟨.inl h1, fun h => by omega, fun h => by omega⟩
  rw [if_neg h1] at h
  by_cases h2 : x.kind = 2
  · exact ⟨.inr (.inl h2), fun h => by omega, fun h => by omega⟩
  rw [if_neg h2] at h
  by_cases h3 : x.kind = 3
  · rw [if_pos h3] at h
    refine ⟨.inr (.inr (.inl h3)), fun _ => ?_, fun h => by omega⟩
    simp only [Bool.and_eq_true, Bool.or_eq_true, decide_eq_true_eq] at h
    rcases h.2 with e | e <;> (rw [e]; decide)
  rw [if_neg h3] at h
  by_cases h4 : x.kind = 4
  · rw [if_pos h4] at h
    refine ⟨.inr (.inr (.inr (.inl h4))), fun h => by omega, fun _ => ?_⟩
    simp only [Bool.and_eq_true] at h
    have h5 := h.2
    unfold setB at h5
    split at h5
    · rename_i q e; exact ⟨q, e, by simpa using h5⟩
    · exact absurd h5 (by decide)
  rw [if_neg h4] at h
  by_cases h5 : x.kind = 5
  · exact ⟨.inr (.inr (.inr (.inr h5))), fun h => by omega, fun h => by omega⟩
  rw [if_neg h5] at h
  exact absurd h (by decide)
end Go.Proofs.YtnancphlkbfglaaGreatDoor.Tr

namespace Go.Proofs.YtnancphlkbfglaaGreatDoor.Nm
open Go.Lib Fx Lx Tr At
def mentE (n : ByteArray) (S : St) (E : Int) : Int := if E = 0 ∧ S.taken n = true then 6 else E
def mentS (n : ByteArray) (p : Pl) (S : St) : Nat × St :=
  match S.idx n with
  | some v => (v, S)
  | none => (S.N.length, { S with N := S.N ++ [(n, p.c)], A := S.A ++ [p.n] })
theorem ment_of (n : ByteArray) (p : Pl) (S : St) : ment n p S = if mentE n S 0 ≠ 0 then .error (mentE n S 0) else .ok (mentS n p S) := by
  unfold ment mentE mentS
  by_cases h : S.taken n = true
  · simp [h]
  · simp [h]; cases S.idx n <;> rfl
theorem mentE_err {n : ByteArray} {p : Pl} {S : St} (h : mentE n S 0 ≠ 0) : ment n p S = .error (mentE n S 0) := by rw [ment_of, if_pos h]
theorem mentE_ok {n : ByteArray} {p : Pl} {S : St} (h : mentE n S 0 = 0) : ment n p S = .ok (mentS n p S) := by rw [ment_of, if_neg (by rw [h]; decide)]
theorem Sml.mentS {m k : Nat} {S : St} (h : Sml m k S) {n : ByteArray} {p : Pl} (hp : SmP k p) (hn : n.size ≤ 64) : Sml (m + 1) k (mentS n p S).2 ∧ (mentS n p S).1 < (mentS n p S).2.N.length ∧ (mentS n p S).2.C = S.C ∧ (mentS n p S).2.K = S.K := by
  unfold Nm.mentS
  split
  · rename_i u hu
    exact ⟨h.mono (by omega) (Nat.le_refl _), idx_lt hu, rfl, rfl⟩
  · refine ⟨⟨?_, ?_, h.c, ?_, fun L hL => ?_, fun x hx => ?_, fun q hq => ?_, h.cc⟩, by simp, rfl, rfl⟩
    · have := h.n; simp; omega
    · have := h.a; simp [this]
    · have := h.l; show S.K.length ≤ m + 1; omega
    · rcases List.mem_append.1 hL with hL | hL
      · exact h.at' L hL
      · rw [List.mem_singleton.1 hL]; exact hp.2.2.1
    · obtain ⟨h1, h2, h3, h4⟩ := h.kt x hx
      exact ⟨h1, by simp; omega, by simp; omega, h4⟩
    · rcases List.mem_append.1 hq with hq | hq
      · exact h.nn q hq
      · rw [List.mem_singleton.1 hq]; exact ⟨hn, hp.1, hp.2.1⟩
def menL (p : Pl) : List Two → St → Except Int (List Nat × St)
  | [], S => .ok ([], S)
  | r :: rs, S =>
    match ment r.1 p S with
    | .error e => .error e
    | .ok (v, S) =>
      match menL p rs S with
      | .error e => .error e
      | .ok (l, S) => .ok (v :: l, S)
def lnkL (own : List Two) : Option (Nat × ByteArray) → List Two → List Nat → List Lk
  | last, r :: rs, v :: l => (match last with | none => [] | some q => [⟨q.1, q.2, v, r.2, own⟩]) ++ lnkL own (some (v, r.2)) rs l
  | _, _, _ => []
theorem ment_K (n : ByteArray) (p : Pl) (S : St) (K : List Lk) : ment n p { S with K := K } = match ment n p S with
    | .error e => .error e
    | .ok (v, S') => .ok (v, { S' with K := K }) := by
  unfold ment St.taken St.idx
  dsimp only
  split
  · rfl
  · cases idxGo n 0 S.N <;> rfl
theorem ment_keepK {n : ByteArray} {p : Pl} {S S' : St} {v : Nat} (h : ment n p S = .ok (v, S')) : S'.K = S.K := by
  unfold ment at h
  split at h
  · cases h
  · split at h <;> (injection h with h; injection h with h1 h2; subst h2; rfl)
theorem menL_len {p : Pl} : ∀ (rs : List Two) (S S' : St) (l : List Nat), menL p rs S = .ok (l, S') → l.length = rs.length
  | [], S, S', l, h => by unfold menL at h; injection h with h; injection h with h1 h2; subst h1; rfl
  | r :: rs, S, S', l, h => by
    unfold menL at h
    split at h
    · cases h
    · split at h
      · cases h
      · rename_i l2 S3 h2
        injection h with h; injection h with h1 h2'; subst h1
        simp [menL_len rs _ _ _ h2]
theorem chain_men (own : List Two) (p : Pl) : ∀ (rs : List Two) (last : Option (Nat × ByteArray)) (S : St) (K : List Lk), chainT own p rs last { S with K := K } = match menL p rs S with
    | .error e => .error e
    | .ok (l, S') => .ok { S' with K := K ++ lnkL own last rs l }
  | [], last, S, K => by unfold chainT menL lnkL; simp
  | r :: rs, last, S, K => by
    unfold chainT menL
    rw [ment_K]
    cases h : ment r.1 p S with
    | error e => rfl
    | ok vs =>
      obtain ⟨v, S1⟩ := vs
      dsimp only
      cases last with
      | none =>
        have ih := chain_men own p rs (some (v, r.2)) S1 K
        rw [ih]
        cases h2 : menL p rs S1 with
        | error e => rfl
        | ok q => obtain ⟨l, S2⟩ := q; simp [lnkL]
      | some q =>
        have ih := chain_men own p rs (some (v, r.2)) S1 (K ++ [⟨q.1, q.2, v, r.2, own⟩])
        dsimp only at ih ⊢
        rw [ih]
        cases h2 : menL p rs S1 with
        | error e => rfl
        | ok q => obtain ⟨l, S2⟩ := q; simp [lnkL]
theorem menL_K {p : Pl} : ∀ (rs : List Two) (S S' : St) (l : List Nat), menL p rs S = .ok (l, S') → S'.K = S.K
  | [], S, S', l, h => by unfold menL at h; injection h with h; injection h with h1 h2; subst h2; rfl
  | r :: rs, S, S', l, h => by
    unfold menL at h
    split at h
    · cases h
    · rename_i v S1 hm
      split at h
      · cases h
      · rename_i l2 S3 h2
        injection h with h; injection h with h1 h2'; subst h2'
        rw [menL_K rs _ _ _ h2, ment_keepK hm]
theorem chain_doc (own : List Two) (p : Pl) (rs : List Two) (S : St) : chainT own p rs none S = match menL p rs S with
    | .error e => .error e
    | .ok (l, S') => .ok { S' with K := S'.K ++ lnkL own none rs l } := by
  have h := chain_men own p rs none S S.K
  rw [show ({ S with K := S.K } : St) = S from rfl] at h
  rw [h]
  cases h2 : menL p rs S with
  | error e => rfl
  | ok q => obtain ⟨l, S2⟩ := q; dsimp only; rw [menL_K rs _ _ _ h2]
def docK (x : Stm) : Int := if x.kind = 4 then 4 else if x.kind = 2 ∨ x.kind = 3 ∧ x.name.data.toList = [101, 100, 103, 101] then 2 else 1
def docA (x : Stm) : List Two := if x.kind = 4 then x.attrs.map fun q => (x.name, q.2) else x.attrs
theorem chk_doc (x : Stm) (h : formB x = true) : chkS x = chkGo (docK x) none (docA x) := by
  obtain ⟨hk, h3, h4⟩ := form_kinds x h
  unfold chkS kindS docK docA
  rcases hk with e | e | e | e | e
  · simp [e]
  · simp [e]
  · have hn := h3 e
    simp only [e]
    unfold formB at h
    rw [if_neg (by omega), if_neg (by omega), if_pos e] at h
    simp only [Bool.and_eq_true, Bool.or_eq_true, decide_eq_true_eq] at h
    rcases h.2 with e2 | e2
    · rw [e2]; simp [nodeW]
    · rw [e2]; simp [nodeW]
  · obtain ⟨q, hq, -⟩ := h4 e
    simp only [e, hq]
    simp [chkGo]
  · unfold formB at h
    rw [if_neg (by omega), if_neg (by omega), if_neg (by omega), if_neg (by omega), if_pos e] at h
    simp only [Bool.and_eq_true, List.isEmpty_iff] at h
    rw [h.2]
    simp [e, chkGo]
end Go.Proofs.YtnancphlkbfglaaGreatDoor.Nm

namespace Go.Proofs.YtnancphlkbfglaaGreatDoor.Nm
open Go.RowKit Go.Sort Go.Lib Go.Shelf Fx Lx Tr At
def MentR (w0 : World) (bb m1 m2 B : Nat) (r : Except Int (Nat × St)) (e : Ending) (w' : World) : Prop :=
  match r with
  | .error er => e = .returned (.tuple #[.int .i64 0, .int .i64 er]) ∧ er ≠ 0
  | .ok vs => e = .returned (.tuple #[.int .i64 vs.1, .int .i64 0]) ∧ BldE w0 bb m1 m2 B w' vs.2
set_option maxHeartbeats 4000000 in
set_option maxRecDepth 100000 in
theorem ment_any (w0 : World) (bb m1 m2 B : Nat) (n : ByteArray) (p : Pl) (pn pe : Value) (S : St) (w : World) (hb : BldE w0 bb m1 m2 B w S) (hpn : AtL w pn p.n) (hn : n.size ≤ 64) (hN : S.N.length ≤ 100000) (hA : S.A.length ≤ 100000) :
    Calls Tryz.prog 56 #[.pointer (some ⟨bb, 0, none⟩), .string n, .agg #[.int .i64 p.c, pn, pe]] w fun e w' => MentR w0 bb m1 m2 B (ment n p S) e w' ∧ KeepB w w' ∧ Ext w0 w' := by
  obtain ⟨nv, av, cv, lv, aw, ks, h⟩ := hb
  obtain ⟨tk, htk⟩ : ∃ t, t = S.taken n := ⟨_, rfl⟩
  obtain ⟨ix, hix⟩ : ∃ i, i = S.idx n := ⟨_, rfl⟩
  have l2 := fun ob => (h.ext ((Ext.refl w).alloc ob)).look2 n hn
  have l1 := fun ob => (h.ext ((Ext.refl w).alloc ob)).look1 n hn
  rw [show (S.C.any fun q => decide (q.1 = n)) = tk from htk.symm] at l2
  rw [show idxGo n 0 S.N = ix from hix.symm] at l1
  have c0 := fun ob => (h.ext ((Ext.refl w).alloc ob)).cells.1
  have c2 := fun ob => (h.ext ((Ext.refl w).alloc ob)).cells.2.2.1
  have c4 := fun ob => (h.ext ((Ext.refl w).alloc ob)).cells.2.2.2.2.1
  obtain ⟨R, hR⟩ : ∃ R, R = ment n p S := ⟨_, rfl⟩
  rw [← hR]
  unfold ment at hR
  rw [← htk, ← hix] at hR
  have HR := Lib.hid hR
  have HB := Lib.hid h; have HPN := Lib.hid hpn; have HIX := Lib.hid hix
  clear hR h hpn hix htk
  go_enter Tryz.func56, Tryz.ntmps56
  cases tk with
  | true =>
    have hr : Hid (R = .error 6) := Lib.hid (by rw [HR.out, if_pos rfl])
    clear HR
    go_wp2
    go_returns
    rw [hr.out]
    exact ⟨⟨rfl, by decide⟩, KeepB.of ((Ext.refl _).alloc _), HB.out.X.alloc _⟩
  | false =>
    cases ix with
    | some v =>
      have hr : Hid (R = .ok (v, S)) := Lib.hid (by rw [HR.out, if_neg (by decide)])
      clear HR
      dsimp only [Option.getD_some, Option.isSome_some] at l1
      go_wp2
      go_returns
      rw [hr.out]
      exact ⟨⟨rfl, _, _, _, _, _, _, HB.out.ext ((Ext.refl _).alloc _)⟩, KeepB.of ((Ext.refl _).alloc _), HB.out.X.alloc _⟩
    | none =>
      have hr : Hid (R = .ok (S.N.length, { S with N := S.N ++ [(n, p.c)], A := S.A ++ [p.n] })) := Lib.hid (by rw [HR.out, if_neg (by decide)])
      clear HR
      dsimp only [Option.getD_none, Option.isSome_none] at l1
      obtain ⟨na, nc, rfl, -, -⟩ := row_val HB.out.N
      obtain ⟨aa, ac, rfl, -, -⟩ := row_val HB.out.A
      obtain ⟨pa, pc, rfl, hpi, hpz⟩ := HPN.out
      obtain ⟨i0, hi, hz0, hz1, hz2⟩ := info_parts info_node
      obtain ⟨j0, hj, hjz0, hjz1, hjz2⟩ := info_parts info_atl
      have B1 := HB.out.ext ((Ext.refl w).alloc (.cells #[.int .i64 p.c, .slice pa p.n.length pc, pe] 71))
      obtain ⟨n1, D1, h1, h1n, h1d⟩ := B1.M1
      obtain ⟨w2, r2, h2, g2⟩ := h1.update key9 Tryz.underlying63 (by unfold maxLen; omega) (key := .string n) (val := .int .i64 S.N.length) (Go.WideMaps.keyOf_string_mk Tryz.underlying9 (by unfold maxLen; omega)) rfl
      have hd2 := h1d.put p.c HIX.out.symm
      obtain ⟨B2, K2⟩ := B1.putI h2 (by omega) hd2 g2
      have x2 := K2.blk _ _ _ _ (heap_alloc_new w (.cells #[.int .i64 p.c, .slice pa p.n.length pc, pe] 71)) (by decide) (by decide) (by decide) (by decide) (by decide)
      have e0 : w2.cell? ⟨w.heap.size, 0, none⟩ = some (.int .i64 p.c) := by rw [Lib.cell_of_heap x2]; rfl
      have d0 := B2.cells.1
      have HB2 := Lib.hid B2; have HK2 := Lib.hid (KeepB.trans (KeepB.of ((Ext.refl w).alloc (.cells #[.int .i64 p.c, .slice pa p.n.length pc, pe] 71))) K2); have HX2 := Lib.hid x2
      have HPZ := Lib.hid hpz; have HPI := Lib.hid hpi
      have d0a := fun ob => (HB2.out.ext ((Ext.refl w2).alloc ob)).cells.1
      have e0a : ∀ ob, (w2.alloc ob).cell? ⟨w.heap.size, 0, none⟩ = some (.int .i64 p.c) := fun ob => ((Ext.refl w2).alloc ob).cell e0
      clear B1 h1 h1n h1d h2 g2 hd2 B2 K2 x2 hpz hpi
      go_wp2_with fail
      go_cut [38] from 38 to 50 (fun s38 wx => s38 = .pointer (some ⟨bb, 0, none⟩) ∧ ∃ gg cp, Hid (Bld w0 bb m1 m2 B wx (.slice (some ⟨gg, 0, none⟩) (S.N.length + 1) cp) (.slice aa S.A.length ac) cv lv aw ks { S with N := S.N ++ [(n, p.c)] } (S.N ++ [(n, p.c)]) S.C) ∧ Hid (KeepB w2 wx))
      case first =>
        go_region_law (first
          | (refine step_append_lies _ (by rfl) _ _ 27 (by rfl) B 40 i0 _ 6 80 Tryz.underlying27 hi hz0 hz1 hz2 rfl (by decide) _ _ _ (by rfl) (At.own_ext HB2.out.N (((Ext.refl w2).alloc _).drew)) ⟨w2.heap.size, 0, none⟩ 1 1 (ndC (n, p.c)) (by rfl) (by rfl) (World.news_of_block (cs := #[.string n, .string ⟨#[]⟩, .int .i64 0, .int .i64 0, .int .i64 p.c, .slice none 0 0]) (t := 40) (fr := (0, 0)) (heap_alloc_new w2 _)) (by intro u hu; simp [ndC] at hu; rcases hu with rfl | rfl | rfl | rfl | rfl | rfl <;> rfl) (by omega) (by unfold maxLen; omega) (by omega) (by have := HB2.out.Z; simp; omega) _ rfl ?_
             intro gg cp w4 hown1 hgrow hat2 hlt2
             have HB3 := Lib.hid (HB2.out.ext (((Ext.refl w2).alloc (.cells #[.string n, .string ⟨#[]⟩, .int .i64 0, .int .i64 0, .int .i64 p.c, .slice none 0 0] 40)).drew))
             have hS4 := HB3.out.midS hgrow (row_ty (At.own_ext HB2.out.N (((Ext.refl w2).alloc _).drew))) (by decide)
             have e4 : w4.cell? ⟨bb, 0, none⟩ = some (.slice na S.N.length nc) := by rw [Lib.cell_of_heap hS4]; rfl
             have f4 : w4.frozen? ⟨bb, 0, none⟩ = false := Lib.frozen_of_heap hS4 0
             have FIN := Lib.hid (HB3.out.appN (n, p.c) rfl hown1 hgrow)
             clear hown1 hgrow hat2 hlt2 hS4))
        all_goals go_wp2
        all_goals go_meet
        all_goals first
          | exact ⟨rfl, gg, cp, Lib.hid FIN.out.1, Lib.hid ((KeepB.of (((Ext.refl w2).alloc _).drew)).trans FIN.out.2)⟩
          | exact ⟨rfl, gg, cp, Lib.hid (FIN.out.1.ext ((Ext.refl _).drew)), Lib.hid (((KeepB.of (((Ext.refl w2).alloc _).drew)).trans FIN.out.2).ext ((Ext.refl _).drew))⟩
      case rest =>
        obtain ⟨rfl, gg, cp, HB5, HK5⟩ := hcut
        have x5 := HK5.out.blk _ _ _ _ HX2.out (by decide) (by decide) (by decide) (by decide) (by decide)
        have e5 : wc.cell? ⟨w.heap.size, 1, none⟩ = some (.slice pa p.n.length pc) := by rw [Lib.cell_of_heap x5]; rfl
        have d5 := HB5.out.cells.2.1
        have d5a := fun ob => (HB5.out.ext ((Ext.refl wc).alloc ob)).cells.2.1
        have e5a : ∀ ob, (wc.alloc ob).cell? ⟨w.heap.size, 1, none⟩ = some (.slice pa p.n.length pc) := fun ob => ((Ext.refl wc).alloc ob).cell e5
        have HK6 := Lib.hid (HK2.out.trans HK5.out)
        have HPV := Lib.hid (HK6.out.atL ⟨pa, pc, rfl, HPI.out, HPZ.out⟩)
        clear c0 c2 c4 l1 l2 d0 e0 d0a e0a HB2 HK2 HX2 HK5 x5 r2
        go_wp2_with fail
        go_region_law (first
          | (refine step_append_lies _ (by rfl) _ _ 65 (by rfl) B 54 j0 _ 1 24 Tryz.underlying65 hj hjz0 hjz1 hjz2 rfl (by decide) _ _ _ (by rfl) (At.own_ext HB5.out.A (((Ext.refl wc).alloc _).drew)) ⟨wc.heap.size, 0, none⟩ 1 1 [.slice pa p.n.length pc] (by rfl) (by rfl) (World.news_of_block (cs := #[.slice pa p.n.length pc]) (t := 54) (fr := (0, 0)) (heap_alloc_new wc _)) (by simp [Value.oneCell']) (by omega) (by show S.A.length + 1 ≤ maxLen; unfold maxLen; omega) (by show (S.A.length + 1) * 24 ≤ _; omega) (by have := HB5.out.Z; simp; omega) _ rfl ?_
             intro g7 c7 w7 hown1 hgrow hat2 hlt2
             have HB6 := Lib.hid (HB5.out.ext (((Ext.refl wc).alloc (.cells #[.slice pa p.n.length pc] 54)).drew))
             have hS7 := HB6.out.midS hgrow (row_ty (At.own_ext HB5.out.A (((Ext.refl wc).alloc _).drew))) (by decide)
             have e7 : w7.cell? ⟨bb, 1, none⟩ = some (.slice aa S.A.length ac) := by rw [Lib.cell_of_heap hS7]; rfl
             have f7 : w7.frozen? ⟨bb, 1, none⟩ = false := Lib.frozen_of_heap hS7 1
             have FIN := Lib.hid (HB6.out.appA (L := p.n) (v := .slice pa p.n.length pc) rfl (HPV.out.ext (((Ext.refl wc).alloc _).drew)) hown1 hgrow)
             clear hown1 hgrow hat2 hlt2 hS7))
        all_goals go_wp2
        all_goals go_returns
        all_goals rw [hr.out]
        all_goals first
          | exact ⟨⟨rfl, _, _, _, _, _, _, FIN.out.1⟩, (HK6.out.ext (((Ext.refl wc).alloc _).drew)).trans FIN.out.2, FIN.out.1.X⟩
          | exact ⟨⟨rfl, _, _, _, _, _, _, FIN.out.1.ext ((Ext.refl _).drew)⟩, ((HK6.out.ext (((Ext.refl wc).alloc _).drew)).trans FIN.out.2).ext ((Ext.refl _).drew), FIN.out.1.X.drew⟩
end Go.Proofs.YtnancphlkbfglaaGreatDoor.Nm

namespace Go.Proofs.YtnancphlkbfglaaGreatDoor.Nm
open Go.RowKit Go.Lib Fx Lx At
theorem boxes {w w1 : World} {c d : Array Value} {T U : TypeId} (h : Ext ((w.alloc (.cells c T)).alloc (.cells d U)) w1) : (∀ j v, c[j]? = some v → w1.cell? ⟨w.heap.size, j, none⟩ = some v) ∧ (∀ j v, d[j]? = some v → w1.cell? ⟨w.heap.size + 1, j, none⟩ = some v) := by
  refine ⟨fun j v hv => h.cell (((Ext.refl _).alloc _).cell ?_), fun j v hv => h.cell ?_⟩
  · rw [Lib.cell_of_heap (heap_alloc_new w _)]; exact hv
  · have := heap_alloc_new (w.alloc (.cells c T)) (.cells d U)
    rw [World.size_alloc] at this
    rw [Lib.cell_of_heap this]; exact hv
set_option maxHeartbeats 4000000 in
set_option maxRecDepth 100000 in
theorem sameNode_true (nm lb : ByteArray) (x y c : Int) (P : List Prt) (pa pb : Option Addr) (ca cb : Nat) (w : World) (ha : PrtIn w pa P) (hb : PrtIn w pb P) (hl : P.length ≤ 4611686018427387904) :
    Calls Tryz.prog 34 #[.agg #[.string nm, .string lb, .int .i64 x, .int .i64 y, .int .i64 c, .slice pa P.length ca], .agg #[.string nm, .string lb, .int .i64 x, .int .i64 y, .int .i64 c, .slice pb P.length cb]] w fun e w' => e = .returned (.bool true) ∧ Ext w w' := by
  obtain ⟨n, hn⟩ : ∃ n, n = P.length := ⟨_, rfl⟩
  rw [← hn] at hl ⊢
  have HA := Lib.hid ha; have HB := Lib.hid hb; have HN := Lib.hid hn
  clear ha hb hn
  go_enter Tryz.func34, Tryz.ntmps34
  go_wp2
  obtain ⟨w1, hw1⟩ : ∃ w1, w1 = (w.alloc (.cells #[.string nm, .string lb, .int .i64 x, .int .i64 y, .int .i64 c, .slice pa n ca] 40)).alloc (.cells #[.string nm, .string lb, .int .i64 x, .int .i64 y, .int .i64 c, .slice pb n cb] 40) := ⟨_, rfl⟩
  have X1 : Hid (Ext ((w.alloc (.cells #[.string nm, .string lb, .int .i64 x, .int .i64 y, .int .i64 c, .slice pa n ca] 40)).alloc (.cells #[.string nm, .string lb, .int .i64 x, .int .i64 y, .int .i64 c, .slice pb n cb] 40)) w1) := Lib.hid (by rw [hw1]; exact Ext.refl _)
  have XW : Hid (Ext w w1) := Lib.hid ((((Ext.refl _).alloc _).alloc _).trans X1.out)
  rw [← hw1]
  clear hw1
  go_loopw [5] (fun i' wr => ∃ k : Nat, k ≤ n ∧ i' = .int .i64 k ∧ Ext w1 wr) (fun i' _ => n - (RowKit.intOf i').toNat)
  case atStart => exact ⟨0, Nat.zero_le _, rfl, Ext.refl _⟩
  case round =>
    obtain ⟨k, hk, rfl, hx⟩ := hrel
    obtain ⟨bA, bB⟩ := boxes (X1.out.trans hx)
    have e0 := bA 5 _ rfl
    have e1 := bB 5 _ rfl
    clear bA bB
    by_cases hlt : k < n
    · have hkP : k < P.length := by rw [← HN.out]; exact hlt
      obtain ⟨g, o, rfl, c0, c1⟩ := (HA.out.ext (XW.out.trans hx)) k hkP
      obtain ⟨g2, o2, rfl, d0, d1⟩ := (HB.out.ext (XW.out.trans hx)) k hkP
      obtain ⟨s, hs⟩ : ∃ s, s = P[k].1 := ⟨_, rfl⟩
      obtain ⟨z, hz⟩ : ∃ z, z = P[k].2 := ⟨_, rfl⟩
      rw [← hs] at c0 d0; rw [← hz] at c1 d1
      have b0 : (0 : Int) ≤ (k : Int) := by omega
      have b1 : (k : Int) < (n : Int) := by omega
      clear hs hz
      go_wp2_with fail
      go_quiet (fail)
      go_wp2
      go_roundw
      case rel => exact ⟨k + 1, by omega, by go_num, by first | exact hx.drewN _ | exact hx.drew⟩
      case measure => simp [RowKit.intOf]; omega
    · go_wp2
      go_ret
      exact ⟨rfl, XW.out.trans hx⟩
end Go.Proofs.YtnancphlkbfglaaGreatDoor.Nm
