/- Packed texts: ExpSiz, ExpEql, QuoOnce -/
import Derived.Test.YtjaeedbjknejdaaGreatDoorPt42
import Derived.Tactics
import Derived.Tactics2
import Derived.Defers
import Derived.Laws.Pointers
import Derived.Laws.LoneSync
import Derived.RegionTactic
import Derived.RegionCalls
import Derived.ChangeAlike
set_option linter.unusedVariables false
set_option linter.unusedSimpArgs false
set_option maxHeartbeats 16000000
set_option maxRecDepth 100000
namespace Go.Proofs.YtjaeedbjknejdaaGreatDoor.Ex
open Go.Lib Fx Lx Tr At Go.Proofs.YtjaeedbjknejdaaGreatDoor.Nm
theorem block_all {g : Gr} (P : Stm × Nat -> Prop) (hn : ∀ (i : Nat) (h : i < g.N.length) (lev : Nat), P (nodeS g.N[i], lev)) (hc : ∀ (i : Nat) (h : i < g.C.length) (lev : Nat) (B : List Stm), P (.mk 5 g.C[i].1 [] [] B, lev)) : ∀ (f : Nat) (p : Int) (n k lev : Nat), ∀ q ∈ flatL lev (blockT g f p n k).1, P q
  | 0, p, n, k, lev, q, hq => by rw [blockT] at hq; dsimp only at hq; rw [flatL_nil] at hq; cases hq
  | f + 1, p, n, k, lev, q, hq => by
    rw [blockT] at hq
    split at hq
    · rename_i hr
      have hk := ready_lt hr
      dsimp only at hq
      rw [flatL_cons, flatS_mk] at hq
      rcases List.mem_append.1 hq with hq | hq
      · rcases List.mem_cons.1 hq with rfl | hq
        · have := hc k hk lev (blockT g f k n (k + 1)).1
          rw [List.getElem?_eq_getElem hk]
          exact this
        exact block_all P hn hc f _ _ _ _ q hq
      exact block_all P hn hc f _ _ _ _ q hq
    · split at hq
      · dsimp only at hq; rw [flatL_nil] at hq; cases hq
      rename_i x hx
      obtain ⟨hi, rfl⟩ := List.getElem?_eq_some_iff.1 hx
      split at hq
      · dsimp only at hq
        have e := hn n hi lev
        unfold nodeS at hq e
        rw [flatL_cons, flatS_mk, flatL_nil] at hq
        rcases List.mem_append.1 hq with hq | hq
        · rw [List.mem_singleton.1 hq]; exact e
        exact block_all P hn hc f _ _ _ _ q hq
      dsimp only at hq; rw [flatL_nil] at hq; cases hq
theorem edges_all {N : List Nd} (P : Stm × Nat -> Prop) : ∀ (E : List Ed), (∀ x ∈ E, P (edgeS N x, 0)) -> ∀ q ∈ flatL 0 (E.map (edgeS N)), P q
  | [], _, q, hq => by rw [List.map_nil, flatL_nil] at hq; cases hq
  | x :: E, h, q, hq => by
    rw [List.map_cons, flatL_cons] at hq
    rcases List.mem_append.1 hq with hq | hq
    · have e := h x (by simp)
      unfold edgeS at hq e
      rw [flatS_mk, flatL_nil] at hq
      rw [List.mem_singleton.1 hq]
      exact e
    · exact edges_all P E (fun y hy => h y (by simp [hy])) q hq
theorem sets_all (P : Stm × Nat -> Prop) : ∀ (L : List Stm), (∀ x ∈ L, (∃ k v, x = setS k v) /\ P (x, 0)) -> ∀ q ∈ flatL 0 L, P q
  | [], _, q, hq => by rw [flatL_nil] at hq; cases hq
  | x :: L, h, q, hq => by
    obtain ⟨⟨k, v, rfl⟩, hp⟩ := h x (by simp)
    rw [flatL_cons] at hq
    rcases List.mem_append.1 hq with hq | hq
    · unfold setS at hq hp
      rw [flatS_mk, flatL_nil] at hq
      rw [List.mem_singleton.1 hq]
      exact hp
    · exact sets_all P L (fun y hy => h y (by simp [hy])) q hq
theorem node_four (x : Nd) : (nodeA x).length <= 4 := by
  rw [nodeA_op]
  have h := (((op_sub (x.h = 10000) kHeight (fmtB x.h)).append (op_sub (x.label = x.name) kLabel x.label)).append (op_sub (x.ports = []) kPorts (portsTx x.ports)) |>.append (op_sub (x.w = 20000) kWidth (fmtB x.w))).length_le
  exact h
theorem edge_three (x : Ed) : (edgeA x).length <= 3 := by
  rw [edgeA_op]
  exact (((op_sub _ _ _).append (op_sub _ _ _)).append (op_sub _ _ _)).length_le
theorem sets_only (o : Op5) : ∀ x ∈ optsL o, ∃ k v, x = setS k v := fun x hx => by
  rw [optsL_op] at hx
  simp only [List.mem_append] at hx
  rcases hx with (((hx | hx) | hx) | hx) | hx <;> exact ⟨_, _, opS_mem hx⟩
theorem body_few (g : Gr) (o : Op5) : ∀ p ∈ flatL 0 (bodyT g o), p.1.refs.length <= 10 /\ p.1.attrs.length <= 16 := fun p hp => by
  unfold bodyT at hp
  rw [flatL_app, flatL_app] at hp
  rcases List.mem_append.1 hp with hp | hp
  · rcases List.mem_append.1 hp with hp | hp
    · refine sets_all (fun p => p.1.refs.length <= 10 /\ p.1.attrs.length <= 16) _ (fun x hx => ?_) p hp
      obtain ⟨k, v, rfl⟩ := sets_only o x hx
      exact ⟨⟨k, v, rfl⟩, by show 0 <= 10; decide, by show 1 <= 16; decide⟩
    refine block_all (fun p => p.1.refs.length <= 10 /\ p.1.attrs.length <= 16) (fun i h lev => ⟨by show 0 <= 10; decide, ?_⟩) (fun i h lev B => ⟨by show 0 <= 10; decide, by show 0 <= 16; decide⟩) _ _ _ _ _ p hp
    have := node_four g.N[i]
    show (nodeA g.N[i]).length <= 16
    omega
  refine edges_all (fun p => p.1.refs.length <= 10 /\ p.1.attrs.length <= 16) _ (fun x hx => ⟨by show 2 <= 10; decide, ?_⟩) p hp
  have := edge_three x
  show (edgeA x).length <= 16
  omega
theorem tree_ok {g : Gr} {o : Op5} {B : List Stm} (h : treeT g o = .ok B) : B = bodyT g o /\ grE g = 0 /\ inR5 o = true /\ validE g.name B = 0 /\ (∀ p ∈ flatL 0 B, p.1.refs.length <= 10 /\ p.1.attrs.length <= 16) /\ g.name.size <= 16 /\ sizeL B <= 1048576 /\ cntL B <= 341 := by
  unfold treeT at h
  split at h
  · cases h
  rename_i h1
  split at h
  · cases h
  split at h
  · cases h
  rename_i h3
  injection h with h
  subst h
  have hg : grE g = 0 := Classical.not_not.1 fun e => h1 (.inl e)
  have ho : inR5 o = true := by
    cases e : inR5 o
    · exact absurd (.inr e) h1
    rfl
  have hv : validE g.name (bodyT g o) = 0 := Classical.not_not.1 h3
  have hfw := body_few g o
  have hcn := cnt_body (gr_ok hg) o
  obtain ⟨v1, v2, v3, -⟩ := valid_ok g.name (bodyT g o) hv
  have := Pa.size_flat 1400 (sizeL (bodyT g o)) (bodyT g o) (Nat.le_refl _) 0 (fun p hp => Pa.own_le (okS_of p.1 p.2 (v3 p hp)) (hfw p hp).1 (by have := (hfw p hp).2; omega))
  rw [cntL_flat] at this
  exact ⟨rfl, hg, ho, hv, hfw, Pa.name_len v1, by omega, hcn⟩
end Go.Proofs.YtjaeedbjknejdaaGreatDoor.Ex

namespace Go.Proofs.YtjaeedbjknejdaaGreatDoor.Ex
open Go.RowKit Go.Sort Go.Lib Go.Shelf Fx Lx Tr At Go.Proofs.YtjaeedbjknejdaaGreatDoor.Nm
theorem cntL_at : ∀ (L : List Stm) (k : Nat) (h : k < L.length), cntS L[k] <= cntL L
  | [], k, h => absurd h (by simp)
  | x :: r, 0, _ => by rw [cntL_cons]; simp
  | x :: r, k + 1, h => by
    have := cntL_at r k (by simpa using h)
    rw [cntL_cons]; simp only [List.getElem_cons_succ]; omega
theorem cntL_len : ∀ L : List Stm, L.length <= cntL L
  | [] => by rw [cntL_nil]; exact Nat.le_refl _
  | x :: r => by
    have h1 := cntS_body x
    have h2 := cntL_len r
    rw [cntL_cons, List.length_cons]; omega
def PairE (wr : World) (cs ds : Array Value) (s6 s7 : Value) (wx : World) : Prop :=
  ∃ g h, s6 = .pointer (some ⟨g, 0, none⟩) /\ s7 = .pointer (some ⟨h, 0, none⟩) /\ wx.heap[g]? = some (.cells cs 67 (0, 0)) /\ wx.heap[h]? = some (.cells ds 67 (0, 0)) /\ Ext wr wx
theorem pairE_heap (w : World) (o1 o2 : Obj) : (((w.alloc o1).alloc o2).drew).heap[w.heap.size]? = some o1 /\ (((w.alloc o1).alloc o2).drew).heap[w.heap.size + 1]? = some o2 := by
  have h2 := heap_alloc_new (w.alloc o1) o2
  rw [World.size_alloc] at h2
  exact ⟨(((Ext.refl (w.alloc o1)).alloc o2).block w.heap.size (by simp)).trans (heap_alloc_new w o1), h2⟩
theorem pairE_cells {w : World} {g : Nat} {c0 c1 c2 c3 c4 : Value} (h : w.heap[g]? = some (.cells #[c0, c1, c2, c3, c4] 67 (0, 0))) : ∀ w', Ext w w' ->
    w'.cell? ⟨g, 0, none⟩ = some c0 /\ w'.cell? ⟨g, 1, none⟩ = some c1 /\ w'.cell? ⟨g, 2, none⟩ = some c2 /\ w'.cell? ⟨g, 3, none⟩ = some c3 /\ w'.cell? ⟨g, 4, none⟩ = some c4 := fun w' x => by
  have h' := (x.block g (Array.getElem?_eq_some_iff.1 h).1).trans h
  refine ⟨?_, ?_, ?_, ?_, ?_⟩ <;> (rw [Lib.cell_of_heap h']; rfl)
theorem eqlL_any : ∀ (K : Nat) (L : List Stm) (a b : Option Addr) (ca cb n : Nat) (w : World), cntL L <= K -> K <= 1048576 -> n <= w.heap.size -> StmsAt n w a L -> StmsAt n w b L ->
    Calls Tryz.prog 36 #[.slice a L.length ca, .slice b L.length cb] w fun e w' => e = .returned (.bool true) /\ Ext w w' := by
  intro K
  induction K using Nat.strongRecOn with
  | _ K ih =>
  intro L a b ca cb n w hK hmax hn hL hM
  obtain ⟨N, hN⟩ : ∃ N, N = L.length := ⟨_, rfl⟩
  have hNM : N <= 1048576 := by have := cntL_len L; omega
  rw [<- hN]
  have HN := Lib.hid hN; have HL := Lib.hid hL; have HM := Lib.hid hM; have HK := Lib.hid hK; have HMX := Lib.hid hmax; have HNW := Lib.hid hn; have HIH := Lib.hid ih
  clear hN hL hM hK hmax hn ih
  go_enter Tryz.func36, Tryz.ntmps36
  go_wp2_with fail
  go_loopw [5] (fun i' wr => ∃ k : Nat, k <= N /\ i' = .int .i64 k /\ Ext w wr) (fun i' _ => N - (RowKit.intOf i').toNat)
  case atStart => exact ⟨0, by omega, rfl, Ext.refl _⟩
  obtain ⟨k, hk, rfl, hx⟩ := hrel
  by_cases hlt : k < N
  · have hkl : k < L.length := by rw [<- HN.out]; exact hlt
    have hbn : Below n w wr := Below.mono hx HNW.out
    obtain ⟨g, o, rfl, hg, hst⟩ := StmsAt.at L (StmsAt.below hbn L HL.out) k hkl
    obtain ⟨g2, o2, rfl, hg2, hst2⟩ := StmsAt.at L (StmsAt.below hbn L HM.out) k hkl
    have hsz : cntS L[k] <= K := Nat.le_trans (cntL_at L k hkl) HK.out
    obtain ⟨s, hs⟩ : ∃ s, s = L[k] := ⟨_, rfl⟩
    rw [<- hs] at hst hsz hst2
    clear hs
    obtain ⟨kind, nm, rs, al, body⟩ := s
    have hbd := cntS_body (.mk kind nm rs al body)
    simp only [Stm.body] at hbd
    rw [StmAt] at hst hst2
    obtain ⟨r, rc, a', atc, b', bc, c0, c1, c2, c3, c4, hr, ha, hbs, hl1, hl2, hl3, hl4, hl5⟩ := hst
    obtain ⟨r2, rc2, a2, atc2, b2, bc2, d0, d1, d2, d3, d4, hr2, ha2, hbs2, hm1, hm2, hm3, hm4, hm5⟩ := hst2
    have hwn : n <= wr.heap.size := Nat.le_trans HNW.out hx.size
    have hgw : g < wr.heap.size := by omega
    have hgw1 : g < wr.heap.size + 1 := by omega
    have hgx : g2 < wr.heap.size := by omega
    have hgx1 : g2 < wr.heap.size + 1 := by omega
    have hsb := fun w' (x : Ext wr w') => HIH.out (cntL body) (by omega) body b' b2 bc bc2 n w' (Nat.le_refl _) (by have := HMX.out; omega) (by have h := x.size; omega) (StmsAt.below (Below.mono x hwn) body hbs) (StmsAt.below (Below.mono x hwn) body hbs2)
    have hrr := hr.in
    have hrr2 := hr2.in
    have haa := ha.in
    have haa2 := ha2.in
    have hRl : rs.length <= 9223372036854775807 := by unfold maxLen at hl3; omega
    have hAl : al.length <= 9223372036854775807 := by unfold maxLen at hl4; omega
    obtain ⟨R, hR⟩ : ∃ R, R = rs.length := ⟨_, rfl⟩
    obtain ⟨A, hA⟩ : ∃ R, R = al.length := ⟨_, rfl⟩
    rw [<- hR] at c2 d2 hRl
    rw [<- hA] at c3 d3 hAl
    have HSB := Lib.hid hsb; have HR1 := Lib.hid hrr; have HR2 := Lib.hid hrr2; have HRL := Lib.hid hR; have HA1 := Lib.hid haa; have HA2 := Lib.hid haa2; have HAL := Lib.hid hA
    clear hbd hsz hr ha hbs hl1 hl2 hl3 hl4 hl5 hr2 ha2 hbs2 hm1 hm2 hm3 hm4 hm5 hg hg2 hbn hwn hsb hrr hrr2 haa haa2 hR hA
    generalize body.length = B at *
    go_upto_region 6 with fail
    go_cut [6, 7] from 15 to 102 (fun s6 s7 wx => PairE wr #[.int .i64 kind, .string nm, .slice r R rc, .slice a' A atc, .slice b' B bc] #[.int .i64 kind, .string nm, .slice r2 R rc2, .slice a2 A atc2, .slice b2 B bc2] s6 s7 wx)
    case first =>
      go_region
      · go_wp2_with fail
        go_meet
        obtain ⟨e1, e2⟩ := pairE_heap wr (.cells #[.int .i64 kind, .string nm, .slice r R rc, .slice a' A atc, .slice b' B bc] 67) (.cells #[.int .i64 kind, .string nm, .slice r2 R rc2, .slice a2 A atc2, .slice b2 B bc2] 67)
        exact ⟨_, _, rfl, rfl, e1, e2, (((Ext.refl wr).alloc _).alloc _).drew⟩
      go_wp2_with fail
      go_meet
      obtain ⟨e1, e2⟩ := pairE_heap wr (.cells #[.int .i64 kind, .string nm, .slice r2 R rc2, .slice a2 A atc2, .slice b2 B bc2] 67) (.cells #[.int .i64 kind, .string nm, .slice r R rc, .slice a' A atc, .slice b' B bc] 67)
      exact ⟨_, _, rfl, rfl, e2, e1, (((Ext.refl wr).alloc _).alloc _).drew⟩
    obtain ⟨g6, g7, rfl, rfl, k6, k7, x6⟩ := hcut
    have P6 := Lib.hid (pairE_cells k6)
    have P7 := Lib.hid (pairE_cells k7)
    obtain ⟨p0, p1, p2, p3, p4⟩ := P6.out _ (Ext.refl _)
    obtain ⟨q0, q1, q2, q3, q4⟩ := P7.out _ (Ext.refl _)
    clear k6 k7 c0 c1 c2 c3 c4 d0 d1 d2 d3 d4
    have X6 := Lib.hid x6
    clear x6
    go_wp2_with (go_at_call 36; refine (HSB.out _ X6.out).mono ?_; rintro e w2 ⟨rfl, x2⟩; replace x2 := Lib.hid x2; clear p0 p1 p2 p3 p4 q0 q1 q2 q3 q4)
    go_loopw [8] (fun i' ws => ∃ m : Nat, m <= R /\ i' = .int .i64 m /\ Ext w2 ws) (fun i' _ => R - (RowKit.intOf i').toNat)
    case atStart => exact ⟨0, by omega, rfl, Ext.refl _⟩
    obtain ⟨m, hm, rfl, hy⟩ := hrel
    obtain ⟨p0, p1, p2, p3, p4⟩ := P6.out _ (x2.out.trans hy)
    obtain ⟨q0, q1, q2, q3, q4⟩ := P7.out _ (x2.out.trans hy)
    by_cases hmr : m < R
    · have hml : m < rs.length := by rw [<- HRL.out]; exact hmr
      have hxx := (X6.out.trans x2.out).trans hy
      obtain ⟨gr, or, rfl, e0, e1⟩ := (HR1.out.ext hxx) m hml
      obtain ⟨gs, os, rfl, f0, f1⟩ := (HR2.out.ext hxx) m hml
      generalize rs[m] = q at *
      obtain ⟨t1, t2⟩ := q
      dsimp only at e0 e1 f0 f1
      clear hxx
      go_wp2_with fail
      go_region
      all_goals
        go_wp2_with fail
        go_roundw
        case rel => exact ⟨m + 1, by omega, by go_num, hy.drew⟩
        case measure => simp [RowKit.intOf]; omega
    have y3 := Lib.hid (x2.out.trans hy)
    obtain ⟨w3, hw3⟩ : ∃ w3, w3 = wr := ⟨_, rfl⟩
    subst hw3
    clear hy
    go_wp2_with fail
    clear p0 p1 p2 p3 p4 q0 q1 q2 q3 q4
    go_loopw [9] (fun i' wt => ∃ m : Nat, m <= A /\ i' = .int .i64 m /\ Ext w3 wt) (fun i' _ => A - (RowKit.intOf i').toNat)
    case atStart => exact ⟨0, by omega, rfl, Ext.refl _⟩
    obtain ⟨m3, hm3, rfl, hz⟩ := hrel
    obtain ⟨p0, p1, p2, p3, p4⟩ := P6.out _ (y3.out.trans hz)
    obtain ⟨q0, q1, q2, q3, q4⟩ := P7.out _ (y3.out.trans hz)
    by_cases hma : m3 < A
    · have hml : m3 < al.length := by rw [<- HAL.out]; exact hma
      have hxx := (X6.out.trans y3.out).trans hz
      obtain ⟨gr, or, rfl, e0, e1⟩ := (HA1.out.ext hxx) m3 hml
      obtain ⟨gs, os, rfl, f0, f1⟩ := (HA2.out.ext hxx) m3 hml
      generalize al[m3] = q at *
      obtain ⟨t1, t2⟩ := q
      dsimp only at e0 e1 f0 f1
      clear hxx
      go_wp2_with fail
      go_region
      all_goals
        go_wp2_with fail
        go_roundw
        case rel => exact ⟨m3 + 1, by omega, by go_num, hz.drew⟩
        case measure => simp [RowKit.intOf]; omega
    go_wp2_with fail
    go_roundw
    case rel => exact ⟨k + 1, by omega, by go_num, hx.trans (X6.out.trans (y3.out.trans hz))⟩
    case measure => simp [RowKit.intOf]; omega
  go_wp2_with fail
  go_returns
  exact ⟨rfl, hx⟩
theorem eqlT_any (nm : ByteArray) (d : Bool) (L : List Stm) (a b : Option Addr) (ca cb n : Nat) (w : World) (hs : cntL L <= 1048576) (hn : n <= w.heap.size) (hL : StmsAt n w a L) (hM : StmsAt n w b L) :
    Calls Tryz.prog 12 #[.agg #[.string nm, .bool d, .slice a L.length ca], .agg #[.string nm, .bool d, .slice b L.length cb]] w fun e w' => e = .returned (.bool true) /\ Ext w w' := by
  have hx : Ext w ((w.alloc (.cells #[.string nm, .bool d, .slice a L.length ca] 33)).alloc (.cells #[.string nm, .bool d, .slice b L.length cb] 33)) := ((Ext.refl w).alloc _).alloc _
  have hc := fun w' (x : Ext w w') => eqlL_any 1048576 L a b ca cb n w' hs (Nat.le_refl _) (by have h := x.size; omega) (StmsAt.below (Below.mono x hn) L hL) (StmsAt.below (Below.mono x hn) L hM)
  obtain ⟨p0, p1, p2⟩ := tree_cells w nm d a L.length ca _ ((Ext.refl _).alloc (.cells #[.string nm, .bool d, .slice b L.length cb] 33))
  have hq := tree_cells (w.alloc (.cells #[.string nm, .bool d, .slice a L.length ca] 33)) nm d b L.length cb _ (Ext.refl _)
  rw [World.size_alloc] at hq
  obtain ⟨q0, q1, q2⟩ := hq
  generalize L.length = N at *
  have HC := Lib.hid hc; have HX := Lib.hid hx
  clear hc hx hs hn hL hM
  go_enter Tryz.func12, Tryz.ntmps12
  go_wp2_with (go_at_call 36; refine (HC.out _ HX.out).mono ?_; rintro e w3 ⟨rfl, x3⟩)
  go_returns
  exact ⟨rfl, HX.out.trans x3⟩
end Go.Proofs.YtjaeedbjknejdaaGreatDoor.Ex

namespace Go.Proofs.YtjaeedbjknejdaaGreatDoor.Qo
open Go.RowKit
theorem disable (w : World) : (callFunc 317 #[]).run Tryz.prog w = .ok (.value (.tuple #[])) w := run_call_mark0 Tryz.func317 (by kernel_rfl) (by kernel_rfl) (by kernel_rfl) .disable (by kernel_rfl) w
theorem enable (w : World) : (callFunc 319 #[]).run Tryz.prog w = .ok (.value (.tuple #[])) w := run_call_mark0 Tryz.func319 (by kernel_rfl) (by kernel_rfl) (by kernel_rfl) .enable (by kernel_rfl) w
theorem acquire (a : Addr) (w : World) : (callFunc 320 #[.pointer (some a)]).run Tryz.prog w = .ok (.value (.tuple #[])) w := run_call_marked Tryz.func320 (by kernel_rfl) (by kernel_rfl) (by kernel_rfl) .acquire (by kernel_rfl) a w
theorem releaseMerge (a : Addr) (w : World) : (callFunc 322 #[.pointer (some a)]).run Tryz.prog w = .ok (.value (.tuple #[])) w := run_call_marked Tryz.func322 (by kernel_rfl) (by kernel_rfl) (by kernel_rfl) .releaseMerge (by kernel_rfl) a w
theorem store_deferred (a : Addr) (x : Value) (u : FrameMode) (w : World) (hc : w.cell? a = some x) (hz : w.frozen? a = false) :
    CallsD Tryz.prog 308 #[.pointer (some a), .bool true] u w fun e u' w' => u' = u /\ (e = .returned (.tuple #[]) /\ w' = w.drew.setCell a (.int .u32 1)) := by
  have hc' : w.drew.cell? a = some x := by go_simp
  have hz' : w.drew.frozen? a = false := by go_simp
  have hst := run_call_store (P := Tryz.prog) Tryz.func313 (by kernel_rfl) (by kernel_rfl) (by kernel_rfl) (by kernel_rfl) (k := .u32) (y := 1) hc' hz'
  go_enter_d Tryz.func308, Tryz.ntmps308
  go_wp2
  go_region_calls
  all_goals (go_end0; exact ⟨rfl, rfl⟩)
theorem unlock_held (a : Addr) (w : World) (hc : w.cell? a = some (.int .i32 1)) (hz : w.frozen? a = false) :
    Calls Tryz.prog 312 #[.pointer (some a)] w fun e w' => e = .returned (.tuple #[]) /\ w' = w.setCell a (.int .i32 0) := by
  have hd := disable
  have he := enable
  have hr := releaseMerge
  have hadd := run_call_add (P := Tryz.prog) Tryz.func323 (by kernel_rfl) (by kernel_rfl) (by kernel_rfl) .i32 (by kernel_rfl) (y := -1) (s := 0) hc hz (by simp [go_sem]; rfl)
  have hcv := run_convert_to_unsafe (P := Tryz.prog) (src := 386) (dst := 308) Tryz.underlying386 Tryz.underlying308 (by kernel_rfl) hc
  go_enter Tryz.func312, Tryz.ntmps312
  go_wp2
  go_end0
  exact ⟨rfl, rfl⟩
theorem unlock_deferred (a : Addr) (u : FrameMode) (w : World) (hc : w.cell? a = some (.int .i32 1)) (hz : w.frozen? a = false) :
    CallsD Tryz.prog 307 #[.pointer (some a)] u w fun e u' w' => u' = u /\ (e = .returned (.tuple #[]) /\ w' = w.setCell a (.int .i32 0)) := by
  go_enter_d Tryz.func307, Tryz.ntmps307
  go_wp2_with (go_at_call 312; refine (unlock_held a _ hc hz).mono ?_; rintro e w' ⟨rfl, rfl⟩)
  go_end0
  exact ⟨rfl, rfl⟩
theorem lock_inner (a : Addr) (w : World) (hc : w.cell? a = some (.int .i32 0)) (hz : w.frozen? a = false) :
    Calls Tryz.prog 311 #[.pointer (some a)] w fun e w' => e = .returned (.tuple #[]) /\ w' = w.setCell a (.int .i32 1) := by
  have hd := disable
  have he := enable
  have ha := acquire
  have hcas := run_call_cas_hit (P := Tryz.prog) Tryz.func318 (by kernel_rfl) (by kernel_rfl) (by kernel_rfl) .i32 (by kernel_rfl) (y := 1) hc hz
  have hc' : (w.setCell a (.int .i32 1)).cell? a = some (.int .i32 1) := World.cell?_setCell_same w a _ hc
  have hcv := run_convert_to_unsafe (P := Tryz.prog) (src := 386) (dst := 308) Tryz.underlying386 Tryz.underlying308 (by kernel_rfl) hc'
  go_enter Tryz.func311, Tryz.ntmps311
  go_wp2
  first | go_end0 | (simp only [Exit.inBlock, Exit.then]; refine bodyPost_ret (results_none rfl _ _ _) rfl ?_) | refine bodyPost_ret (results_none rfl _ _ _) rfl ?_
  exact ⟨rfl, rfl⟩
theorem lock_free (a : Addr) (w : World) (hc : w.cell? a = some (.int .i32 0)) (hz : w.frozen? a = false) :
    Calls Tryz.prog 306 #[.pointer (some a)] w fun e w' => e = .returned (.tuple #[]) /\ w' = w.setCell a (.int .i32 1) := by
  go_enter Tryz.func306, Tryz.ntmps306
  go_wp2_with (go_at_call 311; refine (lock_inner a _ hc hz).mono ?_; rintro e w' ⟨rfl, rfl⟩)
  go_end0
  exact ⟨rfl, rfl⟩
def DoneOf (b : Nat) (Q : World -> Prop) (w' : World) : Prop := ∃ wq, Q wq /\ w' = (wq.drew.setCell ⟨b, 0, none⟩ (.int .u32 1)).setCell ⟨b, 1, none⟩ (.int .i32 0)
theorem slow_any (b : Nat) (r : Value) (w : World) (Q : World -> Prop)
    (h0 : w.cell? ⟨b, 0, none⟩ = some (.int .u32 0)) (h1 : w.cell? ⟨b, 1, none⟩ = some (.int .i32 0)) (f0 : w.frozen? ⟨b, 0, none⟩ = false) (f1 : w.frozen? ⟨b, 1, none⟩ = false)
    (hf : Calls Tryz.prog 301 #[r] (w.setCell ⟨b, 1, none⟩ (.int .i32 1)) fun e w' => e = .returned (.tuple #[]) /\ Q w')
    (hQ : ∀ w', Q w' -> w'.cell? ⟨b, 0, none⟩ = some (.int .u32 0) /\ w'.cell? ⟨b, 1, none⟩ = some (.int .i32 1) /\ w'.frozen? ⟨b, 0, none⟩ = false /\ w'.frozen? ⟨b, 1, none⟩ = false) :
    Calls Tryz.prog 303 #[.pointer (some ⟨b, 0, none⟩), .func (.func 301) #[r] #[]] w fun e w' => e = .returned (.tuple #[]) /\ DoneOf b Q w' := by
  have hl := run_call_load (P := Tryz.prog) Tryz.func305 (by kernel_rfl) (by kernel_rfl) (by kernel_rfl) .u32 (by kernel_rfl) (w := w.setCell ⟨b, 1, none⟩ (.int .i32 1)) (a := ⟨b, 0, none⟩) (x := 0) ((World.cell?_setCell_other _ ⟨b, 1, none⟩ ⟨b, 0, none⟩ _ (by simp)).trans h0)
  have hnot : ∀ (x : Bool) (w : World), (Op.unary .not (.bool x)).run Tryz.prog w = .ok (.bool (!x)) w := fun _ _ => rfl
  have HQ := Lib.hid hQ
  clear hQ
  go_enter_defers Tryz.func303, Tryz.ntmps303
  go_wp2_with (first | (go_at_call 306; refine (lock_free ⟨b, 1, none⟩ _ (by go_simp) (by go_simp)).mono ?_; rintro e w' ⟨rfl, rfl⟩) | (go_at_call 302; go_in))
  refine hf.mono ?_
  rintro e w' ⟨rfl, hq⟩
  obtain ⟨q0, q1, g0, g1⟩ := HQ.out w' hq
  have HQ2 := Lib.hid hq
  clear hq hf
  go_wp2
  refine leaves_cons (f := 308) (args := #[.pointer (some ⟨b, 0, none⟩), .bool true]) (by simp) (by simp [go_sem]) ?_
  refine (store_deferred ⟨b, 0, none⟩ (.int .u32 0) .returning _ q0 g0).mono ?_
  rintro e u' w'' ⟨rfl, rfl, rfl⟩
  refine leaves_cons (f := 307) (args := #[.pointer (some ⟨b, 1, none⟩)]) (by simp [settle]) (by simp [go_sem]) ?_
  refine (unlock_deferred ⟨b, 1, none⟩ _ _ ?_ (by simp [g1])).mono ?_
  · refine (World.cell?_setCell_other _ ⟨b, 0, none⟩ ⟨b, 1, none⟩ _ (by simp)).trans ?_
    rw [World.cell?_drew]
    exact q1
  rintro e u' w'' ⟨rfl, rfl, rfl⟩
  simp [Leaves, settle, results, Tryz.results303]
  exact ⟨_, HQ2.out, rfl⟩
theorem do_first (b : Nat) (r : Value) (w : World) (Q : World -> Prop)
    (h0 : w.cell? ⟨b, 0, none⟩ = some (.int .u32 0)) (h1 : w.cell? ⟨b, 1, none⟩ = some (.int .i32 0)) (f0 : w.frozen? ⟨b, 0, none⟩ = false) (f1 : w.frozen? ⟨b, 1, none⟩ = false)
    (hf : Calls Tryz.prog 301 #[r] (w.setCell ⟨b, 1, none⟩ (.int .i32 1)) fun e w' => e = .returned (.tuple #[]) /\ Q w')
    (hQ : ∀ w', Q w' -> w'.cell? ⟨b, 0, none⟩ = some (.int .u32 0) /\ w'.cell? ⟨b, 1, none⟩ = some (.int .i32 1) /\ w'.frozen? ⟨b, 0, none⟩ = false /\ w'.frozen? ⟨b, 1, none⟩ = false) :
    Calls Tryz.prog 300 #[.pointer (some ⟨b, 0, none⟩), .func (.func 301) #[r] #[]] w fun e w' => e = .returned (.tuple #[]) /\ DoneOf b Q w' := by
  have hs := slow_any b r w Q h0 h1 f0 f1 hf hQ
  clear hf hQ
  have hl := run_call_load (P := Tryz.prog) Tryz.func305 (by kernel_rfl) (by kernel_rfl) (by kernel_rfl) .u32 (by kernel_rfl) h0
  have hnot : ∀ (x : Bool) (w : World), (Op.unary .not (.bool x)).run Tryz.prog w = .ok (.bool (!x)) w := fun _ _ => rfl
  go_enter Tryz.func300, Tryz.ntmps300
  go_wp2_with (first | (go_at_call 303; refine hs.mono ?_; rintro e w' ⟨rfl, hq⟩) | (go_at_call 302; go_in))
  go_end0
  exact ⟨rfl, hq⟩
end Go.Proofs.YtjaeedbjknejdaaGreatDoor.Qo
