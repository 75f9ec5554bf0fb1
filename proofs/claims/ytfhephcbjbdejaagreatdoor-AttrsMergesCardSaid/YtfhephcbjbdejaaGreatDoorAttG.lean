/- What Check, Get, Number and CheckAll of the document and CheckAll of the program return. -/
import Derived.Test.YtfhephcbjbdejaaGreatDoorAttChkL
import Derived.Test.YtfhephcbjbdejaaGreatDoorAttPorts
import Derived.BigQuiet
import Derived.Test.YtfhephcbjbdejaaGreatDoorAttChk
/- What the document's Check returns, whole. -/
namespace Go.Proofs.YtfhephcbjbdejaaGreatDoor.At
open Go.RowKit Go.Sort Go.Lib Go.Shelf Fx Lx

theorem known_form (kind : Int) (l : List UInt8) : (knownT kind l).1 = 0 ∨ (knownT kind l).1 = 1 ∨ (knownT kind l).1 = 2 ∨ (knownT kind l).1 = 3 ∨ (knownT kind l).1 = 4 ∨ (knownT kind l).1 = 5 := by
  unfold knownT nodeK edgeK setK
  repeat' split
  all_goals decide
theorem checkR_any (kind : Int) (k v : ByteArray) (w : World) (hv : v.size ≤ 4294967280) :
    Calls Tryz.prog 24 #[.int .i64 kind, .agg #[.string k, .string v]] w fun e w' => e = .returned (.int .i64 (checkRV kind k v)) ∧ Ext w w' := by
  unfold checkRV
  by_cases hkd : kind = 1 ∨ kind = 2 ∨ kind = 4
  · have hkb : knownB kind = true := by unfold knownB; rcases hkd with rfl | rfl | rfl <;> rfl
    rw [if_neg (by rw [hkb]; decide)]
    obtain ⟨a, lo, hi, d, hr⟩ : ∃ a lo hi d, knownT kind k.data.toList = (a, lo, hi, d) := ⟨_, _, _, _, rfl⟩
    have hf := known_form kind k.data.toList
    rw [hr] at hf ⊢
    dsimp only at hf ⊢
    rcases hf with rfl | rfl | rfl | rfl | rfl | rfl
    · exact chkR_none kind lo hi d k v w hkd hr
    · rw [if_neg (by decide)]
      by_cases h32 : 32 < v.size
      · rw [if_pos ⟨rfl, h32⟩]; exact chkR_long kind lo hi d k v w hkd hr h32
      · rw [if_neg (fun h => h32 h.2)]
        exact chkR_label kind lo hi d k v w hkd hr (by omega)
    · rw [if_neg (by decide), if_neg (fun h => absurd h.1 (by decide))]
      exact chkR_num2 kind lo hi d k v w hkd hr hv
    · rw [if_neg (by decide), if_neg (fun h => absurd h.1 (by decide))]
      exact chkR_num3 kind lo hi d k v w hkd hr hv
    · rw [if_neg (by decide), if_neg (fun h => absurd h.1 (by decide))]
      exact chkR_ports kind lo hi d k v w hkd hr (by omega)
    · rw [if_neg (by decide), if_neg (fun h => absurd h.1 (by decide))]
      exact chkR_mode kind lo hi d k v w hkd hr
  · have h1 : kind ≠ 1 := fun h => hkd (.inl h)
    have h2 : kind ≠ 2 := fun h => hkd (.inr (.inl h))
    have h4 : kind ≠ 4 := fun h => hkd (.inr (.inr h))
    have hkb : knownB kind = false := by unfold knownB; rw [decide_eq_false h1, decide_eq_false h2, decide_eq_false h4]; rfl
    rw [if_pos hkb]
    exact chkR_other kind k v w h1 h2 h4
end Go.Proofs.YtfhephcbjbdejaaGreatDoor.At

/- What the document's Get returns. -/
namespace Go.Proofs.YtfhephcbjbdejaaGreatDoor.At
open Go.RowKit Go.Sort Go.Lib Go.Shelf Fx Lx

/-- The value of the last attribute with a key. -/
def getT (L : List Atr) (x : ByteArray) : ByteArray × Bool := match L.reverse.find? (fun q => decide (q.1 = x)) with
  | some q => (q.2, true)
  | none => (⟨#[]⟩, false)
theorem getT_snoc (L : List Atr) (q : Atr) (x : ByteArray) : getT (L ++ [q]) x = if q.1 = x then (q.2, true) else getT L x := by
  unfold getT
  rw [List.reverse_append]
  show (match (q :: L.reverse).find? _ with | some q => _ | none => _) = _
  rw [List.find?_cons]
  by_cases h : q.1 = x
  · rw [if_pos h, decide_eq_true h]
  · rw [if_neg h, decide_eq_false h]
set_option maxHeartbeats 2000000 in
theorem getR_any (a : Option Addr) (L : List Atr) (cap : Nat) (x : ByteArray) (w : World) (h : AtrIn w a L) (hL : L.length ≤ 9223372036854775807) :
    Calls Tryz.prog 12 #[.slice a L.length cap, .string x] w fun e w' => e = .returned (.tuple #[.string (getT L x).1, .bool (getT L x).2]) ∧ w = w' := by
  obtain ⟨N, hN⟩ : ∃ N, N = L.length := ⟨_, rfl⟩
  obtain ⟨T, hT⟩ : ∃ T, T = getT L x := ⟨_, rfl⟩
  have HT : Hid (T = getT (L.take N) x) := Lib.hid (by rw [hT, hN, List.take_length])
  have HI := Lib.hid h
  rw [← hN] at hL
  rw [← hN, ← hT]
  have HN := Lib.hid hN
  clear h hN hT
  go_enter Tryz.func12, Tryz.ntmps12
  go_wp2_with fail
  go_loop [6] (fun i' => (i' = .int .i64 (-1) ∧ Hid (T = getT [] x)) ∨ (∃ m : Nat, m < N ∧ i' = .int .i64 m ∧ Hid (T = getT (L.take (m + 1)) x))) (fun i' => (RowKit.intOf i' + 1).toNat)
  case atStart =>
    rcases Nat.eq_zero_or_pos N with h0 | h0
    · subst h0; exact .inl ⟨by go_num, HT⟩
    · exact .inr ⟨N - 1, by omega, by congr 1; omega, Lib.hid (by rw [HT.out, show N - 1 + 1 = N by omega])⟩
  case round =>
    rcases hrel with ⟨rfl, ha⟩ | ⟨m, hm, rfl, ha⟩
    · have hf : Hid (T = (⟨#[]⟩, false)) := Lib.hid (by rw [ha.out]; rfl)
      clear ha HT
      go_wp2
      go_returns
      exact ⟨by rw [hf.out]; rfl, rfl⟩
    · have hml : m < L.length := by rw [← HN.out]; exact hm
      obtain ⟨g, o, rfl, c0, c1⟩ := HI.out m hml
      have hst := ha.out
      rw [List.take_succ_eq_append_getElem hml, getT_snoc] at hst
      obtain ⟨n, hn⟩ : ∃ n, n = L[m].1 := ⟨_, rfl⟩
      obtain ⟨d, hd⟩ : ∃ d, d = L[m].2 := ⟨_, rfl⟩
      rw [← hn, ← hd] at hst
      rw [← hn] at c0
      rw [← hd] at c1
      clear ha HT hn hd
      by_cases heq : n = x
      · rw [if_pos heq] at hst
        have hf := Lib.hid hst
        have g1 : (n.toList == x.toList) = true := by rw [beqs]; exact decide_eq_true heq
        clear heq hst
        go_wp2
        go_returns
        exact ⟨by rw [hf.out]; rfl, rfl⟩
      · rw [if_neg heq] at hst
        have hf := Lib.hid hst
        have g1 : (n.toList == x.toList) = false := by rw [beqs]; exact decide_eq_false heq
        clear heq hst
        go_wp2
        go_round
        case rel =>
          rcases Nat.eq_zero_or_pos m with h0 | h0
          · subst h0; exact .inl ⟨by go_num, hf⟩
          · exact .inr ⟨m - 1, by omega, by congr 1; omega, Lib.hid (by rw [hf.out, show m - 1 + 1 = m by omega])⟩
        case measure => simp [RowKit.intOf]
end Go.Proofs.YtfhephcbjbdejaaGreatDoor.At

/- What the document's Number returns. -/
namespace Go.Proofs.YtfhephcbjbdejaaGreatDoor.At
open Go.RowKit Go.Sort Go.Lib Go.Shelf Fx Lx

def numRT (r : Rul) (G : ByteArray × Bool) : Int :=
  if r.1 ≠ 2 ∧ r.1 ≠ 3 then 0 else if G.2 = false then r.2.2.2 else if (valT r (parse G.1.data.toList)).2 = false then r.2.2.2 else (valT r (parse G.1.data.toList)).1
theorem getT_mem (L : List Atr) (x : ByteArray) (n : Nat) (hs : ∀ q ∈ L, q.2.size ≤ n) : (getT L x).1.size ≤ n := by
  unfold getT
  cases h : L.reverse.find? (fun q => decide (q.1 = x)) with
  | none => exact Nat.zero_le _
  | some q => exact hs q (by simpa using List.mem_of_find?_eq_some h)
theorem rule_new (w1 : World) (a lo hi d : Int) : ∀ w2, Ext (w1.alloc (.cells #[.int .i64 a, .int .i64 lo, .int .i64 hi, .int .i64 d] 42)) w2 →
    w2.cell? ⟨w1.heap.size, 3, none⟩ = some (.int .i64 d) := fun w2 x => by
  have hb := heap_alloc_new w1 (.cells #[.int .i64 a, .int .i64 lo, .int .i64 hi, .int .i64 d] 42)
  refine x.cell ?_
  rw [Lib.cell_of_heap hb]; rfl
set_option maxHeartbeats 4000000 in
set_option maxRecDepth 100000 in
theorem numR_any (kind : Int) (b : Option Addr) (L : List Atr) (cap : Nat) (x : ByteArray) (w : World) (h : AtrIn w b L) (hL : L.length ≤ 9223372036854775807) (hs : ∀ q ∈ L, q.2.size ≤ 4294967280) :
    Calls Tryz.prog 17 #[.int .i64 kind, .slice b L.length cap, .string x] w fun e w' => e = .returned (.int .i64 (numRT (knownT kind x.data.toList) (getT L x))) ∧ Ext w w' := by
  have hkn := fun w => known_any kind x w
  have hge := fun w' (y : Ext w w') => getR_any b L cap x w' (h.ext y) hL
  have hsz := getT_mem L x 4294967280 hs
  obtain ⟨a, lo, hi, d, hr⟩ : ∃ a lo hi d, knownT kind x.data.toList = (a, lo, hi, d) := ⟨_, _, _, _, rfl⟩
  have hrn := rule_new
  rw [hr] at hkn ⊢
  obtain ⟨s, is, hG⟩ : ∃ s is, getT L x = (s, is) := ⟨_, _, rfl⟩
  rw [hG] at hge hsz ⊢
  have hva := fun w => value_any a lo hi d s w hsz
  unfold knownV at hkn hva
  dsimp only at hkn hge hva hsz
  unfold numRT
  dsimp only
  obtain ⟨n, ok, hv⟩ : ∃ n ok, valT (a, lo, hi, d) (parse s.data.toList) = (n, ok) := ⟨_, _, rfl⟩
  rw [hv] at hva ⊢
  dsimp only at hva ⊢
  have HKN := Lib.hid hkn; have HRN := Lib.hid hrn
  clear hkn hrn hr hG hv hs h hsz hL
  by_cases h23 : a ≠ 2 ∧ a ≠ 3
  · rw [if_pos h23]
    obtain ⟨f1, f1'⟩ := ne_facts h23.1
    obtain ⟨f2, f2'⟩ := ne_facts h23.2
    clear h23 hge hva
    go_enter Tryz.func17, Tryz.ntmps17
    go_wp2_with (go_at_call 21; refine (HKN.out _).mono ?_; rintro e w1 ⟨rfl, x1⟩)
    go_returns
    exact ⟨rfl, x1.alloc _⟩
  · rw [if_neg h23]
    have h23' : a = 2 ∨ a = 3 := by omega
    clear h23
    cases is
    · rw [if_pos rfl]
      have HGE := Lib.hid hge
      clear hge hva
      rcases h23' with rfl | rfl
      all_goals
        go_enter Tryz.func17, Tryz.ntmps17
        go_wp2_with (first | (go_at_call 21; refine (HKN.out _).mono ?_; rintro e w1 ⟨rfl, x1⟩) | (go_at_call 12; refine (HGE.out _ (x1.alloc _)).mono ?_; rintro e w2 ⟨rfl, rfl⟩))
        go_returns
        exact ⟨rfl, x1.alloc _⟩
    · rw [if_neg (by decide)]
      cases ok
      all_goals
        first | rw [if_pos rfl] | rw [if_neg (by decide)]
        have HGE := Lib.hid hge; have HVA := Lib.hid hva
        clear hge hva
        rcases h23' with rfl | rfl
        all_goals
          go_enter Tryz.func17, Tryz.ntmps17
          go_wp2_with (first | (go_at_call 21; refine (HKN.out _).mono ?_; rintro e w1 ⟨rfl, x1⟩) | (go_at_call 12; refine (HGE.out _ (x1.alloc _)).mono ?_; rintro e w2 ⟨rfl, rfl⟩) | (go_at_call 36; refine (HVA.out _).mono ?_; rintro e w3 ⟨rfl, x3⟩; have q3 := HRN.out w1 _ _ _ _ w3 x3))
          go_returns
          exact ⟨rfl, (x1.alloc _).trans x3⟩
end Go.Proofs.YtfhephcbjbdejaaGreatDoor.At

/- CheckAll as a plain function; the last attribute with a key, and whether there is one. -/
namespace Go.Proofs.YtfhephcbjbdejaaGreatDoor.At
open Go.RowKit Go.Lib Fx Lx

def allGo (chk : Atr → Int) : List Atr → List Atr → Int
  | [], _ => 0
  | q :: r, done => if chk q ≠ 0 then chk q else if hasA done q.1 = true then 6 else allGo chk r (done ++ [q])
theorem allGo_cons (chk : Atr → Int) (q : Atr) (r done : List Atr) : allGo chk (q :: r) done = if chk q ≠ 0 then chk q else if hasA done q.1 = true then 6 else allGo chk r (done ++ [q]) := rfl
theorem allGo_congr (f g : Atr → Int) (h : ∀ q, f q = g q) : ∀ (l done : List Atr), allGo f l done = allGo g l done
  | [], _ => rfl
  | q :: r, done => by rw [allGo_cons, allGo_cons, h q, allGo_congr f g h r]
theorem getT_has (L : List Atr) (x : ByteArray) : (getT L x).2 = hasA L x := by
  unfold getT hasA
  cases h : L.reverse.find? (fun q => decide (q.1 = x)) with
  | none =>
    have h2 := List.find?_eq_none.1 h
    symm
    rw [List.any_eq_false]
    intro q hq
    exact h2 q (by simpa using hq)
  | some q =>
    symm
    rw [List.any_eq_true]
    have h3 := List.find?_some h
    exact ⟨q, by simpa using List.mem_of_find?_eq_some h, by simpa using h3⟩
end Go.Proofs.YtfhephcbjbdejaaGreatDoor.At

/- What the document's CheckAll returns. -/
namespace Go.Proofs.YtfhephcbjbdejaaGreatDoor.At
open Go.RowKit Go.Sort Go.Lib Go.Shelf Fx Lx

theorem Qe.quiet_l {P : Program} {f : FuncId} {args : Array Value} {w : World} {n : Nat} {v : Value}
    (h : Calls P f args (w.drewN n) fun e w' => e = .returned v ∧ w.drewN n = w') : Calls P f args (w.drewN n) fun e w' => e = .returned v ∧ ∃ m, w' = w.drewN m :=
  h.mono fun _ _ ⟨he, hm⟩ => ⟨he, n, hm.symm⟩
def checkAllRV (kind : Int) (L : List Atr) : Int :=
  if knownB kind = false then 1 else if 16 < L.length then 2 else allGo (fun q => checkRV kind q.1 q.2) L []
set_option maxHeartbeats 4000000 in
set_option maxRecDepth 100000 in
theorem allR_any (kind : Int) (b : Option Addr) (L : List Atr) (cap : Nat) (w : World) (h : AtrIn w b L) (_hL : L.length ≤ 9223372036854775807) (hcap : L.length ≤ cap) (hs : ∀ q ∈ L, q.2.size ≤ 4294967280) (hkd : kind = 1 ∨ kind = 2 ∨ kind = 4) (h16 : L.length ≤ 16) :
    Calls Tryz.prog 26 #[.int .i64 kind, .slice b L.length cap] w fun e w' => e = .returned (.int .i64 (allGo (fun q => checkRV kind q.1 q.2) L [])) ∧ Ext w w' := by
  obtain ⟨F, hF⟩ : ∃ F : Atr → Int, F = fun q => checkRV kind q.1 q.2 := ⟨_, rfl⟩
  have hck : ∀ (n d : ByteArray) (w : World), d.size ≤ 4294967280 → Calls Tryz.prog 24 #[.int .i64 kind, .agg #[.string n, .string d]] w fun e w' => e = .returned (.int .i64 (F (n, d))) ∧ Ext w w' := fun n d w hd => by
    rw [hF]; exact checkR_any kind n d w hd
  rw [← hF]
  obtain ⟨V, hV⟩ : ∃ V, V = allGo F L [] := ⟨_, rfl⟩
  rw [← hV]
  have HV : Hid (V = allGo F (L.drop 0) (L.take 0)) := Lib.hid hV
  have HCK := Lib.hid hck
  clear hck hF
  obtain ⟨N, hN⟩ : ∃ N, N = L.length := ⟨_, rfl⟩
  rw [← hN] at _hL h16 hcap ⊢
  have HN := Lib.hid hN; have HI := Lib.hid h; have HS := Lib.hid hs
  clear hV hN h hs
  rcases hkd with rfl | rfl | rfl
  all_goals
    go_enter Tryz.func26, Tryz.ntmps26
    go_wp2_with fail
    go_loopw [5] (fun i' wr => ∃ k : Nat, k ≤ N ∧ i' = .int .i64 k ∧ Ext w wr ∧ Hid (V = allGo F (L.drop k) (L.take k))) (fun i' _ => N - (RowKit.intOf i').toNat)
    case atStart => exact ⟨0, by omega, rfl, Ext.refl _, HV⟩
    case round =>
      obtain ⟨k, hk, rfl, hx, ha⟩ := hrel
      clear HV
      by_cases hlt : k < N
      · have hkl : k < L.length := by rw [← HN.out]; exact hlt
        have hin := HI.out.ext hx
        obtain ⟨g, o, rfl, c0, c1⟩ := hin k hkl
        obtain ⟨n, d, hq⟩ : ∃ n d, L[k] = (n, d) := ⟨_, _, rfl⟩
        rw [hq] at c0 c1
        have hst := ha.out
        rw [List.drop_eq_getElem_cons hkl, allGo_cons, hq] at hst
        have htk : L.take k ++ [(n, d)] = L.take (k + 1) := by rw [List.take_succ_eq_append_getElem hkl, hq]
        rw [htk] at hst
        dsimp only at hst
        have hds : d.size ≤ 4294967280 := by have h := HS.out _ (List.getElem_mem hkl); rw [hq] at h; exact h
        have hc := fun w => HCK.out n d w hds
        have hlk : (L.take k).length = k := by rw [List.length_take]; omega
        have hge : ∀ w1 m, Ext wr w1 → Calls Tryz.prog 12 #[.slice (some ⟨g, o, none⟩) k cap, .string n] (w1.drewN m) fun e w' => e = .returned (.tuple #[.string (getT (L.take k) n).1, .bool (hasA (L.take k) n)]) ∧ w1.drewN m = w' := fun w1 m x1 => by
          have hi2 : AtrIn (w1.drewN m) (some ⟨g, o, none⟩) (L.take k) := fun j hj => by
            have hj2 : j < L.length := by rw [hlk] at hj; omega
            obtain ⟨g', o', e1, d0, d1⟩ := (hin.ext (x1.drewN m)) j hj2
            rw [List.getElem_take]
            exact ⟨g', o', e1, d0, d1⟩
          have h := getR_any (some ⟨g, o, none⟩) (L.take k) cap n (w1.drewN m) hi2 (by rw [hlk]; omega)
          rw [hlk, getT_has] at h
          exact h
        generalize F (n, d) = c at hst hc
        generalize hasA (L.take k) n = t at hst hge
        generalize (getT (L.take k) n).1 = z at hge
        have HGE := Lib.hid hge; have HC := Lib.hid hc
        clear hge hc htk hq ha hds hlk hin
        by_cases k0 : c = 0
        · obtain ⟨f0, f0'⟩ := eq_facts k0
          rw [if_neg (fun h => h k0)] at hst
          clear k0
          cases t
          · rw [if_neg (by decide)] at hst
            have hf := Lib.hid hst
            clear hst
            go_wp2_with (go_at_call 24; refine (HC.out _).mono ?_; rintro e w1 ⟨rfl, x1⟩; have e0 := x1.cell c0; have e1 := x1.cell c1)
            go_quiet ((go_at_call 12; exact Qe.quiet_l (HGE.out _ _ x1)))
            go_wp2
            go_roundw
            case rel => exact ⟨k + 1, by omega, by go_num, (hx.trans x1).drewN _, hf⟩
            case measure => simp [RowKit.intOf]; omega
          · rw [if_pos rfl] at hst
            have hf := Lib.hid hst
            clear hst
            go_wp2_with (go_at_call 24; refine (HC.out _).mono ?_; rintro e w1 ⟨rfl, x1⟩; have e0 := x1.cell c0; have e1 := x1.cell c1)
            go_quiet ((go_at_call 12; exact Qe.quiet_l (HGE.out _ _ x1)))
            go_wp2
            go_returns
            exact ⟨by rw [hf.out]; rfl, (hx.trans x1).drewN _⟩
        · obtain ⟨f0, f0'⟩ := ne_facts k0
          rw [if_pos k0] at hst
          have hf := Lib.hid hst
          clear hst k0
          go_wp2_with (go_at_call 24; refine (HC.out _).mono ?_; rintro e w1 ⟨rfl, x1⟩)
          go_returns
          exact ⟨by rw [hf.out]; rfl, hx.trans x1⟩
      · have hf : Hid (V = 0) := Lib.hid (by rw [ha.out, List.drop_eq_nil_of_le (by rw [← HN.out]; omega)]; rfl)
        clear ha
        go_wp2
        go_returns
        exact ⟨by rw [hf.out]; rfl, hx⟩
end Go.Proofs.YtfhephcbjbdejaaGreatDoor.At

/- What the document's CheckAll returns, whole. -/
namespace Go.Proofs.YtfhephcbjbdejaaGreatDoor.At
open Go.RowKit Go.Sort Go.Lib Go.Shelf Fx Lx

set_option maxHeartbeats 4000000 in
theorem checkAllR_any (kind : Int) (b : Option Addr) (L : List Atr) (cap : Nat) (w : World) (h : AtrIn w b L) (hL : L.length ≤ 9223372036854775807) (hcap : L.length ≤ cap) (hs : ∀ q ∈ L, q.2.size ≤ 4294967280) :
    Calls Tryz.prog 26 #[.int .i64 kind, .slice b L.length cap] w fun e w' => e = .returned (.int .i64 (checkAllRV kind L)) ∧ Ext w w' := by
  unfold checkAllRV
  by_cases hkd : kind = 1 ∨ kind = 2 ∨ kind = 4
  · have hkb : knownB kind = true := by unfold knownB; rcases hkd with rfl | rfl | rfl <;> rfl
    rw [if_neg (by rw [hkb]; decide)]
    by_cases h16 : 16 < L.length
    · rw [if_pos h16]
      clear h hs hcap hkb
      generalize L.length = N at *
      rcases hkd with rfl | rfl | rfl
      all_goals
        go_enter Tryz.func26, Tryz.ntmps26
        go_wp2
        go_returns
        exact ⟨rfl, Ext.refl _⟩
    · rw [if_neg h16]
      exact allR_any kind b L cap w h hL hcap hs hkd (by omega)
  · have h1 : kind ≠ 1 := fun h => hkd (.inl h)
    have h2 : kind ≠ 2 := fun h => hkd (.inr (.inl h))
    have h4 : kind ≠ 4 := fun h => hkd (.inr (.inr h))
    have hkb : knownB kind = false := by unfold knownB; rw [decide_eq_false h1, decide_eq_false h2, decide_eq_false h4]; rfl
    rw [if_pos hkb]
    obtain ⟨f1, f1'⟩ := ne_facts h1
    obtain ⟨f2, f2'⟩ := ne_facts h2
    obtain ⟨f4, f4'⟩ := ne_facts h4
    clear h hs hcap hkb hkd h1 h2 h4
    generalize L.length = N at *
    go_enter Tryz.func26, Tryz.ntmps26
    go_wp2
    go_returns
    exact ⟨rfl, Ext.refl _⟩
end Go.Proofs.YtfhephcbjbdejaaGreatDoor.At

/- What the program's CheckAll returns. -/
namespace Go.Proofs.YtfhephcbjbdejaaGreatDoor.At
open Go.RowKit Go.Sort Go.Lib Go.Shelf Fx Lx

def checkAllV (kind : Int) (L : List Atr) : Int :=
  if knownB kind = false then 1 else if 16 < L.length then 2 else allGo (fun q => checkV kind q.1 q.2) L []
set_option maxHeartbeats 4000000 in
set_option maxRecDepth 100000 in
theorem all_any (kind : Int) (b : Option Addr) (L : List Atr) (cap : Nat) (w : World) (h : AtrIn w b L) (hcap : L.length ≤ cap) (hs : ∀ q ∈ L, q.1.size ≤ maxLen ∧ q.2.size < 4294967281) (hkb : knownB kind = true) (h16 : L.length ≤ 16) (he : Env w) :
    Calls Tryz.prog 25 #[.int .i64 kind, .slice b L.length cap] w fun e w' => e = .returned (.int .i64 (allGo (fun q => checkV kind q.1 q.2) L [])) ∧ Ext w w' := by
  obtain ⟨F, hF⟩ : ∃ F : Atr → Int, F = fun q => checkV kind q.1 q.2 := ⟨_, rfl⟩
  have hck : ∀ (n d : ByteArray) (w : World), n.size ≤ maxLen → d.size < 4294967281 → Env w → Calls Tryz.prog 22 #[.int .i64 kind, .agg #[.string n, .string d]] w fun e w' => e = .returned (.int .i64 (F (n, d))) ∧ Ext w w' := fun n d w hn hd he => by
    rw [hF]; exact check_any kind n d w hn hd he
  rw [← hF]
  obtain ⟨V, hV⟩ : ∃ V, V = allGo F L [] := ⟨_, rfl⟩
  rw [← hV]
  have HV : Hid (V = allGo F (L.drop 0) (L.take 0)) := Lib.hid hV
  have hkn := fun w => isknown_any kind w
  rw [hkb] at hkn
  have HKN := Lib.hid hkn
  have HCK := Lib.hid hck
  have HE := Lib.hid he
  obtain ⟨N, hN⟩ : ∃ N, N = L.length := ⟨_, rfl⟩
  rw [← hN] at h16 hcap ⊢
  have HN := Lib.hid hN; have HI := Lib.hid h; have HS := Lib.hid hs
  clear hV hN h hs hck hF hkn hkb he
  go_enter Tryz.func25, Tryz.ntmps25
  go_wp2_with (go_at_call 46; refine (HKN.out _).mono ?_; rintro e w2 ⟨rfl, rfl⟩)
  go_loopw [18] (fun i' wr => ∃ k : Nat, k ≤ N ∧ i' = .int .i64 k ∧ Ext w wr ∧ Hid (V = allGo F (L.drop k) (L.take k))) (fun i' _ => N - (RowKit.intOf i').toNat)
  case atStart => exact ⟨0, by omega, rfl, Ext.refl _, HV⟩
  case round =>
    obtain ⟨k, hk, rfl, hx, ha⟩ := hrel
    clear HV
    by_cases hlt : k < N
    · have hkl : k < L.length := by rw [← HN.out]; exact hlt
      have hin := HI.out.ext hx
      obtain ⟨g, o, rfl, c0, c1⟩ := hin k hkl
      obtain ⟨n, d, hq⟩ : ∃ n d, L[k] = (n, d) := ⟨_, _, rfl⟩
      rw [hq] at c0 c1
      have hst := ha.out
      rw [List.drop_eq_getElem_cons hkl, allGo_cons, hq] at hst
      have htk : L.take k ++ [(n, d)] = L.take (k + 1) := by rw [List.take_succ_eq_append_getElem hkl, hq]
      rw [htk] at hst
      dsimp only at hst
      have hds : n.size ≤ maxLen ∧ d.size < 4294967281 := by have h := HS.out _ (List.getElem_mem hkl); rw [hq] at h; exact h
      have hxb : Ext wr (wr.alloc (.cells #[.string n, .string d] 39)) := (Ext.refl _).alloc _
      have hc := HCK.out n d _ hds.1 hds.2 (HE.out.ext (hx.trans hxb))
      have hlk : (L.take k).length = k := by rw [List.length_take]; omega
      have hge : ∀ w1, Ext (wr.alloc (.cells #[.string n, .string d] 39)) w1 → Calls Tryz.prog 50 #[.slice (some ⟨g, o, none⟩) k cap, .func (.func 51) #[] #[.pointer (some ⟨wr.heap.size, 0, none⟩)]] w1 fun e w' => e = .returned (.bool (hasA (L.take k) n)) ∧ Ext w1 w' := fun w1 x1 => by
        have hi2 : AtrIn w1 (some ⟨g, o, none⟩) (L.take k) := fun j hj => by
          have hj2 : j < L.length := by rw [hlk] at hj; omega
          obtain ⟨g', o', e1, d0, d1⟩ := (hin.ext (hxb.trans x1)) j hj2
          rw [List.getElem_take]
          exact ⟨g', o', e1, d0, d1⟩
        have h := hasA_any (some ⟨g, o, none⟩) (L.take k) cap n ⟨wr.heap.size, 0, none⟩ w1 hi2 (atr_cells wr n d w1 x1).1 (by rw [hlk]; omega)
        rw [hlk] at h
        exact h
      have hat := atr_cells wr n d
      generalize F (n, d) = c at hst hc
      generalize hasA (L.take k) n = t at hst hge
      have HGE := Lib.hid hge; have HC := Lib.hid hc; have HAT := Lib.hid hat
      clear hge hc htk hq ha hds hlk hin hat
      by_cases k0 : c = 0
      · obtain ⟨f0, f0'⟩ := eq_facts k0
        rw [if_neg (fun h => h k0)] at hst
        clear k0
        cases t
        · rw [if_neg (by decide)] at hst
          have hf := Lib.hid hst
          clear hst
          go_wp2_with (first | (go_at_call 22; refine HC.out.mono ?_; rintro e w1 ⟨rfl, x1⟩; have e0 := (HAT.out _ x1).1; have e1 := (HAT.out _ x1).2) | (go_at_call 50; refine (HGE.out _ x1).mono ?_; rintro e w3 ⟨rfl, x3⟩))
          go_roundw
          case rel => exact ⟨k + 1, by omega, by go_num, ((hx.trans hxb).trans x1).trans x3, hf⟩
          case measure => simp [RowKit.intOf]; omega
        · rw [if_pos rfl] at hst
          have hf := Lib.hid hst
          clear hst
          go_wp2_with (first | (go_at_call 22; refine HC.out.mono ?_; rintro e w1 ⟨rfl, x1⟩; have e0 := (HAT.out _ x1).1; have e1 := (HAT.out _ x1).2) | (go_at_call 50; refine (HGE.out _ x1).mono ?_; rintro e w3 ⟨rfl, x3⟩))
          go_returns
          exact ⟨by rw [hf.out]; rfl, ((hx.trans hxb).trans x1).trans x3⟩
      · obtain ⟨f0, f0'⟩ := ne_facts k0
        rw [if_pos k0] at hst
        have hf := Lib.hid hst
        clear hst k0
        go_wp2_with (go_at_call 22; refine HC.out.mono ?_; rintro e w1 ⟨rfl, x1⟩)
        go_returns
        exact ⟨by rw [hf.out]; rfl, (hx.trans hxb).trans x1⟩
    · have hf : Hid (V = 0) := Lib.hid (by rw [ha.out, List.drop_eq_nil_of_le (by rw [← HN.out]; omega)]; rfl)
      clear ha
      go_wp2
      go_returns
      exact ⟨by rw [hf.out]; rfl, hx⟩
end Go.Proofs.YtfhephcbjbdejaaGreatDoor.At

/- What the program's CheckAll returns, whole. -/
namespace Go.Proofs.YtfhephcbjbdejaaGreatDoor.At
open Go.RowKit Go.Sort Go.Lib Go.Shelf Fx Lx

set_option maxHeartbeats 4000000 in
theorem checkAll_any (kind : Int) (b : Option Addr) (L : List Atr) (cap : Nat) (w : World) (h : AtrIn w b L) (hL : L.length ≤ 9223372036854775807) (hcap : L.length ≤ cap) (hs : ∀ q ∈ L, q.1.size ≤ maxLen ∧ q.2.size < 4294967281) (he : Env w) :
    Calls Tryz.prog 25 #[.int .i64 kind, .slice b L.length cap] w fun e w' => e = .returned (.int .i64 (checkAllV kind L)) ∧ Ext w w' := by
  unfold checkAllV
  have hkn := fun w => isknown_any kind w
  cases hkb : knownB kind
  · rw [if_pos rfl]
    rw [hkb] at hkn
    have HKN := Lib.hid hkn
    clear h hs hcap hkb hkn he
    generalize L.length = N at *
    go_enter Tryz.func25, Tryz.ntmps25
    go_wp2_with (go_at_call 46; refine (HKN.out _).mono ?_; rintro e w2 ⟨rfl, rfl⟩)
    go_returns
    exact ⟨rfl, Ext.refl _⟩
  · rw [if_neg (by decide)]
    by_cases h16 : 16 < L.length
    · rw [if_pos h16]
      rw [hkb] at hkn
      have HKN := Lib.hid hkn
      clear h hs hcap hkb hkn he
      generalize L.length = N at *
      go_enter Tryz.func25, Tryz.ntmps25
      go_wp2_with (go_at_call 46; refine (HKN.out _).mono ?_; rintro e w2 ⟨rfl, rfl⟩)
      go_returns
      exact ⟨rfl, Ext.refl _⟩
    · rw [if_neg h16]
      exact all_any kind b L cap w h hcap hs hkb (by omega) he
end Go.Proofs.YtfhephcbjbdejaaGreatDoor.At
