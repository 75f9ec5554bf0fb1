/- Packed texts: AttChkL, AttG, AttH, NorTyp -/
import Derived.Test.YtnancphlkbfglaaGreatDoorPb12
import Derived.Test.YtnancphlkbfglaaGreatDoorPb05
import Derived.BigQuiet
import Derived.Test.YtnancphlkbfglaaGreatDoorPb08
import Derived.Test.YtnancphlkbfglaaGreatDoorPb11
import Derived.RangeFuncFrom
import Derived.RangeFuncLeaves
import Derived.OwnWalkIn
import Derived.TacticsInMore
import Derived.LoopNIn
import Derived.LoopIn
import Derived.RangeFuncNested
import Derived.Lib.Builder
import Derived.Test.YtnancphlkbfglaaGreatDoorPb01
set_option linter.unusedVariables false
set_option linter.unusedSimpArgs false
namespace Go.Proofs.YtnancphlkbfglaaGreatDoor.At
open Go.RowKit Go.Sort Go.Lib Go.Shelf Fx Lx
set_option maxHeartbeats 4000000 in
set_option maxRecDepth 100000 in
theorem chkR_long (kind lo hi d : Int) (k v : ByteArray) (w : World) (hkd : kind = 1 ∨ kind = 2 ∨ kind = 4) (hr : knownT kind k.data.toList = (1, lo, hi, d)) (hv : 32 < v.size) :
    Calls Tryz.prog 45 #[.int .i64 kind, .agg #[.string k, .string v]] w fun e w' => e = .returned (.int .i64 (2)) ∧ Ext w w' := by
  have hkn := fun w => known_any kind k w
  rw [hr] at hkn
  unfold knownV at hkn
  dsimp only at hkn
  have hx0 : Ext w (w.alloc (.cells #[.string k, .string v] 109)) := (Ext.refl _).alloc _
  have hcl := atr_cells w k v
  have HCL := Lib.hid hcl
  have HKN := Lib.hid hkn
  clear hkn hr hcl
  rcases hkd with rfl | rfl | rfl
  all_goals
    go_enter Tryz.func45, Tryz.ntmps45
    go_wp2_with (first | (go_at_call 89; refine (HKN.out _).mono ?_; rintro e w1 ⟨rfl, x1⟩; have q1 := (HCL.out _ (x1.alloc (.cells #[.int .i64 1, .int .i64 lo, .int .i64 hi, .int .i64 d] 148))).1; have q2 := (HCL.out _ (x1.alloc (.cells #[.int .i64 1, .int .i64 lo, .int .i64 hi, .int .i64 d] 148))).2))
    go_returns
    exact ⟨rfl, (hx0.trans x1).alloc _⟩
set_option maxHeartbeats 4000000 in
set_option maxRecDepth 100000 in
theorem chkR_label (kind lo hi d : Int) (k v : ByteArray) (w : World) (hkd : kind = 1 ∨ kind = 2 ∨ kind = 4) (hr : knownT kind k.data.toList = (1, lo, hi, d)) (hv : v.size ≤ 32) :
    Calls Tryz.prog 45 #[.int .i64 kind, .agg #[.string k, .string v]] w fun e w' => e = .returned (.int .i64 (if v.data.toList.all okT then 0 else 7)) ∧ Ext w w' := by
  have hkn := fun w => known_any kind k w
  rw [hr] at hkn
  unfold knownV at hkn
  dsimp only at hkn
  have hx0 : Ext w (w.alloc (.cells #[.string k, .string v] 109)) := (Ext.refl _).alloc _
  have hcl := atr_cells w k v
  have HCL := Lib.hid hcl
  have HKN := Lib.hid hkn
  clear hkn hr hcl
  obtain ⟨R, hR⟩ : ∃ R, R = v.data.toList.all okT := ⟨_, rfl⟩
  have HR : Hid (R = (true && (v.data.toList.drop 0).all okT)) := Lib.hid (by rw [hR, List.drop_zero, Bool.true_and])
  rw [← hR]
  clear hR
  obtain ⟨V, hV⟩ : ∃ V : Int, V = if R then 0 else 7 := ⟨_, rfl⟩
  rw [← hV]
  have HV := Lib.hid hV
  clear hV
  rcases hkd with rfl | rfl | rfl
  all_goals
    go_enter Tryz.func45, Tryz.ntmps45
    go_wp2_with (go_at_call 89; refine (HKN.out _).mono ?_; rintro e w1 ⟨rfl, x1⟩; have q1 := (HCL.out _ (x1.alloc (.cells #[.int .i64 1, .int .i64 lo, .int .i64 hi, .int .i64 d] 148))).1; have q2 := (HCL.out _ (x1.alloc (.cells #[.int .i64 1, .int .i64 lo, .int .i64 hi, .int .i64 d] 148))).2)
    go_loop [6, 7] (fun ok n => ∃ (k : Nat) (b : Bool), k ≤ v.size ∧ n = .int .i64 k ∧ ok = .bool b ∧ Hid (R = (b && (v.data.toList.drop k).all okT))) (fun _ n => v.size - (RowKit.intOf n).toNat)
    case atStart => exact ⟨0, true, by omega, rfl, rfl, HR⟩
    case round =>
      obtain ⟨k, b, hk, rfl, rfl, ha⟩ := hrel
      clear HR
      by_cases hlt : k < v.size
      · have hst := ha.out
        have hd : v.data.toList.drop k = v[k] :: v.data.toList.drop (k + 1) := by
          rw [List.drop_eq_getElem_cons (by rw [← size_len]; exact hlt)]; rfl
        rw [hd, List.all_cons] at hst
        clear ha hd
        cases b
        · have hf : Hid (R = (false && (v.data.toList.drop (k + 1)).all okT)) := Lib.hid (by rw [hst]; rfl)
          clear hst
          go_wp2
          go_round
          case rel => exact ⟨k + 1, false, by omega, by go_num, rfl, hf⟩
          case measure => simp [RowKit.intOf]; omega
        · by_cases c1 : 32 ≤ v[k].toNat
          · by_cases c2 : v[k].toNat ≤ 126
            · have hf : Hid (R = (true && (v.data.toList.drop (k + 1)).all okT)) := Lib.hid (by
                rw [hst]; unfold okT; rw [decide_eq_true c1, decide_eq_true c2]; rfl)
              have g2 : decide ((v[k].toNat : Int) ≤ 126) = true := decide_eq_true (by omega)
              clear hst
              go_wp2
              go_round
              case rel => exact ⟨k + 1, true, by omega, by go_num, rfl, hf⟩
              case measure => simp [RowKit.intOf]; omega
            · have hf : Hid (R = (false && (v.data.toList.drop (k + 1)).all okT)) := Lib.hid (by
                rw [hst]; unfold okT; rw [decide_eq_false c2]; simp)
              have g2 : decide ((v[k].toNat : Int) ≤ 126) = false := decide_eq_false (by omega)
              clear hst
              go_wp2
              go_round
              case rel => exact ⟨k + 1, false, by omega, by go_num, rfl, hf⟩
              case measure => simp [RowKit.intOf]; omega
          · have hf : Hid (R = (false && (v.data.toList.drop (k + 1)).all okT)) := Lib.hid (by
              rw [hst]; unfold okT; rw [decide_eq_false c1]; simp)
            clear hst
            go_wp2
            go_round
            case rel => exact ⟨k + 1, false, by omega, by go_num, rfl, hf⟩
            case measure => simp [RowKit.intOf]; omega
      · have hf : Hid (R = b) := Lib.hid (by
          rw [ha.out, List.drop_eq_nil_of_le (by rw [← size_len]; omega)]; simp)
        clear ha
        cases b
        all_goals
          go_wp2
          go_returns
          refine ⟨ret_int ?_, (hx0.trans x1).alloc _⟩
          rw [HV.out, hf.out]
          rfl
end Go.Proofs.YtnancphlkbfglaaGreatDoor.At

namespace Go.Proofs.YtnancphlkbfglaaGreatDoor.At
open Go.RowKit Go.Sort Go.Lib Go.Shelf Fx Lx
theorem known_form (kind : Int) (l : List UInt8) : (knownT kind l).1 = 0 ∨ (knownT kind l).1 = 1 ∨ (knownT kind l).1 = 2 ∨ (knownT kind l).1 = 3 ∨ (knownT kind l).1 = 4 ∨ (knownT kind l).1 = 5 := by
  unfold knownT nodeK edgeK setK
  repeat' split
  all_goals decide
theorem checkR_any (kind : Int) (k v : ByteArray) (w : World) (hv : v.size ≤ 4294967280) :
    Calls Tryz.prog 45 #[.int .i64 kind, .agg #[.string k, .string v]] w fun e w' => e = .returned (.int .i64 (checkRV kind k v)) ∧ Ext w w' := by
  unfold checkRV
  by_cases hkd : kind = 1 ∨ kind = 2 ∨ kind = 4
  · have hkb : knownB kind = true := by unfold knownB; rcases hkd with rfl | rfl | rfl <;> rfl
    rw [if_neg (by rw [hkb]; decide)]
    obtain ⟨a, lo, hi, d, hr⟩ : ∃ a lo hi d, knownT kind k.data.toList = (a, lo, hi, d) := ⟨_, _, _, _, rfl⟩
    have hf := known_form kind k.data.toList
    rw [hr] at hf ⊢
    dsimp only at hf ⊢
    rcases hf with rfl | rfl | rfl | rfl | rfl | rfl
    · exact chkR_none kind lo hi d k v w hkd hr
    · rw [if_neg (by decide)]
      by_cases h32 : 32 < v.size
      · rw [if_pos ⟨rfl, h32⟩]; exact chkR_long kind lo hi d k v w hkd hr h32
      · rw [if_neg (fun h => h32 h.2)]
        exact chkR_label kind lo hi d k v w hkd hr (by omega)
    · rw [if_neg (by decide), if_neg (fun h => absurd h.1 (by decide))]
      exact chkR_num2 kind lo hi d k v w hkd hr hv
    · rw [if_neg (by decide), if_neg (fun h => absurd h.1 (by decide))]
      exact chkR_num3 kind lo hi d k v w hkd hr hv
    · rw [if_neg (by decide), if_neg (fun h => absurd h.1 (by decide))]
      exact chkR_ports kind lo hi d k v w hkd hr (by omega)
    · rw [if_neg (by decide), if_neg (fun h => absurd h.1 (by decide))]
      exact chkR_mode kind lo hi d k v w hkd hr
  · have h1 : kind ≠ 1 := fun h => hkd (.inl h)
    have h2 : kind ≠ 2 := fun h => hkd (.inr (.inl h))
    have h4 : kind ≠ 4 := fun h => hkd (.inr (.inr h))
    have hkb : knownB kind = false := by unfold knownB; rw [decide_eq_false h1, decide_eq_false h2, decide_eq_false h4]; rfl
    rw [if_pos hkb]
    exact chkR_other kind k v w h1 h2 h4
end Go.Proofs.YtnancphlkbfglaaGreatDoor.At
namespace Go.Proofs.YtnancphlkbfglaaGreatDoor.At
open Go.RowKit Go.Sort Go.Lib Go.Shelf Fx Lx
def getT (L : List Atr) (x : ByteArray) : ByteArray × Bool := match L.reverse.find? (fun q => decide (q.1 = x)) with
  | some q => (q.2, true)
  | none => (⟨#[]⟩, false)
theorem getT_snoc (L : List Atr) (q : Atr) (x : ByteArray) : getT (L ++ [q]) x = if q.1 = x then (q.2, true) else getT L x := by
  unfold getT
  rw [List.reverse_append]
  show (match (q :: L.reverse).find? _ with | some q => _ | none => _) = _
  rw [List.find?_cons]
  by_cases h : q.1 = x
  · rw [if_pos h, decide_eq_true h]
  · rw [if_neg h, decide_eq_false h]
set_option maxHeartbeats 2000000 in
theorem getR_any (a : Option Addr) (L : List Atr) (cap : Nat) (x : ByteArray) (w : World) (h : AtrIn w a L) (hL : L.length ≤ 9223372036854775807) :
    Calls Tryz.prog 47 #[.slice a L.length cap, .string x] w fun e w' => e = .returned (.tuple #[.string (getT L x).1, .bool (getT L x).2]) ∧ w = w' := by
  obtain ⟨N, hN⟩ : ∃ N, N = L.length := ⟨_, rfl⟩
  obtain ⟨T, hT⟩ : ∃ T, T = getT L x := ⟨_, rfl⟩
  have HT : Hid (T = getT (L.take N) x) := Lib.hid (by rw [hT, hN, List.take_length])
  have HI := Lib.hid h
  rw [← hN] at hL
  rw [← hN, ← hT]
  have HN := Lib.hid hN
  clear h hN hT
  go_enter Tryz.func47, Tryz.ntmps47
  go_wp2_with fail
  go_loop [6] (fun i' => (i' = .int .i64 (-1) ∧ Hid (T = getT [] x)) ∨ (∃ m : Nat, m < N ∧ i' = .int .i64 m ∧ Hid (T = getT (L.take (m + 1)) x))) (fun i' => (RowKit.intOf i' + 1).toNat)
  case atStart =>
    rcases Nat.eq_zero_or_pos N with h0 | h0
    · subst h0; exact .inl ⟨by go_num, HT⟩
    · exact .inr ⟨N - 1, by omega, by congr 1; omega, Lib.hid (by rw [HT.out, show N - 1 + 1 = N by omega])⟩
  case round =>
    rcases hrel with ⟨rfl, ha⟩ | ⟨m, hm, rfl, ha⟩
    · have hf : Hid (T = (⟨#[]⟩, false)) := Lib.hid (by rw [ha.out]; rfl)
      clear ha HT
      go_wp2
      go_returns
      exact ⟨by rw [hf.out]; rfl, rfl⟩
    · have hml : m < L.length := by rw [← HN.out]; exact hm
      obtain ⟨g, o, rfl, c0, c1⟩ := HI.out m hml
      have hst := ha.out
      rw [List.take_succ_eq_append_getElem hml, getT_snoc] at hst
      obtain ⟨n, hn⟩ : ∃ n, n = L[m].1 := ⟨_, rfl⟩
      obtain ⟨d, hd⟩ : ∃ d, d = L[m].2 := ⟨_, rfl⟩
      rw [← hn, ← hd] at hst
      rw [← hn] at c0
      rw [← hd] at c1
      clear ha HT hn hd
      by_cases heq : n = x
      · rw [if_pos heq] at hst
        have hf := Lib.hid hst
        have g1 : (n.toList == x.toList) = true := by rw [beqs]; exact decide_eq_true heq
        clear heq hst
        go_wp2
        go_returns
        exact ⟨by rw [hf.out]; rfl, rfl⟩
      · rw [if_neg heq] at hst
        have hf := Lib.hid hst
        have g1 : (n.toList == x.toList) = false := by rw [beqs]; exact decide_eq_false heq
        clear heq hst
        go_wp2
        go_round
        case rel =>
          rcases Nat.eq_zero_or_pos m with h0 | h0
          · subst h0; exact .inl ⟨by go_num, hf⟩
          · exact .inr ⟨m - 1, by omega, by congr 1; omega, Lib.hid (by rw [hf.out, show m - 1 + 1 = m by omega])⟩
        case measure => simp [RowKit.intOf]
end Go.Proofs.YtnancphlkbfglaaGreatDoor.At
namespace Go.Proofs.YtnancphlkbfglaaGreatDoor.At
open Go.RowKit Go.Sort Go.Lib Go.Shelf Fx Lx
def numRT (r : Rul) (G : ByteArray × Bool) : Int :=
  if r.1 ≠ 2 ∧ r.1 ≠ 3 then 0 else if G.2 = false then r.2.2.2 else if (valT r (parse G.1.data.toList)).2 = false then r.2.2.2 else (valT r (parse G.1.data.toList)).1
theorem getT_mem (L : List Atr) (x : ByteArray) (n : Nat) (hs : ∀ q ∈ L, q.2.size ≤ n) : (getT L x).1.size ≤ n := by
  unfold getT
  cases h : L.reverse.find? (fun q => decide (q.1 = x)) with
  | none => exact Nat.zero_le _
  | some q => exact hs q (by simpa using List.mem_of_find?_eq_some h)
theorem rule_new (w1 : World) (a lo hi d : Int) : ∀ w2, Ext (w1.alloc (.cells #[.int .i64 a, .int .i64 lo, .int .i64 hi, .int .i64 d] 148)) w2 →
    w2.cell? ⟨w1.heap.size, 3, none⟩ = some (.int .i64 d) := fun w2 x => by
  have hb := heap_alloc_new w1 (.cells #[.int .i64 a, .int .i64 lo, .int .i64 hi, .int .i64 d] 148)
  refine x.cell ?_
  rw [Lib.cell_of_heap hb]; rfl
set_option maxHeartbeats 4000000 in
set_option maxRecDepth 100000 in
theorem numR_any (kind : Int) (b : Option Addr) (L : List Atr) (cap : Nat) (x : ByteArray) (w : World) (h : AtrIn w b L) (hL : L.length ≤ 9223372036854775807) (hs : ∀ q ∈ L, q.2.size ≤ 4294967280) :
    Calls Tryz.prog 49 #[.int .i64 kind, .slice b L.length cap, .string x] w fun e w' => e = .returned (.int .i64 (numRT (knownT kind x.data.toList) (getT L x))) ∧ Ext w w' := by
  have hkn := fun w => known_any kind x w
  have hge := fun w' (y : Ext w w') => getR_any b L cap x w' (h.ext y) hL
  have hsz := getT_mem L x 4294967280 hs
  obtain ⟨a, lo, hi, d, hr⟩ : ∃ a lo hi d, knownT kind x.data.toList = (a, lo, hi, d) := ⟨_, _, _, _, rfl⟩
  have hrn := rule_new
  rw [hr] at hkn ⊢
  obtain ⟨s, is, hG⟩ : ∃ s is, getT L x = (s, is) := ⟨_, _, rfl⟩
  rw [hG] at hge hsz ⊢
  have hva := fun w => value_any a lo hi d s w hsz
  unfold knownV at hkn hva
  dsimp only at hkn hge hva hsz
  unfold numRT
  dsimp only
  obtain ⟨n, ok, hv⟩ : ∃ n ok, valT (a, lo, hi, d) (parse s.data.toList) = (n, ok) := ⟨_, _, rfl⟩
  rw [hv] at hva ⊢
  dsimp only at hva ⊢
  have HKN := Lib.hid hkn; have HRN := Lib.hid hrn
  clear hkn hrn hr hG hv hs h hsz hL
  by_cases h23 : a ≠ 2 ∧ a ≠ 3
  · rw [if_pos h23]
    obtain ⟨f1, f1'⟩ := ne_facts h23.1
    obtain ⟨f2, f2'⟩ := ne_facts h23.2
    clear h23 hge hva
    go_enter Tryz.func49, Tryz.ntmps49
    go_wp2_with (go_at_call 89; refine (HKN.out _).mono ?_; rintro e w1 ⟨rfl, x1⟩)
    go_returns
    exact ⟨rfl, x1.alloc _⟩
  · rw [if_neg h23]
    have h23' : a = 2 ∨ a = 3 := by omega
    clear h23
    cases is
    · rw [if_pos rfl]
      have HGE := Lib.hid hge
      clear hge hva
      rcases h23' with rfl | rfl
      all_goals
        go_enter Tryz.func49, Tryz.ntmps49
        go_wp2_with (first | (go_at_call 89; refine (HKN.out _).mono ?_; rintro e w1 ⟨rfl, x1⟩) | (go_at_call 47; refine (HGE.out _ (x1.alloc _)).mono ?_; rintro e w2 ⟨rfl, rfl⟩))
        go_returns
        exact ⟨rfl, x1.alloc _⟩
    · rw [if_neg (by decide)]
      cases ok
      all_goals
        first | rw [if_pos rfl] | rw [if_neg (by decide)]
        have HGE := Lib.hid hge; have HVA := Lib.hid hva
        clear hge hva
        rcases h23' with rfl | rfl
        all_goals
          go_enter Tryz.func49, Tryz.ntmps49
          go_wp2_with (first | (go_at_call 89; refine (HKN.out _).mono ?_; rintro e w1 ⟨rfl, x1⟩) | (go_at_call 47; refine (HGE.out _ (x1.alloc _)).mono ?_; rintro e w2 ⟨rfl, rfl⟩) | (go_at_call 90; refine (HVA.out _).mono ?_; rintro e w3 ⟨rfl, x3⟩; have q3 := HRN.out w1 _ _ _ _ w3 x3))
          go_returns
          exact ⟨rfl, (x1.alloc _).trans x3⟩
end Go.Proofs.YtnancphlkbfglaaGreatDoor.At
namespace Go.Proofs.YtnancphlkbfglaaGreatDoor.At
open Go.RowKit Go.Lib Fx Lx
end Go.Proofs.YtnancphlkbfglaaGreatDoor.At

namespace Go.Proofs.YtnancphlkbfglaaGreatDoor.At
open Go.RowKit Go.Sort Go.Lib Go.Shelf Fx Lx
def ltK (x y : ByteArray) : Bool := decide (x.data.toList < y.data.toList)
theorem bytesLess_dec : ∀ x y : List UInt8, Op.bytesLess x y = decide (x < y)
  | [], [] => by simp [Op.bytesLess]
  | _ :: _, [] => by simp [Op.bytesLess]
  | [], _ :: _ => by simp [Op.bytesLess]
  | a :: x, b :: y => by
    rw [Op.bytesLess, bytesLess_dec x y]
    simp only [List.cons_lt_cons_iff]
    by_cases h : a < b <;> by_cases h2 : a = b <;> by_cases h3 : x < y <;> simp [h, h2, h3]
theorem ltK_less (x y : ByteArray) : Op.bytesLess x.toList y.toList = ltK x y := by
  unfold ltK; rw [bytesLess_dec, ByteArray.toList_eq, ByteArray.toList_eq]
theorem ltK_irrefl (x : ByteArray) : ltK x x = false := by
  unfold ltK; exact decide_eq_false (List.lt_irrefl _)
theorem ltK_trans {x y z : ByteArray} (h : ltK x y = true) (k : ltK y z = true) : ltK x z = true := by
  unfold ltK at *; exact decide_eq_true (List.lt_trans (of_decide_eq_true h) (of_decide_eq_true k))
theorem ltL_tri : ∀ a b : List UInt8, ¬ a < b → ¬ b < a → a = b
  | [], [], _, _ => rfl
  | [], _ :: _, h, _ => absurd (List.nil_lt_cons _ _) h
  | _ :: _, [], _, h => absurd (List.nil_lt_cons _ _) h
  | a :: xr, b :: yr, h, k => by
    rw [List.cons_lt_cons_iff] at h k
    have hab : a = b := UInt8.le_antisymm (UInt8.not_lt.1 fun e => k (.inl e)) (UInt8.not_lt.1 fun e => h (.inl e))
    subst hab
    rw [ltL_tri xr yr (fun e => h (.inr ⟨rfl, e⟩)) (fun e => k (.inr ⟨rfl, e⟩))]
theorem ltK_tri {x y : ByteArray} (h : ltK x y = false) (k : ltK y x = false) : x = y := by
  unfold ltK at *
  exact ByteArray.ext (Array.toList_inj.1 (ltL_tri _ _ (of_decide_eq_false h) (of_decide_eq_false k)))
theorem ltK_asymm {x y : ByteArray} (h : ltK x y = true) : ltK y x = false := by
  cases hk : ltK y x
  · rfl
  · have := ltK_trans h hk; rw [ltK_irrefl] at this; cases this
theorem ltK_ne {x y : ByteArray} (h : ltK x y = true) : x ≠ y := fun e => by subst e; rw [ltK_irrefl] at h; cases h
def Asc (L : List Atr) : Prop := L.Pairwise (fun p q => ltK p.1 q.1 = true)
def insT (a : Atr) : List Atr → List Atr
  | [] => [a]
  | q :: r => if ltK q.1 a.1 then q :: insT a r else if q.1 = a.1 then a :: r else a :: q :: r
theorem insT_mem (a p : Atr) : ∀ L : List Atr, p ∈ insT a L → p = a ∨ p ∈ L
  | [], h => by simp [insT] at h; exact .inl h
  | q :: r, h => by
    unfold insT at h
    by_cases h1 : ltK q.1 a.1 = true
    · rw [if_pos h1] at h
      rcases List.mem_cons.1 h with rfl | h
      · exact .inr List.mem_cons_self
      · exact (insT_mem a p r h).imp id (List.mem_cons_of_mem _)
    · rw [if_neg h1] at h
      by_cases h2 : q.1 = a.1
      · rw [if_pos h2] at h
        rcases List.mem_cons.1 h with rfl | h
        · exact .inl rfl
        · exact .inr (List.mem_cons_of_mem _ h)
      · rw [if_neg h2] at h
        rcases List.mem_cons.1 h with rfl | h
        · exact .inl rfl
        · exact .inr h
theorem insT_asc (a : Atr) : ∀ L : List Atr, Asc L → Asc (insT a L)
  | [], _ => by simp [insT, Asc]
  | q :: r, h => by
    have hq := (List.pairwise_cons.1 h).1
    have hr := (List.pairwise_cons.1 h).2
    unfold insT
    by_cases h1 : ltK q.1 a.1 = true
    · rw [if_pos h1]
      refine List.pairwise_cons.2 ⟨fun p hp => ?_, insT_asc a r hr⟩
      rcases insT_mem a p r hp with rfl | hp
      · exact h1
      · exact hq p hp
    · rw [if_neg h1]
      have h1' : ltK q.1 a.1 = false := by simpa using h1
      by_cases h2 : q.1 = a.1
      · rw [if_pos h2]
        exact List.pairwise_cons.2 ⟨fun p hp => by rw [← h2]; exact hq p hp, hr⟩
      · rw [if_neg h2]
        have h3 : ltK a.1 q.1 = true := by
          cases hk : ltK a.1 q.1
          · exact absurd (ltK_tri h1' hk) h2
          · rfl
        refine List.pairwise_cons.2 ⟨fun p hp => ?_, h⟩
        rcases List.mem_cons.1 hp with rfl | hp
        · exact h3
        · exact ltK_trans h3 (hq p hp)
theorem insT_iff (a p : Atr) : ∀ L : List Atr, Asc L → (p ∈ insT a L ↔ p = a ∨ (p ∈ L ∧ p.1 ≠ a.1))
  | [], _ => by simp [insT]
  | q :: r, h => by
    have hq := (List.pairwise_cons.1 h).1
    have hr := (List.pairwise_cons.1 h).2
    have ih := insT_iff a p r hr
    unfold insT
    by_cases h1 : ltK q.1 a.1 = true
    · rw [if_pos h1, List.mem_cons, ih, List.mem_cons]
      have := ltK_ne h1
      constructor
      · rintro (rfl | rfl | ⟨h, k⟩)
        · exact .inr ⟨.inl rfl, this⟩
        · exact .inl rfl
        · exact .inr ⟨.inr h, k⟩
      · rintro (rfl | ⟨rfl | h, k⟩)
        · exact .inr (.inl rfl)
        · exact .inl rfl
        · exact .inr (.inr ⟨h, k⟩)
    · rw [if_neg h1]
      have h1' : ltK q.1 a.1 = false := by simpa using h1
      by_cases h2 : q.1 = a.1
      · rw [if_pos h2, List.mem_cons, List.mem_cons]
        constructor
        · rintro (rfl | h)
          · exact .inl rfl
          · exact .inr ⟨.inr h, fun e => ltK_ne (hq p h) (h2.trans e.symm)⟩
        · rintro (rfl | ⟨rfl | h, k⟩)
          · exact .inl rfl
          · exact absurd h2 k
          · exact .inr h
      · rw [if_neg h2, List.mem_cons]
        have h3 : ltK a.1 q.1 = true := by
          cases hk : ltK a.1 q.1
          · exact absurd (ltK_tri h1' hk) h2
          · rfl
        constructor
        · rintro (rfl | hp)
          · exact .inl rfl
          · refine .inr ⟨hp, ?_⟩
            rcases List.mem_cons.1 hp with rfl | hp
            · exact h2
            · exact fun e => ltK_ne (ltK_trans h3 (hq p hp)) e.symm
        · rintro (rfl | ⟨h, _⟩)
          · exact .inl rfl
          · exact .inr h
def mrgT (L : List Atr) : List Atr := L.foldl (fun s a => insT a s) []
theorem mrgT_snoc (L : List Atr) (a : Atr) : mrgT (L ++ [a]) = insT a (mrgT L) := by unfold mrgT; rw [List.foldl_append]; rfl
theorem list_snoc_ind {α : Type} {p : List α → Prop} (h0 : p []) (h1 : ∀ L a, p L → p (L ++ [a])) : ∀ L, p L := by
  intro L
  rw [← List.reverse_reverse L]
  induction L.reverse with
  | nil => exact h0
  | cons a r ih => rw [List.reverse_cons]; exact h1 _ _ ih
theorem mrgT_asc : ∀ L : List Atr, Asc (mrgT L) :=
  list_snoc_ind (by simp [mrgT, Asc]) (fun L a h => by rw [mrgT_snoc]; exact insT_asc a _ h)
theorem mrgT_iff (x v : ByteArray) : ∀ L : List Atr, (x, v) ∈ mrgT L ↔ getT L x = (v, true) :=
  list_snoc_ind (by simp [mrgT, getT]) (fun L a ih => by
    rw [mrgT_snoc, insT_iff _ _ _ (mrgT_asc L), ih, getT_snoc]
    obtain ⟨a1, a2⟩ := a
    by_cases h : a1 = x
    · subst h
      rw [if_pos rfl]
      simp [eq_comm]
    · rw [if_neg h]
      have h' : x ≠ a1 := fun e => h e.symm
      simp [h'])
theorem asc_ext : ∀ (L M : List Atr), Asc L → Asc M → (∀ p, p ∈ L ↔ p ∈ M) → L = M
  | [], [], _, _, _ => rfl
  | [], m :: M, _, _, h => by have := (h m).2 List.mem_cons_self; cases this
  | l :: L, [], _, _, h => by have := (h l).1 List.mem_cons_self; cases this
  | l :: L, m :: M, hl, hm, h => by
    have hl1 := (List.pairwise_cons.1 hl).1
    have hm1 := (List.pairwise_cons.1 hm).1
    have e : l = m := by
      rcases List.mem_cons.1 ((h l).1 List.mem_cons_self) with e | h1
      · exact e
      · rcases List.mem_cons.1 ((h m).2 List.mem_cons_self) with e | h2
        · exact e.symm
        · have a1 := hm1 l h1
          have a2 := hl1 m h2
          rw [ltK_asymm a1] at a2; cases a2
    subst e
    rw [asc_ext L M (List.pairwise_cons.1 hl).2 (List.pairwise_cons.1 hm).2 fun p => ?_]
    have hp := h p
    constructor
    · intro k
      rcases List.mem_cons.1 (hp.1 (List.mem_cons_of_mem _ k)) with rfl | k2
      · exact absurd rfl (ltK_ne (hl1 _ k))
      · exact k2
    · intro k
      rcases List.mem_cons.1 (hp.2 (List.mem_cons_of_mem _ k)) with rfl | k2
      · exact absurd rfl (ltK_ne (hm1 _ k))
      · exact k2
theorem mrgT_is (L R : List Atr) (h : Asc R) (hm : ∀ x v, (x, v) ∈ R ↔ getT L x = (v, true)) : R = mrgT L :=
  asc_ext _ _ h (mrgT_asc L) (fun ⟨x, v⟩ => by rw [hm, mrgT_iff])
theorem getT_false {L : List Atr} {x : ByteArray} (h : (getT L x).2 = false) : getT L x = (⟨#[]⟩, false) := by
  unfold getT at *; split at h <;> simp_all
def putS (a : Atr) (s : List Atr × Bool) (q : Atr) : List Atr × Bool :=
  let s1 := if (!s.2 && !ltK q.1 a.1) = true then (s.1 ++ [a], true) else s
  if q.1 = a.1 then s1 else (s1.1 ++ [q], s1.2)
def putF (a : Atr) (L : List Atr) : List Atr × Bool := L.foldl (putS a) ([], false)
def putT (a : Atr) (L : List Atr) : List Atr := if (putF a L).2 then (putF a L).1 else (putF a L).1 ++ [a]
theorem putF_snoc (a : Atr) (L : List Atr) (q : Atr) : putF a (L ++ [q]) = putS a (putF a L) q := by unfold putF; rw [List.foldl_append]; rfl
theorem putT_go (a : Atr) : ∀ (L : List Atr) (out : List Atr), Asc L → (let s := L.foldl (putS a) (out, false); if s.2 then s.1 else s.1 ++ [a]) = out ++ insT a L
  | [], out, _ => by simp [insT]
  | q :: r, out, h => by
    have hq := (List.pairwise_cons.1 h).1
    have hr := (List.pairwise_cons.1 h).2
    have done : ∀ (M out : List Atr), (∀ p ∈ M, p.1 ≠ a.1) → M.foldl (putS a) (out, true) = (out ++ M, true) := by
      intro M
      induction M with
      | nil => intro out _; simp
      | cons m M ih =>
        intro out hm
        rw [List.foldl_cons]
        have : putS a (out, true) m = (out ++ [m], true) := by simp [putS, hm m List.mem_cons_self]
        rw [this, ih _ (fun p hp => hm p (List.mem_cons_of_mem _ hp))]
        simp
    unfold insT
    by_cases h1 : ltK q.1 a.1 = true
    · rw [if_pos h1]
      have hs : putS a (out, false) q = (out ++ [q], false) := by simp [putS, h1, ltK_ne h1]
      rw [List.foldl_cons, hs, putT_go a r _ hr]
      simp
    · rw [if_neg h1]
      have h1' : ltK q.1 a.1 = false := by simpa using h1
      by_cases h2 : q.1 = a.1
      · rw [if_pos h2]
        have hs : putS a (out, false) q = (out ++ [a], true) := by simp [putS, h2, ltK_irrefl]
        rw [List.foldl_cons, hs, done r _ (fun p hp e => ltK_ne (hq p hp) (h2.trans e.symm))]
        simp
      · rw [if_neg h2]
        have h3 : ltK a.1 q.1 = true := by
          cases hk : ltK a.1 q.1
          · exact absurd (ltK_tri h1' hk) h2
          · rfl
        have hs : putS a (out, false) q = (out ++ [a] ++ [q], true) := by simp [putS, h1', h2]
        rw [List.foldl_cons, hs, done r _ (fun p hp e => ltK_ne (ltK_trans h3 (hq p hp)) e.symm)]
        simp
theorem putT_ins (a : Atr) (L : List Atr) (h : Asc L) : putT a L = insT a L := by
  unfold putT putF
  exact putT_go a L [] h
end Go.Proofs.YtnancphlkbfglaaGreatDoor.At
namespace Go.Proofs.YtnancphlkbfglaaGreatDoor.At
open Go.RowKit Go.Sort Go.Lib Go.Shelf Fx Lx
theorem scan_full {p : Nat → Bool} : ∀ (f n : Nat), scan p f n = n + f → ∀ k, n ≤ k → k < n + f → p k = true
  | 0, n, _, k, h1, h2 => by omega
  | f + 1, n, h, k, h1, h2 => by
    have h' : (if p n then scan p f (n + 1) else n) = n + (f + 1) := h
    cases hp : p n
    · rw [hp, if_neg (by decide)] at h'; omega
    · rw [hp, if_pos rfl] at h'
      by_cases e : k = n
      · rw [e]; exact hp
      · exact scan_full f (n + 1) (by omega) k (by omega) (by omega)
theorem okT_L {b : UInt8} (h : isL b = true) : okT b = true := by
  unfold isL at h; unfold okT
  simp only [Bool.or_eq_true, Bool.and_eq_true, decide_eq_true_eq] at h ⊢
  omega
theorem okT_D {b : UInt8} (h : isD b = true) : okT b = true := by
  unfold isD at h; unfold okT
  simp only [Bool.and_eq_true, decide_eq_true_eq] at h ⊢
  omega
theorem bt_get (l : List UInt8) (k : Nat) (h : k < l.length) : bt l k = l[k] := by
  unfold bt; rw [List.getElem?_eq_getElem h]; rfl
theorem name_text (l : List UInt8) (h : nameB l = true) : l.all okT = true := by
  unfold nameB at h
  simp only [Bool.and_eq_true, decide_eq_true_eq] at h
  have hw := scan_full (p := okW l) l.length 0 (by have := h.1.2; unfold wordN at this; omega)
  rw [List.all_eq_true]
  intro b hb
  obtain ⟨k, hk, rfl⟩ := List.getElem_of_mem hb
  have hk2 := hw k (Nat.zero_le _) (by omega)
  unfold okW at hk2
  rw [bt_get l k hk, Bool.or_eq_true] at hk2
  rcases hk2 with h1 | h1
  · exact okT_L h1
  · rw [Bool.and_eq_true] at h1; exact okT_D h1.2
theorem side_text (s : ByteArray) (h : 0 ≤ sideN s) : s.data.toList.all okT = true := by
  unfold sideN Lib.idxOfS sidesL at h
  simp only [Lib.idxFromS] at h
  repeat' split at h
  all_goals first
    | (rename_i e; first | (have e' := eq_of_beq e; subst e'; decide) | (subst e; decide))
    | (exact absurd h (by decide))
theorem gap_text (p : ByteArray) (h : 0 ≤ gapN p) (h1 : (nmOf p).data.toList.all okT = true) (h2 : (wdOf p).data.toList.all okT = true) : p.data.toList.all okT = true := by
  unfold nmOf at h1
  unfold wdOf at h2
  unfold gapN at h h1 h2
  rcases Lib.index_spec p.data.toList [32] with ⟨e, _⟩ | ⟨i, e, hi, ho, _⟩
  · rw [e] at h; exact absurd h (by decide)
  · rw [e, Int.toNat_natCast] at h1 h2
    rw [extract_from_zero] at h1
    rw [extract_from] at h2
    have hd : p.data.toList.drop i = 32 :: p.data.toList.drop (i + 1) := by
      unfold Lib.occAt at ho
      cases hc : p.data.toList.drop i with
      | nil => rw [hc] at ho; exact absurd ho (by decide)
      | cons b r =>
        rw [hc] at ho
        have hb : b = 32 := by
          simp only [List.isPrefixOf, Bool.and_true, beq_iff_eq] at ho; exact ho.symm
        have hr : r = p.data.toList.drop (i + 1) := by
          rw [← List.drop_drop, hc]; rfl
        rw [hb, hr]
    rw [← List.take_append_drop i p.data.toList, List.all_append, hd, List.all_cons, h1, h2]
    decide
theorem ports_text : ∀ (l : List ByteArray) (out : List Prt), (portsGo l out).2 = 0 → ∀ p ∈ l, p.data.toList.all okT = true
  | [], _, _, p, hp => by cases hp
  | q :: r, out, h, p, hp => by
    unfold portsGo at h
    by_cases c1 : gapN q < 0
    · rw [if_pos c1] at h; exact absurd h (by decide)
    rw [if_neg c1] at h
    by_cases c2 : sideN (wdOf q) < 0
    · rw [if_pos c2] at h; exact absurd h (by decide)
    rw [if_neg c2] at h
    by_cases c3 : nameB (nmOf q).data.toList = false
    · rw [if_pos c3] at h; exact absurd h (by decide)
    rw [if_neg c3] at h
    by_cases c4 : hasN out (nmOf q) = true
    · rw [if_pos c4] at h; exact absurd h (by decide)
    rw [if_neg c4] at h
    by_cases c5 : out.length = 8
    · rw [if_pos c5] at h; exact absurd h (by decide)
    rw [if_neg c5] at h
    rcases List.mem_cons.1 hp with rfl | hp
    · exact gap_text p (by omega) (name_text _ (by simpa using c3)) (side_text _ (by omega))
    · exact ports_text r _ h p hp
theorem ext_text (s : ByteArray) (a b : Nat) (h : (s.extract a b).data.toList.all okT = true) (j : Nat) (h1 : a ≤ j) (h2 : j < b) (h3 : b ≤ s.size) : okT (bt s.data.toList j) = true := by
  have hj : j < s.data.toList.length := by rw [← size_len]; omega
  rw [bt_get _ _ hj]
  refine List.all_eq_true.1 h _ ?_
  have e : (s.extract a b).data.toList = (s.data.toList.drop a).take (b - a) := by
    rw [ByteArray.data_extract, Array.toList_extract, List.extract_eq_take_drop]
  rw [e]
  refine List.mem_of_getElem? (i := j - a) ?_
  rw [List.getElem?_take_of_lt (by omega), List.getElem?_drop, show a + (j - a) = j by omega, List.getElem?_eq_getElem hj]
theorem split_text (s : ByteArray) : ∀ (f a i : Nat), a ≤ i → i ≤ s.size → s.size ≤ i + f → (∀ p ∈ splitFrom s a i f, p.data.toList.all okT = true) → ∀ j, a ≤ j → j < s.size → okT (bt s.data.toList j) = true
  | 0, a, i, h1, h2, h3, h, j, hj, hj2 => ext_text s a s.size (h _ (by unfold splitFrom; exact List.mem_cons_self)) j hj hj2 (Nat.le_refl _)
  | f + 1, a, i, h1, h2, h3, h, j, hj, hj2 => by
    unfold splitFrom at h
    by_cases c1 : i + 1 < s.size
    · rw [if_pos c1] at h
      by_cases c2 : bt s.data.toList i = 44 ∧ bt s.data.toList (i + 1) = 32
      · rw [if_pos c2] at h
        by_cases c3 : j < i
        · exact ext_text s a i (h _ List.mem_cons_self) j hj c3 h2
        · by_cases c4 : j = i
          · rw [c4, c2.1]; decide
          · by_cases c5 : j = i + 1
            · rw [c5, c2.2]; decide
            · exact split_text s f (i + 2) (i + 2) (Nat.le_refl _) (by omega) (by omega) (fun p hp => h p (List.mem_cons_of_mem _ hp)) j (by omega) hj2
      · rw [if_neg c2] at h
        exact split_text s f a (i + 1) (by omega) (by omega) (by omega) h j hj hj2
    · rw [if_neg c1] at h
      exact ext_text s a s.size (h _ List.mem_cons_self) j hj hj2 (Nat.le_refl _)
theorem portsV_text (s : ByteArray) (h : (portsV s).2 = 0) : s.data.toList.all okT = true := by
  unfold portsV at h
  by_cases c : s.size = 0
  · have : s.data.toList = [] := List.eq_nil_of_length_eq_zero (by rw [← size_len]; exact c)
    rw [this]; rfl
  · rw [if_neg c, ← split_all s s.size (Nat.le_refl _)] at h
    have hp := ports_text _ _ h
    rw [List.all_eq_true]
    intro b hb
    obtain ⟨k, hk, rfl⟩ := List.getElem_of_mem hb
    have := split_text s s.size 0 0 (Nat.le_refl _) (Nat.zero_le _) (by omega) hp k (Nat.zero_le _) (by rw [size_len]; exact hk)
    rwa [bt_get _ _ hk] at this
def RK (r k : Rul) : Prop :=
  (r.1 = 0 ∧ k.1 = 0) ∨ (r.1 = 1 ∧ k.1 = 1) ∨ (r.1 = 2 ∧ k.1 = 4) ∨ (r.1 = 5 ∧ k.1 = 5) ∨
  (r.1 = 3 ∧ k.1 = 2 ∧ r.2 = k.2 ∧ 0 ≤ k.2.1 ∧ k.2.1 ≤ k.2.2.2 ∧ k.2.2.2 ≤ k.2.2.1 ∧ k.2.2.1 = 1048576) ∨
  (r.1 = 4 ∧ k.1 = 3 ∧ r.2.1 = 1000 * k.2.1 ∧ r.2.2.1 = 1000 * k.2.2.1 ∧ r.2.2.2 = 1000 * k.2.2.2 ∧ 0 ≤ k.2.1 ∧ k.2.1 ≤ k.2.2.2 ∧ k.2.2.2 ≤ k.2.2.1 ∧ k.2.2.1 ≤ 1000)
theorem rule_known (kind : Int) (l : List UInt8) : RK (ruleT kind l) (knownT kind l) := by
  unfold ruleT knownT
  by_cases h1 : kind = 1
  · rw [if_pos h1, if_pos h1]
    unfold nodeR nodeK
    repeat' split
    all_goals (unfold RK; decide)
  rw [if_neg h1, if_neg h1]
  by_cases h2 : kind = 2
  · rw [if_pos h2, if_pos h2]
    unfold edgeR edgeK
    repeat' split
    all_goals (unfold RK; decide)
  rw [if_neg h2, if_neg h2]
  by_cases h4 : kind = 4
  · rw [if_pos h4, if_pos h4]
    unfold setR setK
    repeat' split
    all_goals (unfold RK; decide)
  rw [if_neg h4, if_neg h4]
  unfold RK; decide
theorem modes_contains (v : ByteArray) : Lib.containsS modesL v = decide (0 ≤ modeN v) := rfl
theorem val_acc3 (r k : Rul) (T : Int × Int) (h1 : r.1 = 3) (h2 : k.1 = 2) (h3 : r.2 = k.2) : accN r T = (valT k T).2 := by
  unfold accN valT valN
  rw [h1, h2, h3]
  by_cases c : T.2 = 0 <;> simp [c]
theorem val_acc4 (r k : Rul) (T : Int × Int) (h1 : r.1 = 4) (h2 : k.1 = 3) (h3 : r.2.1 = 1000 * k.2.1) (h4 : r.2.2.1 = 1000 * k.2.2.1) : accN r T = (valT k T).2 := by
  unfold accN valT valN
  rw [h1, h2, h3, h4]
  by_cases c : T.2 = 0
  · by_cases c2 : T.1.tmod 1000 = 0
    · have e := Int.tmod_add_mul_tdiv T.1 1000
      rw [c2] at e
      simp only [c, c2]
      have e1 : (1000 * k.2.1 ≤ T.1) ↔ (k.2.1 ≤ T.1.tdiv 1000) := by omega
      have e2 : (T.1 ≤ 1000 * k.2.2.1) ↔ (T.1.tdiv 1000 ≤ k.2.2.1) := by omega
      simp [e1, e2]
    · simp [c, c2]
  · simp [c]
theorem acc_ok (r k : Rul) (v : ByteArray) (h : RK r k) (h0 : r.1 ≠ 0) (h32 : r.1 = 1 → v.size ≤ 32) : accB r v = okR k v := by
  unfold accB okR
  rcases h with ⟨a, b⟩ | ⟨a, b⟩ | ⟨a, b⟩ | ⟨a, b⟩ | ⟨a, b, c, _⟩ | ⟨a, b, c, d, _⟩
  · exact absurd a h0
  · rw [if_pos a, if_pos b]; unfold textB; rw [decide_eq_true (h32 a), Bool.true_and]
  · rw [a, b]
    simp only [show ((2 : Int) = 1) = False from by simp, show ((4 : Int) = 1) = False from by simp, show ((4 : Int) = 2 ∨ (4 : Int) = 3) = False from by simp, if_false, if_true]
    unfold textB
    by_cases c : (portsV v).2 = 0
    · rw [portsV_text v c, decide_eq_true c]; simp
    · rw [decide_eq_false c]; simp
  · rw [a, b, modes_contains]; rfl
  · have e := val_acc3 r k (parse v.data.toList) a b c
    rw [if_neg (by omega), if_neg (by omega), if_neg (by omega), if_neg (by omega), if_pos (.inl b)]; exact e
  · have e := val_acc4 r k (parse v.data.toList) a b c d
    rw [if_neg (by omega), if_neg (by omega), if_neg (by omega), if_neg (by omega), if_pos (.inr b)]; exact e
theorem check_same (kind : Int) (k v : ByteArray) : checkV kind k v = checkRV kind k v := by
  unfold checkV checkRV
  have hrk := rule_known kind k.data.toList
  have h0 : (ruleT kind k.data.toList).1 = 0 ↔ (knownT kind k.data.toList).1 = 0 := by unfold RK at hrk; omega
  have h1 : (ruleT kind k.data.toList).1 = 1 ↔ (knownT kind k.data.toList).1 = 1 := by unfold RK at hrk; omega
  by_cases c0 : knownB kind = false
  · rw [if_pos c0, if_pos c0]
  rw [if_neg c0, if_neg c0]
  have n1 : (ruleT kind k.data.toList).1 ≠ 0 → ¬ (knownT kind k.data.toList).1 = 0 := fun h e => h (h0.2 e)
  have n2 : ¬ ((ruleT kind k.data.toList).1 = 1 ∧ 32 < v.size) → ¬ ((knownT kind k.data.toList).1 = 1 ∧ 32 < v.size) := fun h e => h ⟨h1.2 e.1, e.2⟩
  by_cases c1 : (ruleT kind k.data.toList).1 = 0
  · rw [if_pos c1, if_pos (h0.1 c1)]
  rw [if_neg c1, if_neg (n1 c1)]
  by_cases c2 : (ruleT kind k.data.toList).1 = 1 ∧ 32 < v.size
  · rw [if_pos c2, if_pos ⟨h1.1 c2.1, c2.2⟩]
  rw [if_neg c2, if_neg (n2 c2)]
  rw [acc_ok _ _ v hrk c1 (fun e => by by_cases c3 : 32 < v.size; exact absurd ⟨e, c3⟩ c2; omega)]
def numT (r : Rul) (G : ByteArray × Bool) : Int :=
  if r.1 ≠ 3 ∧ r.1 ≠ 4 then 0 else if r.1 = 4 then (if G.2 && accB r G.1 then (parse G.1.data.toList).1 else r.2.2.2).tdiv 1000 else (if G.2 && accB r G.1 then (parse G.1.data.toList).1 else r.2.2.2)
theorem num_same (kind : Int) (l : List UInt8) (G : ByteArray × Bool) : numT (ruleT kind l) G = numRT (knownT kind l) G := by
  have hrk := rule_known kind l
  generalize ruleT kind l = r at hrk ⊢
  generalize knownT kind l = k at hrk ⊢
  have ho := fun h0 h1 => acc_ok r k G.1 hrk h0 h1
  unfold numT numRT
  rcases hrk with ⟨a, b⟩ | ⟨a, b⟩ | ⟨a, b⟩ | ⟨a, b⟩ | ⟨a, b, c, _⟩ | ⟨a, b, c, d, e, _⟩
  · rw [if_pos (show r.1 ≠ 3 ∧ r.1 ≠ 4 by omega), if_pos (show k.1 ≠ 2 ∧ k.1 ≠ 3 by omega)]
  · rw [if_pos (show r.1 ≠ 3 ∧ r.1 ≠ 4 by omega), if_pos (show k.1 ≠ 2 ∧ k.1 ≠ 3 by omega)]
  · rw [if_pos (show r.1 ≠ 3 ∧ r.1 ≠ 4 by omega), if_pos (show k.1 ≠ 2 ∧ k.1 ≠ 3 by omega)]
  · rw [if_pos (show r.1 ≠ 3 ∧ r.1 ≠ 4 by omega), if_pos (show k.1 ≠ 2 ∧ k.1 ≠ 3 by omega)]
  · rw [if_neg (show ¬ (r.1 ≠ 3 ∧ r.1 ≠ 4) by omega), if_neg (show ¬ r.1 = 4 by omega), if_neg (show ¬ (k.1 ≠ 2 ∧ k.1 ≠ 3) by omega)]
    have ho' := ho (by omega) (by omega)
    unfold okR at ho'
    rw [if_neg (show ¬ k.1 = 1 by omega), if_pos (.inl b)] at ho'
    rw [ho']
    cases hg : G.2
    · simp [c]
    · cases hv : (valT k (parse G.1.data.toList)).2
      · simp [c]
      · simp only [Bool.and_self, if_true]
        unfold valT valN at hv ⊢
        by_cases hz : (parse G.1.data.toList).2 = 0
        · simp [hz, b]
        · simp [hz] at hv
  · rw [if_neg (show ¬ (r.1 ≠ 3 ∧ r.1 ≠ 4) by omega), if_pos a, if_neg (show ¬ (k.1 ≠ 2 ∧ k.1 ≠ 3) by omega)]
    have ho' := ho (by omega) (by omega)
    unfold okR at ho'
    rw [if_neg (show ¬ k.1 = 1 by omega), if_pos (.inr b)] at ho'
    rw [ho']
    cases hg : G.2
    · simp [e]
    · cases hv : (valT k (parse G.1.data.toList)).2
      · simp [e]
      · simp only [Bool.and_self, if_true]
        unfold valT valN at hv ⊢
        by_cases hz : (parse G.1.data.toList).2 = 0
        · by_cases hm : (parse G.1.data.toList).1.tmod 1000 = 0
          · simp [hz, b, hm]
          · simp [hz, b, hm] at hv
        · simp [hz] at hv
end Go.Proofs.YtnancphlkbfglaaGreatDoor.At
namespace Go.Proofs.YtnancphlkbfglaaGreatDoor.At
open Go.RowKit Go.Sort Go.Lib Go.Shelf Fx Lx
attribute [local go_sem] Oper.semAt_some
def down (N m : Nat) : List Nat := ((List.range N).drop m).reverse
theorem down_full (N : Nat) : down N N = [] := by simp [down]
theorem down_step (N m : Nat) (h : m < N) : down N m = down N (m + 1) ++ [m] := by
  unfold down
  rw [List.drop_eq_getElem_cons (by simpa using h), List.reverse_cons, List.getElem_range]
theorem down_pre (N m : Nat) : down N m <+: down N 0 := by
  unfold down
  refine ⟨((List.range N).take m).reverse, ?_⟩
  rw [← List.reverse_append, List.take_append_drop]; rfl
theorem down_len (N m : Nat) : (down N m).length = N - m := by simp [down]
def atrB (L : List Atr) (k : Nat) : Array Value := #[.int .i64 k, .agg #[.string (L.getD k default).1, .string (L.getD k default).2]]
def AtrLow (n₀ : Nat) (w : World) (a : Option Addr) (L : List Atr) : Prop :=
  ∀ k (h : k < L.length), ∃ g o, a = some ⟨g, o, none⟩ ∧ g < n₀ ∧ w.cell? ⟨g, o + k * 2, none⟩ = some (.string L[k].1) ∧ w.cell? ⟨g, o + k * 2 + 1, none⟩ = some (.string L[k].2)
theorem AtrLow.below {n₀ : Nat} {w w' : World} {a : Option Addr} {L : List Atr} (h : AtrLow n₀ w a L) (x : Below n₀ w w') : AtrLow n₀ w' a L := fun k hk => by
  obtain ⟨g, o, ha, hg, h0, h1⟩ := h k hk
  exact ⟨g, o, ha, hg, (x.cell (p := ⟨g, o + k * 2, none⟩) hg).trans h0, (x.cell (p := ⟨g, o + k * 2 + 1, none⟩) hg).trans h1⟩
theorem AtrIn.low {w : World} {a : Option Addr} {L : List Atr} (h : AtrIn w a L) {n₀ : Nat} (hn : w.heap.size ≤ n₀) : AtrLow n₀ w a L := fun k hk => by
  obtain ⟨g, o, ha, h0, h1⟩ := h k hk
  refine ⟨g, o, ha, ?_, h0, h1⟩
  obtain ⟨ob, ho, _⟩ := cells_of_cell h0
  have := (Array.getElem?_eq_some_iff.1 ho).1
  have h2 : g < w.heap.size := this
  omega
set_option maxRecDepth 100000 in
set_option maxHeartbeats 1000000 in
theorem back1_in (F : Fence) (n : Nat) (hf : F.fn 110) (hro : F.round = none) (hn : 1 ≤ n) (l Bn n₀ : Nat) (a : Option Addr) (L : List Atr) (cap : Nat) (hL : L.length ≤ 9223372036854775807) (J Jx : List Nat → World → Prop)
    (hY : ∀ pre x W, J pre W → pre.length < L.length → YieldAt F (n - 1) Tryz.prog l (atrB L x) W fun e W' =>
      (e = .returned (.bool true) ∧ J (pre ++ [x]) W' ∧ Below n₀ W W') ∨ (e = .returned (.bool false) ∧ Jx (pre ++ [x]) W'))
    (W : World) (hB : Bn < n₀) (hBn : W.cell? ⟨Bn, 0, none⟩ = some (.slice a L.length cap)) (hI : AtrLow n₀ W a L) (h0 : J [] W) :
    CallsIn F n Tryz.prog 110 #[.func (.yield l) #[] #[], .pointer (some ⟨Bn, 0, none⟩)] W fun e W' => (∃ v, e = .returned v) ∧
      ((∃ ys, ys = down L.length 0 ∧ J ys W') ∨ (∃ pre, pre <+: down L.length 0 ∧ Jx pre W')) := by
  obtain ⟨N, hN⟩ : ∃ N, N = L.length := ⟨_, rfl⟩
  rw [← hN] at hL hBn
  have HY := Lib.hid hY
  have HI := Lib.hid hI
  have HN := Lib.hid hN
  have HB := Lib.hid hBn
  have H0 := Lib.hid h0
  rw [← hN]
  clear hY hI hN h0
  refine callsIn_of_wp Tryz.func110 rfl hf ?_ hro
  simp only [Tryz.ntmps110, List.size_toArray, List.length_cons, List.length_nil, Nat.reduceAdd, Nat.reduceSub, Array.replicate_succ, Array.replicate_zero, List.push_toArray, List.append_toArray, List.nil_append, List.cons_append]
  gi_wp2
  gi_loopw [3] (fun p wr => Below n₀ W wr ∧ ((p = .int .i64 (-1) ∧ Hid (J (down N 0) wr)) ∨ (∃ m : Nat, m < N ∧ p = .int .i64 m ∧ Hid (J (down N (m + 1)) wr))))
    (fun p wr => (RowKit.intOf p + 1).toNat)
  case atStart =>
    refine ⟨Below.refl _ _, ?_⟩
    rcases Nat.eq_zero_or_pos N with hz | hz
    · subst hz; exact .inl ⟨by go_num, H0⟩
    · refine .inr ⟨N - 1, by omega, by congr 1; omega, ?_⟩
      rw [show N - 1 + 1 = N by omega, down_full]; exact H0
  case round =>
    obtain ⟨hb, ⟨rfl, hJ⟩ | ⟨m, hm, rfl, hJ⟩⟩ := hrel
    · gi_wp2
      go_end0
      exact ⟨⟨_, rfl⟩, .inl ⟨_, rfl, hJ.out⟩⟩
    · have hml : m < L.length := by rw [← HN.out]; exact hm
      obtain ⟨g, o, rfl, hg, c0, c1⟩ := (HI.out.below hb) m hml
      have hbn : wr.cell? ⟨Bn, 0, none⟩ = some (.slice (some ⟨g, o, none⟩) N cap) := (hb.cell (p := ⟨Bn, 0, none⟩) hB).trans HB.out
      have e1 : atrB L m = #[.int .i64 m, .agg #[.string L[m].1, .string L[m].2]] := by unfold atrB; rw [List.getD_eq_getElem?_getD, List.getElem?_eq_getElem hml]; rfl
      have hy0 := HY.out (down N (m + 1)) m wr hJ.out (by rw [down_len, ← HN.out]; omega)
      rw [e1] at hy0
      obtain ⟨nk, hnk⟩ : ∃ nk, nk = L[m].1 := ⟨_, rfl⟩
      obtain ⟨nv, hnv⟩ : ∃ nv, nv = L[m].2 := ⟨_, rfl⟩
      rw [← hnk] at c0 hy0
      rw [← hnv] at c1 hy0
      clear hnk hnv e1
      obtain ⟨fn, tmps, assign, body, hy, hR⟩ := hy0
      have HR := Lib.hid hR
      clear hR
      gi_wp2
      refine HR.out.mono ?_
      rintro e W3 (⟨rfl, hJ3, hk3⟩ | ⟨rfl, hJx3⟩)
      · rw [← down_step N m hm] at hJ3
        have HJ3 := Lib.hid hJ3
        clear hJ3 hJ
        gi_wp2
        go_roundw
        case rel =>
          refine ⟨hb.trans hk3, ?_⟩
          rcases Nat.eq_zero_or_pos m with hz | hz
          · subst hz; exact .inl ⟨by go_num, HJ3⟩
          · exact .inr ⟨m - 1, by omega, by congr 1; omega, by rw [show m - 1 + 1 = m by omega]; exact HJ3⟩
        case measure => simp [RowKit.intOf]
      · rw [← down_step N m hm] at hJx3
        have HJ3 := Lib.hid hJx3
        clear hJx3 hJ
        gi_wp2
        refine bodyPost_ret (results_none rfl _ _ _) rfl ?_
        exact ⟨⟨_, rfl⟩, .inr ⟨_, down_pre N m, HJ3.out⟩⟩
set_option maxHeartbeats 1000000 in
theorem back_in (F : Fence) (n : Nat) (hf : F.fn 63) (hro : F.round = none) (a : Option Addr) (N cap : Nat) (w : World) :
    CallsIn F n Tryz.prog 63 #[.slice a N cap] w fun e w' => e = .returned (.func (.func 110) #[] #[.pointer (some ⟨w.heap.size, 0, none⟩)]) ∧ w' = w.alloc (.cells #[.slice a N cap] 54) := by
  refine callsIn_of_wp Tryz.func63 rfl hf ?_ hro
  simp only [Tryz.ntmps63, List.size_toArray, List.length_cons, List.length_nil, Nat.reduceAdd, Nat.reduceSub, Array.replicate_succ, Array.replicate_zero, List.push_toArray, List.append_toArray, List.nil_append, List.cons_append]
  gi_wp2
  go_ret
  exact ⟨rfl, rfl⟩
theorem back_stops (F : Fence) (n : Nat) (hf : F.fn 110) (hro : F.round = none) (hn : 1 ≤ n) (Bn n₀ : Nat) (a : Option Addr) (L : List Atr) (cap : Nat) (w : World) (hL : L.length ≤ 9223372036854775807) (hBn : Bn < n₀) (hn₀ : n₀ ≤ w.heap.size)
    (hc : w.cell? ⟨Bn, 0, none⟩ = some (.slice a L.length cap)) (hI : AtrLow n₀ w a L) :
    SeqStopsK F n Tryz.prog 110 #[.pointer (some ⟨Bn, 0, none⟩)] (atrB L) (Below n₀) (fun ys => ys = down L.length 0) (fun pre => pre <+: down L.length 0) L.length w := fun l J Jx W hW _ _ hY h0 =>
  back1_in F n hf hro hn l Bn n₀ a L cap hL J Jx hY W hBn ((hW.cell (p := ⟨Bn, 0, none⟩) (by show Bn < _; omega)).trans hc) (hI.below (hW.mono hn₀)) h0
end Go.Proofs.YtnancphlkbfglaaGreatDoor.At
namespace Go.Proofs.YtnancphlkbfglaaGreatDoor.At
open Go.RowKit Go.Sort Go.Lib Go.Shelf Fx Lx
attribute [local go_sem] Oper.semAt_some
theorem getT_none (L : List Atr) (x : ByteArray) (h : ∀ k ∈ down L.length 0, (L.getD k default).1 ≠ x) : getT L x = (⟨#[]⟩, false) := by
  unfold getT
  have : L.reverse.find? (fun q => decide (q.1 = x)) = none := by
    rw [List.find?_eq_none]
    intro q hq
    obtain ⟨k, hk, rfl⟩ := List.getElem_of_mem (List.mem_reverse.1 hq)
    have := h k (by simp [down]; exact hk)
    rw [List.getD_eq_getElem?_getD, List.getElem?_eq_getElem hk] at this
    simpa using this
  rw [this]
theorem getT_at (L : List Atr) (x : ByteArray) (m : Nat) (hm : m < L.length) (h1 : (L.getD m default).1 = x) (h2 : ∀ k ∈ down L.length (m + 1), (L.getD k default).1 ≠ x) : getT L x = ((L.getD m default).2, true) := by
  have e : L = L.take m ++ L[m] :: L.drop (m + 1) := by rw [← List.drop_eq_getElem_cons hm, List.take_append_drop]
  have eg : L.getD m default = L[m] := by rw [List.getD_eq_getElem?_getD, List.getElem?_eq_getElem hm]; rfl
  rw [eg] at h1 ⊢
  unfold getT
  have hf : L.reverse.find? (fun q => decide (q.1 = x)) = some L[m] := by
    have e2 : L.reverse = (L.drop (m + 1)).reverse ++ (L[m] :: (L.take m).reverse) := by
      conv => lhs; rw [e]
      rw [List.reverse_append, List.reverse_cons, List.append_assoc]; rfl
    rw [e2, List.find?_append]
    have : (L.drop (m + 1)).reverse.find? (fun q => decide (q.1 = x)) = none := by
      rw [List.find?_eq_none]
      intro q hq
      obtain ⟨k, hk, rfl⟩ := List.getElem_of_mem (List.mem_reverse.1 hq)
      rw [List.length_drop] at hk
      rw [List.getElem_drop]
      have hk2 : m + 1 + k < L.length := by omega
      have := h2 (m + 1 + k) (by unfold down; rw [List.mem_reverse, List.mem_drop_iff_getElem]; exact ⟨k, by simp; omega, by simp⟩)
      rw [List.getD_eq_getElem?_getD, List.getElem?_eq_getElem hk2] at this
      simpa using this
    rw [this, Option.none_or, List.find?_cons, decide_eq_true h1]
  rw [hf]
theorem down_last {N : Nat} {pre : List Nat} {k : Nat} (h : pre ++ [k] <+: down N 0) : k < N ∧ pre = down N (k + 1) := by
  obtain ⟨t, ht⟩ := h
  have hl : pre.length + 1 + t.length = N := by
    have := congrArg List.length ht
    rw [down_len] at this
    simp at this; omega
  have key : ∀ m, m ≤ N → (down N 0).take (N - m) = down N m := fun m hm => by
    have hp := down_pre N m
    have := List.prefix_iff_eq_take.1 hp
    rw [down_len] at this
    exact this.symm
  have hk : down N 0 = pre ++ k :: t := by rw [← ht]; simp
  have h1 : k = N - 1 - pre.length := by
    have e : (down N 0)[pre.length]? = some k := by rw [hk]; simp
    unfold down at e
    rw [List.drop_zero, List.getElem?_reverse (by rw [List.length_range]; omega), List.length_range, List.getElem?_range (by omega)] at e
    injection e with e
    exact e.symm
  refine ⟨by omega, ?_⟩
  have := key (k + 1) (by omega)
  rw [← this, hk, show N - (k + 1) = pre.length by omega, List.take_left]
def getF (a : Option Addr) (N cap : Nat) (x : ByteArray) (b : Nat) (k : Nat) (q : Atr) (c : Nat) : Act :=
  { tmps := #[.slice a N cap, .string x, undef, .pointer (some ⟨b, 0, none⟩), .pointer (some ⟨b + 1, 0, none⟩), .pointer (some ⟨b + 1 + 1, 0, none⟩), undef, .pointer (some ⟨c, 0, none⟩), .slice a N cap, .func (.func 110) #[] #[.pointer (some ⟨b + 1 + 1 + 1, 0, none⟩)], .int .i64 k, .agg #[.string q.1, .string q.2], undef, undef, undef, undef, undef, undef], defers := [] }
theorem two_cells {w : World} {c : Nat} {T : TypeId} {cs : Array Value} (h : w.heap[c]? = some (.cells cs T (0, 0))) (j : Nat) (v : Value) (hv : cs[j]? = some v) : w.cell? ⟨c, j, none⟩ = some v := by
  rw [Lib.cell_of_heap h]; exact hv
set_option maxRecDepth 100000 in
set_option maxHeartbeats 4000000 in
theorem get_in (F : Fence) (n : Nat) (h11 : F.fn 27) (h27 : F.fn 63) (h52 : F.fn 110) (hro : F.round = none) (hn : 3 ≤ n) (a : Option Addr) (L : List Atr) (cap : Nat) (x : ByteArray) (w : World) (h : AtrIn w a L) (hL : L.length ≤ 9223372036854775807) :
    CallsIn F n Tryz.prog 27 #[.slice a L.length cap, .string x] w fun e w' => e = .returned (.tuple #[.string (getT L x).1, .bool (getT L x).2]) ∧ Ext w w' := by
  have h1 : 1 ≤ n := by omega
  obtain ⟨N, hN⟩ : ∃ N, N = L.length := ⟨_, rfl⟩
  have HN := Lib.hid hN
  have HI := Lib.hid h
  have HL := Lib.hid hL
  rw [← hN]
  clear hN h hL
  refine callsIn_of_wp_marks Tryz.func27 rfl h11 ?_ hro
  simp only [Tryz.ntmps27, List.size_toArray, List.length_cons, List.length_nil, Nat.reduceAdd, Nat.reduceSub, Array.replicate_succ, Array.replicate_zero, List.push_toArray, List.append_toArray, List.nil_append, List.cons_append]
  gi_wp2_with (gi_at_call 63; refine (back_in F (n - 1) h27 hro _ _ _ _).mono ?_; rintro e w' ⟨rfl, rfl⟩)
  obtain ⟨W0, hW0⟩ : ∃ W0, (((w.alloc (.cells #[.string x] 9)).alloc (.cells #[.string ⟨#[]⟩] 9)).alloc (.cells #[.bool false] 4)).alloc (.cells #[.slice a N cap] 54) = W0 := ⟨_, rfl⟩
  have hs0 : W0.heap.size = w.heap.size + 4 := by rw [← hW0]; simp
  have hx0 : Ext w W0 := by rw [← hW0]; exact ((((Ext.refl _).alloc _).alloc _).alloc _).alloc _
  have hB0 : W0.heap[w.heap.size]? = some (.cells #[.string x] 9 (0, 0)) := by
    rw [← hW0]; exact (((Below.heap_alloc _ _ _ (by simp <;> omega)).trans (Below.heap_alloc _ _ _ (by simp <;> omega))).trans (Below.heap_alloc _ _ _ (by simp))).trans (World.alloc_heap_new w _)
  have hB1 : W0.heap[w.heap.size + 1]? = some (.cells #[.string ⟨#[]⟩] 9 (0, 0)) := by
    rw [← hW0]; refine ((Below.heap_alloc _ _ _ (by simp <;> omega)).trans (Below.heap_alloc _ _ _ (by simp))).trans ?_
    have := World.alloc_heap_new (w.alloc (.cells #[.string x] 9)) (.cells #[.string ⟨#[]⟩] 9); rwa [World.size_alloc] at this
  have hB2 : W0.heap[w.heap.size + 1 + 1]? = some (.cells #[.bool false] 4 (0, 0)) := by
    rw [← hW0]; refine (Below.heap_alloc _ _ _ (by simp)).trans ?_
    have := World.alloc_heap_new ((w.alloc (.cells #[.string x] 9)).alloc (.cells #[.string ⟨#[]⟩] 9)) (.cells #[.bool false] 4); rwa [World.size_alloc, World.size_alloc] at this
  have hB3 : W0.heap[w.heap.size + 1 + 1 + 1]? = some (.cells #[.slice a N cap] 54 (0, 0)) := by
    rw [← hW0]
    have := World.alloc_heap_new (((w.alloc (.cells #[.string x] 9)).alloc (.cells #[.string ⟨#[]⟩] 9)).alloc (.cells #[.bool false] 4)) (.cells #[.slice a N cap] 54); rwa [World.size_alloc, World.size_alloc, World.size_alloc] at this
  rw [hW0]
  clear hW0
  refine wpIn_rangeFunc_ownH hro h1 (gf := 110) (lb := #[.pointer (some ⟨w.heap.size + 1 + 1 + 1, 0, none⟩)]) rfl h52 (enters_of Tryz.func110 (by kernel_rfl) rfl)
    (back_stops F (n - 1) h52 hro (by omega) (w.heap.size + 1 + 1 + 1) W0.heap.size a L cap W0 HL.out (by omega) (Nat.le_refl _) (by rw [← HN.out]; exact two_cells hB3 0 _ rfl) ((HI.out.ext hx0).low (Nat.le_refl _))) belowK_t (belowK_b (Nat.le_refl _)) (Below.refl _ _) (fun _ => rfl)
    (fun pre W => (∀ k ∈ pre, (L.getD k default).1 ≠ x) ∧ Below W0.heap.size W0 W)
    (fun c pre W => (c = .ret ∧ (∃ pre' k, pre = pre' ++ [k] ∧ (∀ j ∈ pre', (L.getD j default).1 ≠ x) ∧ (L.getD k default).1 = x ∧ W.cell? ⟨w.heap.size + 1, 0, none⟩ = some (.string (L.getD k default).2)) ∧ W.cell? ⟨w.heap.size + 1 + 1, 0, none⟩ = some (.bool true)) ∧ Below w.heap.size w W)
    (OwnFrom.and (ownFrom_pure _ _) (ownFrom_below (Nat.le_refl _) (Nat.le_refl _)))
    (fun c => OwnFrom.and (Own.from (fun s A B row hs hg hr => ⟨hs.1, (by obtain ⟨pre', k, e1, e2, e3, e4⟩ := hs.2.1; exact ⟨pre', k, e1, e2, e3, cell_kept e4 hg hr⟩), cell_kept hs.2.2 hg hr⟩) _) (ownFrom_below (Nat.le_refl _) (by omega)))
    ⟨fun _ h => (by cases h), Below.refl _ _⟩
    (fun k a' W => ∃ c, W0.heap.size ≤ c ∧ a' = getF a N cap x w.heap.size k (L.getD k default) c ∧ W.cell? ⟨c, 0, none⟩ = some (.string (L.getD k default).1) ∧ W.cell? ⟨c, 1, none⟩ = some (.string (L.getD k default).2))
    (fun k a' _ X Y row hs hg hr => by obtain ⟨c, e1, e2, e3, e4⟩ := hs; exact ⟨c, e1, e2, cell_kept e3 hg (fun r e => (hr r e).2), cell_kept e4 hg (fun r e => (hr r e).2)⟩)
    ?assign ?body ?done ?stop
  case assign =>
    rintro l pre k W K ⟨hp, hB⟩ hK
    obtain ⟨q, hq⟩ : ∃ q, q = L.getD k default := ⟨_, rfl⟩
    unfold atrB
    rw [← hq] at hK ⊢
    obtain ⟨q1, q2⟩ := q
    dsimp only at hK ⊢
    have hb := World.alloc_heap_new W (.cells #[.string q1, .string q2] 109)
    have c0 := two_cells hb 0 _ rfl
    have c1 := two_cells hb 1 _ rfl
    have HK := Lib.hid hK
    clear hq hK
    gi_wp2
    exact HK.out _ _ ((KeepsOthers.alloc _ _).from _) ((Below.refl _ W).alloc hB.size _) ⟨hp, hB.alloc hB.size _⟩ ⟨W.heap.size, hB.size, rfl, c0, c1⟩
  case body =>
    rintro l pre k a' W hl _ ⟨hp, hB⟩ ⟨c, hc, rfl, c0, c1⟩ hlt
    obtain ⟨q, hq⟩ : ∃ q, q = L.getD k default := ⟨_, rfl⟩
    rw [← hq] at c0 c1 ⊢
    obtain ⟨q1, q2⟩ := q
    dsimp only at c0 c1
    unfold getF
    dsimp only
    have k0 : W.cell? ⟨w.heap.size, 0, none⟩ = some (.string x) := (hB.cell (p := ⟨w.heap.size, 0, none⟩) (by show w.heap.size < _; omega)).trans (two_cells hB0 0 _ rfl)
    have k1 : W.cell? ⟨w.heap.size + 1, 0, none⟩ = some (.string ⟨#[]⟩) := (hB.cell (p := ⟨w.heap.size + 1, 0, none⟩) (by show w.heap.size + 1 < _; omega)).trans (two_cells hB1 0 _ rfl)
    have k2 : W.cell? ⟨w.heap.size + 1 + 1, 0, none⟩ = some (.bool false) := (hB.cell (p := ⟨w.heap.size + 1 + 1, 0, none⟩) (by show w.heap.size + 1 + 1 < _; omega)).trans (two_cells hB2 0 _ rfl)
    have f1 : W.frozen? ⟨w.heap.size + 1, 0, none⟩ = false := (hB.frozen (p := ⟨w.heap.size + 1, 0, none⟩) (by show w.heap.size + 1 < _; omega)).trans (Lib.frozen_of_heap hB1 0)
    have f2 : W.frozen? ⟨w.heap.size + 1 + 1, 0, none⟩ = false := (hB.frozen (p := ⟨w.heap.size + 1 + 1, 0, none⟩) (by show w.heap.size + 1 + 1 < _; omega)).trans (Lib.frozen_of_heap hB2 0)
    have k2' : ∀ v, (W.setCell ⟨w.heap.size + 1, 0, none⟩ v).cell? ⟨w.heap.size + 1 + 1, 0, none⟩ = some (.bool false) := fun v => by rw [World.cell?_setCell_other (h := fun e => by injection e with e; omega)]; exact k2
    have f2' : ∀ v, (W.setCell ⟨w.heap.size + 1, 0, none⟩ v).frozen? ⟨w.heap.size + 1 + 1, 0, none⟩ = false := fun v => by rw [World.frozen?_setCell]; exact f2
    have HB := Lib.hid hB
    have HP := Lib.hid hp
    have HQ := Lib.hid hq
    have HC := Lib.hid hc
    clear hB hp hq hl hlt hc
    by_cases heq : q1 = x
    · have HE := Lib.hid heq
      have g1 : (q1.toList == x.toList) = true := by rw [ByteArray.toList_eq, ByteArray.toList_eq, heq]; simp
      clear heq
      gi_wp2
      refine ⟨((KeepsOthers.setCell _ _ _).trans (KeepsOthers.setCell _ _ _)).from _, ⟨rfl, ⟨pre, k, rfl, HP.out, by rw [← HQ.out]; exact HE.out, ?_⟩, ?_⟩, ?_⟩
      · rw [World.cell?_setCell_other (h := fun e => by injection e with e; omega), ← HQ.out]
        exact World.cell?_setCell_same' _ _ _ (by rw [k1]; rfl)
      · exact World.cell?_setCell_same' _ _ _ (by rw [k2']; rfl)
      · exact ((hx0.trans HB.out).setCell (p := ⟨w.heap.size + 1, 0, none⟩) (show w.heap.size ≤ w.heap.size + 1 by omega) _).setCell (p := ⟨w.heap.size + 1 + 1, 0, none⟩) (show w.heap.size ≤ w.heap.size + 1 + 1 by omega) _
    · have HE := Lib.hid heq
      have g1 : (q1.toList == x.toList) = false := by
        rw [ByteArray.toList_eq, ByteArray.toList_eq]
        exact beq_eq_false_iff_ne.2 (fun e => heq (ByteArray.ext (Array.toList_inj.1 e)))
      clear heq
      gi_wp2
      refine ⟨(KeepsOthers.refl _).from _, Below.refl _ _, fun j hj => ?_, HB.out⟩
      rcases List.mem_append.1 hj with h | h
      · exact HP.out j h
      · rw [List.mem_singleton.1 h, ← HQ.out]; exact HE.out
  case done =>
    rintro D xs W hD rfl ⟨hp, hB⟩ hK
    have k1 : W.cell? ⟨w.heap.size + 1, 0, none⟩ = some (.string ⟨#[]⟩) := (hB.cell (p := ⟨w.heap.size + 1, 0, none⟩) (by show w.heap.size + 1 < _; omega)).trans (two_cells hB1 0 _ rfl)
    have k2 : W.cell? ⟨w.heap.size + 1 + 1, 0, none⟩ = some (.bool false) := (hB.cell (p := ⟨w.heap.size + 1 + 1, 0, none⟩) (by show w.heap.size + 1 + 1 < _; omega)).trans (two_cells hB2 0 _ rfl)
    have f1 : W.frozen? ⟨w.heap.size + 1, 0, none⟩ = false := (hB.frozen (p := ⟨w.heap.size + 1, 0, none⟩) (by show w.heap.size + 1 < _; omega)).trans (Lib.frozen_of_heap hB1 0)
    have f2 : W.frozen? ⟨w.heap.size + 1 + 1, 0, none⟩ = false := (hB.frozen (p := ⟨w.heap.size + 1 + 1, 0, none⟩) (by show w.heap.size + 1 + 1 < _; omega)).trans (Lib.frozen_of_heap hB2 0)
    have k2' : ∀ v, (W.setCell ⟨w.heap.size + 1, 0, none⟩ v).cell? ⟨w.heap.size + 1 + 1, 0, none⟩ = some (.bool false) := fun v => by rw [World.cell?_setCell_other (h := fun e => by injection e with e; omega)]; exact k2
    have f2' : ∀ v, (W.setCell ⟨w.heap.size + 1, 0, none⟩ v).frozen? ⟨w.heap.size + 1 + 1, 0, none⟩ = false := fun v => by rw [World.frozen?_setCell]; exact f2
    have HB := Lib.hid hB
    have HP := Lib.hid hp
    have HK := Lib.hid hK
    clear hB hp hK
    gi_wp2
    have hK' := ((KeepsOthers.setCell W ⟨w.heap.size + 1, 0, none⟩ (.string ⟨#[]⟩)).trans (KeepsOthers.setCell _ ⟨w.heap.size + 1 + 1, 0, none⟩ (.bool false))).same D _ HK.out rfl
    refine ⟨by simp, .inl ⟨_, _, rfl, run_takeDeferred hK', ?_⟩⟩
    have r1 : ((W.setCell ⟨w.heap.size + 1, 0, none⟩ (.string ⟨#[]⟩)).setCell ⟨w.heap.size + 1 + 1, 0, none⟩ (.bool false)).cell? ⟨w.heap.size + 1, 0, none⟩ = some (.string ⟨#[]⟩) := by
      rw [World.cell?_setCell_other (h := fun e => by injection e with e; omega)]
      exact World.cell?_setCell_same' _ _ _ (by rw [k1]; rfl)
    have r2 : ((W.setCell ⟨w.heap.size + 1, 0, none⟩ (.string ⟨#[]⟩)).setCell ⟨w.heap.size + 1 + 1, 0, none⟩ (.bool false)).cell? ⟨w.heap.size + 1 + 1, 0, none⟩ = some (.bool false) := World.cell?_setCell_same' _ _ _ (by rw [k2']; rfl)
    have hc1 := cell_kept r1 (grownBy_putObj' _ D (.deferred none)) (fun r e => by cases e; exact ⟨_, hK', rfl⟩)
    have hc2 := cell_kept r2 (grownBy_putObj' _ D (.deferred none)) (fun r e => by cases e; exact ⟨_, hK', rfl⟩)
    refine ⟨.tuple #[.string ⟨#[]⟩, .bool false], ?_, ?_, ?_⟩
    · simp [results, Tryz.f27, go_sem, hc1, hc2]
    · rw [getT_none L x HP.out]
    · exact Below.trans (((hx0.trans HB.out).setCell (p := ⟨w.heap.size + 1, 0, none⟩) (show w.heap.size ≤ w.heap.size + 1 by omega) _).setCell (p := ⟨w.heap.size + 1 + 1, 0, none⟩) (show w.heap.size ≤ w.heap.size + 1 + 1 by omega) _) (belowK_b (w := w) (Nat.le_refl _) _ D _ _ (by omega) hK' rfl rfl)
  case stop =>
    rintro D c pre W hD hpre ⟨⟨rfl, ⟨pre', k, rfl, e1, e2, e3⟩, e4⟩, hB⟩ hK
    obtain ⟨hk, rfl⟩ := down_last hpre
    have hg := getT_at L x k hk e2 e1
    have HB := Lib.hid hB
    have HK := Lib.hid hK
    have HG := Lib.hid hg
    clear hB hK hg e1 e2 hpre
    gi_wp2
    refine ⟨by simp, .inl ⟨_, _, rfl, run_takeDeferred HK.out, ?_⟩⟩
    have hc1 := cell_kept e3 (grownBy_putObj' _ D (.deferred none)) (fun r e => by cases e; exact ⟨_, HK.out, rfl⟩)
    have hc2 := cell_kept e4 (grownBy_putObj' _ D (.deferred none)) (fun r e => by cases e; exact ⟨_, HK.out, rfl⟩)
    refine ⟨.tuple #[.string (L.getD k default).2, .bool true], ?_, ?_, ?_⟩
    · simp [results, Tryz.f27, go_sem, hc1, hc2]
    · rw [HG.out]
    · exact HB.out.trans (belowK_b (w := w) (Nat.le_refl _) _ D _ _ (by omega) HK.out rfl rfl)
theorem get_any (a : Option Addr) (L : List Atr) (cap : Nat) (x : ByteArray) (w : World) (h : AtrIn w a L) (hL : L.length ≤ 9223372036854775807) :
    Calls Tryz.prog 27 #[.slice a L.length cap, .string x] w fun e w' => e = .returned (.tuple #[.string (getT L x).1, .bool (getT L x).2]) ∧ Ext w w' :=
  callsIn_wide.1 (get_in Fence.wide 3 trivial trivial trivial rfl (Nat.le_refl _) a L cap x w h hL)
end Go.Proofs.YtnancphlkbfglaaGreatDoor.At
namespace Go.Proofs.YtnancphlkbfglaaGreatDoor.At
open Go.RowKit Go.Sort Go.Lib Go.Shelf Fx Lx
theorem rules_num (kind a lo hi d : Int) (k : ByteArray) (w : World) (hk : k.size ≤ maxLen) (hr : ruleT kind k.data.toList = (a, lo, hi, d)) :
    Calls Tryz.prog 60 #[.int .i64 kind] w fun e w1 => ∃ m wa wn, e = .returned m ∧
      (Instr.lookup 121 m (.string k) false).run Tryz.prog w1 = .ok (.agg #[.int .i64 a, .int .i64 lo, .int .i64 hi, .int .i64 d, .slice wa wn wn]) w1 ∧ Ext w w1 := by
  refine (rules_any kind w).mono ?_
  rintro e w1 ⟨m, ws, rfl, hl, _, hws, x1⟩
  have p1 := (hl k hk).2
  rw [hr] at p1
  by_cases h5 : a = 5
  · obtain ⟨g, hg0, rfl, hg⟩ := hws (rule5 kind k.data.toList (by rw [hr]; exact h5))
    have hv : ruleVal (a, lo, hi, d) (.slice (some ⟨g, 0, none⟩) 5 5) = .agg #[.int .i64 a, .int .i64 lo, .int .i64 hi, .int .i64 d, .slice (some ⟨g, 0, none⟩) 5 5] := by
      unfold ruleVal mkRule; dsimp only; rw [if_pos h5]
    rw [hv] at p1
    exact ⟨m, _, _, rfl, p1, x1⟩
  · have hv : ruleVal (a, lo, hi, d) ws = .agg #[.int .i64 a, .int .i64 lo, .int .i64 hi, .int .i64 d, .slice none 0 0] := by
      unfold ruleVal mkRule; dsimp only; rw [if_neg h5]
    rw [hv] at p1
    exact ⟨m, _, _, rfl, p1, x1⟩
theorem rule_box (w1 : World) (a lo hi d : Int) (ws : Value) : ∀ w2, Ext (w1.alloc (.cells #[.int .i64 a, .int .i64 lo, .int .i64 hi, .int .i64 d, ws] 120)) w2 →
    w2.cell? ⟨w1.heap.size, 0, none⟩ = some (.int .i64 a) ∧ w2.cell? ⟨w1.heap.size, 1, none⟩ = some (.int .i64 lo) ∧ w2.cell? ⟨w1.heap.size, 2, none⟩ = some (.int .i64 hi) ∧ w2.cell? ⟨w1.heap.size, 3, none⟩ = some (.int .i64 d) ∧ w2.cell? ⟨w1.heap.size, 4, none⟩ = some ws := fun w2 x => by
  have hb := heap_alloc_new w1 (.cells #[.int .i64 a, .int .i64 lo, .int .i64 hi, .int .i64 d, ws] 120)
  refine ⟨x.cell ?_, x.cell ?_, x.cell ?_, x.cell ?_, x.cell ?_⟩ <;> rw [Lib.cell_of_heap hb] <;> rfl
theorem rule_def (kind : Int) (l : List UInt8) : 0 ≤ (ruleT kind l).2.2.2 ∧ (ruleT kind l).2.2.2 ≤ 1048576 ∨ ((ruleT kind l).1 ≠ 3 ∧ (ruleT kind l).1 ≠ 4) := by
  have hrk := rule_known kind l
  generalize ruleT kind l = r at hrk ⊢
  generalize knownT kind l = k at hrk ⊢
  unfold RK at hrk
  rcases hrk with ⟨a, b⟩ | ⟨a, b⟩ | ⟨a, b⟩ | ⟨a, b⟩ | ⟨a, b, c, _⟩ | ⟨a, b, c, d, e, _⟩
  · omega
  · omega
  · omega
  · omega
  · rw [c]; omega
  · omega
set_option maxHeartbeats 1000000 in
set_option maxRecDepth 100000 in
theorem num3_no (kind lo hi d : Int) (b : Option Addr) (N cap : Nat) (x s : ByteArray) (w : World) (_hd1 : 0 ≤ d) (_hd2 : d ≤ 1048576)
    (hru : Calls Tryz.prog 60 #[.int .i64 kind] w fun e w1 => ∃ m wa wn, e = .returned m ∧ (Instr.lookup 121 m (.string x) false).run Tryz.prog w1 = .ok (.agg #[.int .i64 3, .int .i64 lo, .int .i64 hi, .int .i64 d, .slice wa wn wn]) w1 ∧ Ext w w1)
    (hge : ∀ w' (_ : Ext w w'), Calls Tryz.prog 27 #[.slice b N cap, .string x] w' fun e w2 => e = .returned (.tuple #[.string s, .bool false]) ∧ Ext w' w2) :
    Calls Tryz.prog 26 #[.int .i64 kind, .slice b N cap, .string x] w fun e w' => e = .returned (.int .i64 d) ∧ Ext w w' := by
  have HRU := Lib.hid hru
  have HRB := Lib.hid rule_box
  have HGE := Lib.hid hge
  clear hru hge
  go_enter Tryz.func26, Tryz.ntmps26
  go_wp2_with (first | (go_at_call 60; refine HRU.out.mono ?_; rintro e w1 ⟨m, wa, wn, rfl, hlk, x1⟩; obtain ⟨c0, c1, c2, c3, c4⟩ := HRB.out w1 3 lo hi d (.slice wa wn wn) _ (Ext.refl _)) | (go_at_call 27; refine (HGE.out _ (x1.alloc _)).mono ?_; rintro e w2 ⟨rfl, x2⟩; obtain ⟨e0, e1, e2, e3, e4⟩ := HRB.out w1 3 lo hi d (.slice wa wn wn) _ x2))
  go_returns
  exact ⟨rfl, (x1.alloc _).trans x2⟩
set_option maxHeartbeats 1000000 in
set_option maxRecDepth 100000 in
theorem num3_bad (kind lo hi d : Int) (b : Option Addr) (N cap : Nat) (x s : ByteArray) (w : World) (_hd1 : 0 ≤ d) (_hd2 : d ≤ 1048576)
    (hru : Calls Tryz.prog 60 #[.int .i64 kind] w fun e w1 => ∃ m wa wn, e = .returned m ∧ (Instr.lookup 121 m (.string x) false).run Tryz.prog w1 = .ok (.agg #[.int .i64 3, .int .i64 lo, .int .i64 hi, .int .i64 d, .slice wa wn wn]) w1 ∧ Ext w w1)
    (hge : ∀ w' (_ : Ext w w'), Calls Tryz.prog 27 #[.slice b N cap, .string x] w' fun e w2 => e = .returned (.tuple #[.string s, .bool true]) ∧ Ext w' w2)
    (hac : ∀ ws w' (_ : Ext w w'), Calls Tryz.prog 61 #[.agg #[.int .i64 3, .int .i64 lo, .int .i64 hi, .int .i64 d, ws], .string s] w' fun e w2 => e = .returned (.bool false) ∧ Ext w' w2) :
    Calls Tryz.prog 26 #[.int .i64 kind, .slice b N cap, .string x] w fun e w' => e = .returned (.int .i64 d) ∧ Ext w w' := by
  have HRU := Lib.hid hru
  have HRB := Lib.hid rule_box
  have HGE := Lib.hid hge
  have HAC := Lib.hid hac
  clear hru hge hac
  go_enter Tryz.func26, Tryz.ntmps26
  go_wp2_with (first | (go_at_call 60; refine HRU.out.mono ?_; rintro e w1 ⟨m, wa, wn, rfl, hlk, x1⟩; obtain ⟨c0, c1, c2, c3, c4⟩ := HRB.out w1 3 lo hi d (.slice wa wn wn) _ (Ext.refl _)) | (go_at_call 27; refine (HGE.out _ (x1.alloc _)).mono ?_; rintro e w2 ⟨rfl, x2⟩; obtain ⟨e0, e1, e2, e3, e4⟩ := HRB.out w1 3 lo hi d (.slice wa wn wn) _ x2) | (go_at_call 61; refine (HAC.out _ _ ((x1.alloc _).trans x2)).mono ?_; rintro e w3 ⟨rfl, x3⟩; obtain ⟨u0, u1, u2, u3, u4⟩ := HRB.out w1 3 lo hi d (.slice wa wn wn) _ (x2.trans x3)))
  go_returns
  exact ⟨rfl, ((x1.alloc _).trans x2).trans x3⟩
set_option maxHeartbeats 1000000 in
set_option maxRecDepth 100000 in
theorem num3_ok (kind lo hi d : Int) (v c : Int) (b : Option Addr) (N cap : Nat) (x s : ByteArray) (w : World) (_hd1 : 0 ≤ d) (_hd2 : d ≤ 1048576)
    (hru : Calls Tryz.prog 60 #[.int .i64 kind] w fun e w1 => ∃ m wa wn, e = .returned m ∧ (Instr.lookup 121 m (.string x) false).run Tryz.prog w1 = .ok (.agg #[.int .i64 3, .int .i64 lo, .int .i64 hi, .int .i64 d, .slice wa wn wn]) w1 ∧ Ext w w1)
    (hge : ∀ w' (_ : Ext w w'), Calls Tryz.prog 27 #[.slice b N cap, .string x] w' fun e w2 => e = .returned (.tuple #[.string s, .bool true]) ∧ Ext w' w2)
    (hac : ∀ ws w' (_ : Ext w w'), Calls Tryz.prog 61 #[.agg #[.int .i64 3, .int .i64 lo, .int .i64 hi, .int .i64 d, ws], .string s] w' fun e w2 => e = .returned (.bool true) ∧ Ext w' w2)
    (hpa : ∀ w' (_ : Ext w w'), Calls Tryz.prog 62 #[.string s] w' fun e w2 => e = .returned (.tuple #[.int .i64 v, .int .i64 c]) ∧ Ext w' w2) (_hv1 : v ≤ 268435456) (_hv2 : -268435456 ≤ v) :
    Calls Tryz.prog 26 #[.int .i64 kind, .slice b N cap, .string x] w fun e w' => e = .returned (.int .i64 v) ∧ Ext w w' := by
  have HRU := Lib.hid hru
  have HRB := Lib.hid rule_box
  have HGE := Lib.hid hge
  have HAC := Lib.hid hac
  have HPA := Lib.hid hpa
  clear hru hge hac hpa
  go_enter Tryz.func26, Tryz.ntmps26
  go_wp2_with (first | (go_at_call 60; refine HRU.out.mono ?_; rintro e w1 ⟨m, wa, wn, rfl, hlk, x1⟩; obtain ⟨c0, c1, c2, c3, c4⟩ := HRB.out w1 3 lo hi d (.slice wa wn wn) _ (Ext.refl _)) | (go_at_call 27; refine (HGE.out _ (x1.alloc _)).mono ?_; rintro e w2 ⟨rfl, x2⟩; obtain ⟨e0, e1, e2, e3, e4⟩ := HRB.out w1 3 lo hi d (.slice wa wn wn) _ x2) | (go_at_call 61; refine (HAC.out _ _ ((x1.alloc _).trans x2)).mono ?_; rintro e w3 ⟨rfl, x3⟩; obtain ⟨u0, u1, u2, u3, u4⟩ := HRB.out w1 3 lo hi d (.slice wa wn wn) _ (x2.trans x3)) | (go_at_call 62; refine (HPA.out _ (((x1.alloc _).trans x2).trans x3)).mono ?_; rintro e w4 ⟨rfl, x4⟩; obtain ⟨y0, y1, y2, y3, y4⟩ := HRB.out w1 3 lo hi d (.slice wa wn wn) _ ((x2.trans x3).trans x4)))
  go_returns
  exact ⟨rfl, (((x1.alloc _).trans x2).trans x3).trans x4⟩
set_option maxHeartbeats 1000000 in
set_option maxRecDepth 100000 in
theorem num4_no (kind lo hi d : Int) (b : Option Addr) (N cap : Nat) (x s : ByteArray) (w : World) (hd1 : 0 ≤ d) (hd2 : d ≤ 1048576)
    (hru : Calls Tryz.prog 60 #[.int .i64 kind] w fun e w1 => ∃ m wa wn, e = .returned m ∧ (Instr.lookup 121 m (.string x) false).run Tryz.prog w1 = .ok (.agg #[.int .i64 4, .int .i64 lo, .int .i64 hi, .int .i64 d, .slice wa wn wn]) w1 ∧ Ext w w1)
    (hge : ∀ w' (_ : Ext w w'), Calls Tryz.prog 27 #[.slice b N cap, .string x] w' fun e w2 => e = .returned (.tuple #[.string s, .bool false]) ∧ Ext w' w2) :
    Calls Tryz.prog 26 #[.int .i64 kind, .slice b N cap, .string x] w fun e w' => e = .returned (.int .i64 (Int.tdiv d 1000)) ∧ Ext w w' := by
  have HRU := Lib.hid hru
  have HRB := Lib.hid rule_box
  have HGE := Lib.hid hge
  have hq : Int.tdiv d 1000 ≤ 268435456 ∧ -268435456 ≤ Int.tdiv d 1000 := by
    have h := Int.natAbs_tdiv_le_natAbs d 1000
    omega
  obtain ⟨hq1, hq2⟩ := hq
  clear hru hge
  go_enter Tryz.func26, Tryz.ntmps26
  go_wp2_with (first | (go_at_call 60; refine HRU.out.mono ?_; rintro e w1 ⟨m, wa, wn, rfl, hlk, x1⟩; obtain ⟨c0, c1, c2, c3, c4⟩ := HRB.out w1 4 lo hi d (.slice wa wn wn) _ (Ext.refl _)) | (go_at_call 27; refine (HGE.out _ (x1.alloc _)).mono ?_; rintro e w2 ⟨rfl, x2⟩; obtain ⟨e0, e1, e2, e3, e4⟩ := HRB.out w1 4 lo hi d (.slice wa wn wn) _ x2))
  go_returns
  exact ⟨rfl, (x1.alloc _).trans x2⟩
set_option maxHeartbeats 1000000 in
set_option maxRecDepth 100000 in
theorem num4_bad (kind lo hi d : Int) (b : Option Addr) (N cap : Nat) (x s : ByteArray) (w : World) (hd1 : 0 ≤ d) (hd2 : d ≤ 1048576)
    (hru : Calls Tryz.prog 60 #[.int .i64 kind] w fun e w1 => ∃ m wa wn, e = .returned m ∧ (Instr.lookup 121 m (.string x) false).run Tryz.prog w1 = .ok (.agg #[.int .i64 4, .int .i64 lo, .int .i64 hi, .int .i64 d, .slice wa wn wn]) w1 ∧ Ext w w1)
    (hge : ∀ w' (_ : Ext w w'), Calls Tryz.prog 27 #[.slice b N cap, .string x] w' fun e w2 => e = .returned (.tuple #[.string s, .bool true]) ∧ Ext w' w2)
    (hac : ∀ ws w' (_ : Ext w w'), Calls Tryz.prog 61 #[.agg #[.int .i64 4, .int .i64 lo, .int .i64 hi, .int .i64 d, ws], .string s] w' fun e w2 => e = .returned (.bool false) ∧ Ext w' w2) :
    Calls Tryz.prog 26 #[.int .i64 kind, .slice b N cap, .string x] w fun e w' => e = .returned (.int .i64 (Int.tdiv d 1000)) ∧ Ext w w' := by
  have HRU := Lib.hid hru
  have HRB := Lib.hid rule_box
  have HGE := Lib.hid hge
  have HAC := Lib.hid hac
  have hq : Int.tdiv d 1000 ≤ 268435456 ∧ -268435456 ≤ Int.tdiv d 1000 := by
    have h := Int.natAbs_tdiv_le_natAbs d 1000
    omega
  obtain ⟨hq1, hq2⟩ := hq
  clear hru hge hac
  go_enter Tryz.func26, Tryz.ntmps26
  go_wp2_with (first | (go_at_call 60; refine HRU.out.mono ?_; rintro e w1 ⟨m, wa, wn, rfl, hlk, x1⟩; obtain ⟨c0, c1, c2, c3, c4⟩ := HRB.out w1 4 lo hi d (.slice wa wn wn) _ (Ext.refl _)) | (go_at_call 27; refine (HGE.out _ (x1.alloc _)).mono ?_; rintro e w2 ⟨rfl, x2⟩; obtain ⟨e0, e1, e2, e3, e4⟩ := HRB.out w1 4 lo hi d (.slice wa wn wn) _ x2) | (go_at_call 61; refine (HAC.out _ _ ((x1.alloc _).trans x2)).mono ?_; rintro e w3 ⟨rfl, x3⟩; obtain ⟨u0, u1, u2, u3, u4⟩ := HRB.out w1 4 lo hi d (.slice wa wn wn) _ (x2.trans x3)))
  go_returns
  exact ⟨rfl, ((x1.alloc _).trans x2).trans x3⟩
set_option maxHeartbeats 1000000 in
set_option maxRecDepth 100000 in
theorem num4_ok (kind lo hi d : Int) (v c : Int) (b : Option Addr) (N cap : Nat) (x s : ByteArray) (w : World) (_hd1 : 0 ≤ d) (_hd2 : d ≤ 1048576)
    (hru : Calls Tryz.prog 60 #[.int .i64 kind] w fun e w1 => ∃ m wa wn, e = .returned m ∧ (Instr.lookup 121 m (.string x) false).run Tryz.prog w1 = .ok (.agg #[.int .i64 4, .int .i64 lo, .int .i64 hi, .int .i64 d, .slice wa wn wn]) w1 ∧ Ext w w1)
    (hge : ∀ w' (_ : Ext w w'), Calls Tryz.prog 27 #[.slice b N cap, .string x] w' fun e w2 => e = .returned (.tuple #[.string s, .bool true]) ∧ Ext w' w2)
    (hac : ∀ ws w' (_ : Ext w w'), Calls Tryz.prog 61 #[.agg #[.int .i64 4, .int .i64 lo, .int .i64 hi, .int .i64 d, ws], .string s] w' fun e w2 => e = .returned (.bool true) ∧ Ext w' w2)
    (hpa : ∀ w' (_ : Ext w w'), Calls Tryz.prog 62 #[.string s] w' fun e w2 => e = .returned (.tuple #[.int .i64 v, .int .i64 c]) ∧ Ext w' w2) (hv1 : v ≤ 268435456) (hv2 : -268435456 ≤ v) :
    Calls Tryz.prog 26 #[.int .i64 kind, .slice b N cap, .string x] w fun e w' => e = .returned (.int .i64 (Int.tdiv v 1000)) ∧ Ext w w' := by
  have HRU := Lib.hid hru
  have HRB := Lib.hid rule_box
  have HGE := Lib.hid hge
  have HAC := Lib.hid hac
  have HPA := Lib.hid hpa
  have hq : Int.tdiv v 1000 ≤ 268435456 ∧ -268435456 ≤ Int.tdiv v 1000 := by
    have h := Int.natAbs_tdiv_le_natAbs v 1000
    omega
  obtain ⟨hq1, hq2⟩ := hq
  clear hru hge hac hpa
  go_enter Tryz.func26, Tryz.ntmps26
  go_wp2_with (first | (go_at_call 60; refine HRU.out.mono ?_; rintro e w1 ⟨m, wa, wn, rfl, hlk, x1⟩; obtain ⟨c0, c1, c2, c3, c4⟩ := HRB.out w1 4 lo hi d (.slice wa wn wn) _ (Ext.refl _)) | (go_at_call 27; refine (HGE.out _ (x1.alloc _)).mono ?_; rintro e w2 ⟨rfl, x2⟩; obtain ⟨e0, e1, e2, e3, e4⟩ := HRB.out w1 4 lo hi d (.slice wa wn wn) _ x2) | (go_at_call 61; refine (HAC.out _ _ ((x1.alloc _).trans x2)).mono ?_; rintro e w3 ⟨rfl, x3⟩; obtain ⟨u0, u1, u2, u3, u4⟩ := HRB.out w1 4 lo hi d (.slice wa wn wn) _ (x2.trans x3)) | (go_at_call 62; refine (HPA.out _ (((x1.alloc _).trans x2).trans x3)).mono ?_; rintro e w4 ⟨rfl, x4⟩; obtain ⟨y0, y1, y2, y3, y4⟩ := HRB.out w1 4 lo hi d (.slice wa wn wn) _ ((x2.trans x3).trans x4)))
  go_returns
  exact ⟨rfl, (((x1.alloc _).trans x2).trans x3).trans x4⟩
set_option maxHeartbeats 1000000 in
set_option maxRecDepth 100000 in
theorem num_none (kind a lo hi d : Int) (b : Option Addr) (N cap : Nat) (x : ByteArray) (w : World) (k3 : a ≠ 3) (k4 : a ≠ 4)
    (hru : Calls Tryz.prog 60 #[.int .i64 kind] w fun e w1 => ∃ m wa wn, e = .returned m ∧ (Instr.lookup 121 m (.string x) false).run Tryz.prog w1 = .ok (.agg #[.int .i64 a, .int .i64 lo, .int .i64 hi, .int .i64 d, .slice wa wn wn]) w1 ∧ Ext w w1) :
    Calls Tryz.prog 26 #[.int .i64 kind, .slice b N cap, .string x] w fun e w' => e = .returned (.int .i64 0) ∧ Ext w w' := by
  have HRU := Lib.hid hru
  have HRB := Lib.hid rule_box
  obtain ⟨f3, f3b⟩ := ne_facts k3
  obtain ⟨f4, f4b⟩ := ne_facts k4
  clear hru k3 k4
  go_enter Tryz.func26, Tryz.ntmps26
  go_wp2_with (go_at_call 60; refine HRU.out.mono ?_; rintro e w1 ⟨m, wa, wn, rfl, hlk, x1⟩; have hc := (HRB.out w1 a lo hi d (.slice wa wn wn) _ (Ext.refl _)).1)
  go_returns
  exact ⟨rfl, x1.alloc _⟩
theorem num_any (kind : Int) (b : Option Addr) (L : List Atr) (cap : Nat) (x : ByteArray) (w : World) (h : AtrIn w b L) (hL : L.length ≤ 9223372036854775807) (hs : ∀ q ∈ L, q.2.size ≤ 4294967280) (hk : x.size ≤ maxLen) (he : Env w) :
    Calls Tryz.prog 26 #[.int .i64 kind, .slice b L.length cap, .string x] w fun e w' => e = .returned (.int .i64 (numT (ruleT kind x.data.toList) (getT L x))) ∧ Ext w w' := by
  have hrd := rule_def kind x.data.toList
  have hge := fun w' (y : Ext w w') => get_any b L cap x w' (h.ext y) hL
  have hsz := getT_mem L x 4294967280 hs
  obtain ⟨a, lo, hi, d, hr⟩ : ∃ a lo hi d, ruleT kind x.data.toList = (a, lo, hi, d) := ⟨_, _, _, _, rfl⟩
  have hru := rules_num kind a lo hi d x w hk hr
  rw [hr] at hrd ⊢
  obtain ⟨s, is, hG⟩ : ∃ s is, getT L x = (s, is) := ⟨_, _, rfl⟩
  rw [hG] at hge hsz ⊢
  dsimp only at hsz hge hrd
  obtain ⟨v, c, hp⟩ : ∃ v c, parse s.data.toList = (v, c) := ⟨_, _, rfl⟩
  have hb : c = 0 → v ≤ 268435456 ∧ -268435456 ≤ v := fun h => by rw [h] at hp; exact (exact_ok _ _ hp).2
  have hpa := fun w' (y : Ext w w') => parse_any s w' (by omega) (he.ext y)
  have hac := fun ws w' (y : Ext w w') h1 h2 h5 => acc_num a lo hi d ws s w' (by omega) (he.ext y) h1 h2 h5
  rw [hp] at hpa hac
  dsimp only at hpa
  by_cases k34 : a ≠ 3 ∧ a ≠ 4
  · have e : numT (a, lo, hi, d) (s, is) = 0 := if_pos k34
    rw [e]
    exact num_none kind a lo hi d b L.length cap x w k34.1 k34.2 hru
  · have hd : 0 ≤ d ∧ d ≤ 1048576 := by omega
    have hab : accB (a, lo, hi, d) s = accN (a, lo, hi, d) (v, c) := by
      unfold accB; rw [if_neg (show ¬ a = 1 by omega), if_neg (show ¬ a = 2 by omega), if_neg (show ¬ a = 5 by omega), hp]
    have ht : accN (a, lo, hi, d) (v, c) = true → c = 0 := fun h => by
      unfold accN at h; simp only [Bool.and_eq_true, decide_eq_true_eq] at h; exact h.1.1.1
    replace hac := fun ws w' (y : Ext w w') => hac ws w' y (by omega) (by omega) (by omega)
    have hn : numT (a, lo, hi, d) (s, is) = if a = 4 then (if is && accB (a, lo, hi, d) s then v else d).tdiv 1000 else (if is && accB (a, lo, hi, d) s then v else d) := by
      unfold numT; rw [if_neg k34]; dsimp only; rw [hp]
    rw [hn, hab]
    generalize accN (a, lo, hi, d) (v, c) = t at hac ht ⊢
    have ha : a = 3 ∨ a = 4 := by omega
    cases is
    · rcases ha with rfl | rfl
      · exact num3_no kind lo hi d b L.length cap x s w hd.1 hd.2 hru hge
      · exact num4_no kind lo hi d b L.length cap x s w hd.1 hd.2 hru hge
    · cases t
      · rcases ha with rfl | rfl
        · exact num3_bad kind lo hi d b L.length cap x s w hd.1 hd.2 hru hge hac
        · exact num4_bad kind lo hi d b L.length cap x s w hd.1 hd.2 hru hge hac
      · have hvb := hb (ht rfl)
        rcases ha with rfl | rfl
        · exact num3_ok kind lo hi d v c b L.length cap x s w hd.1 hd.2 hru hge hac hpa hvb.1 hvb.2
        · exact num4_ok kind lo hi d v c b L.length cap x s w hd.1 hd.2 hru hge hac hpa hvb.1 hvb.2
end Go.Proofs.YtnancphlkbfglaaGreatDoor.At

namespace Go.Proofs.YtnancphlkbfglaaGreatDoor.Nm
open Go.Lib Fx Lx At
structure Nd where
  name : ByteArray
  label : ByteArray
  w : Int
  h : Int
  c : Int
  ports : List Prt
structure Ed where
  a : Int
  b : Int
  ap : Int
  bp : Int
  label : ByteArray
  wt : Int
  len : Int
structure Gr where
  name : ByteArray
  dir : Bool
  N : List Nd
  E : List Ed
  C : List (ByteArray × Int)
end Go.Proofs.YtnancphlkbfglaaGreatDoor.Nm
