/- Packed texts: LexNext, LexNum -/
import Derived.Test.YtjaeedbjknejdaaGreatDoorPr30
set_option linter.unusedVariables false
set_option linter.unusedSimpArgs false
set_option maxHeartbeats 16000000
set_option maxRecDepth 100000
namespace Go.Proofs.YtjaeedbjknejdaaGreatDoor.Lx
open Go.RowKit Go.Sort Go.Lib Go.Shelf Fx
theorem cells4 {w : World} {B : Nat} {a b c d : Value} {T : TypeId} (h : w.heap[B]? = some (.cells #[a, b, c, d] T (0, 0))) :
    (w.cell? ⟨B, 0, none⟩ = some a /\ w.cell? ⟨B, 1, none⟩ = some b /\ w.cell? ⟨B, 2, none⟩ = some c /\ w.cell? ⟨B, 3, none⟩ = some d) /\
    (w.frozen? ⟨B, 0, none⟩ = false /\ w.frozen? ⟨B, 1, none⟩ = false /\ w.frozen? ⟨B, 2, none⟩ = false /\ w.frozen? ⟨B, 3, none⟩ = false) :=
  ⟨⟨by rw [Lib.cell_of_heap h]; rfl, by rw [Lib.cell_of_heap h]; rfl, by rw [Lib.cell_of_heap h]; rfl, by rw [Lib.cell_of_heap h]; rfl⟩,
   Lib.frozen_of_heap h 0, Lib.frozen_of_heap h 1, Lib.frozen_of_heap h 2, Lib.frozen_of_heap h 3⟩
theorem set1 {w : World} {B : Nat} {cs : Array Value} {T : TypeId} (h : w.heap[B]? = some (.cells cs T (0, 0))) (i : Nat) (v : Value) :
    (w.setCell ⟨B, i, none⟩ v).heap[B]? = some (.cells (cs.setIfInBounds i v) T (0, 0)) := by
  unfold World.setCell
  simp [Array.getElem?_modify, h]
theorem set4r {w : World} {B : Nat} {a b c d : Value} {T : TypeId} (h : w.heap[B]? = some (.cells #[a, b, c, d] T (0, 0))) (a' b' c' d' : Value) :
    (w.setCell ⟨B, 0, none⟩ a').cell? ⟨B, 0, none⟩ = some a' /\ ((w.setCell ⟨B, 0, none⟩ a').setCell ⟨B, 1, none⟩ b').cell? ⟨B, 1, none⟩ = some b' /\
    (((w.setCell ⟨B, 0, none⟩ a').setCell ⟨B, 1, none⟩ b').setCell ⟨B, 2, none⟩ c').cell? ⟨B, 2, none⟩ = some c' /\
    ((((w.setCell ⟨B, 0, none⟩ a').setCell ⟨B, 1, none⟩ b').setCell ⟨B, 2, none⟩ c').setCell ⟨B, 3, none⟩ d').cell? ⟨B, 3, none⟩ = some d' :=
  ⟨by rw [Lib.cell_of_heap (set1 h 0 a')]; rfl, by rw [Lib.cell_of_heap (set1 (set1 h 0 a') 1 b')]; rfl,
   by rw [Lib.cell_of_heap (set1 (set1 (set1 h 0 a') 1 b') 2 c')]; rfl, by rw [Lib.cell_of_heap (set1 (set1 (set1 (set1 h 0 a') 1 b') 2 c') 3 d')]; rfl⟩
theorem kept_alloc {w w1 : World} {o : Obj} (x : Ext (w.alloc o) w1) : w1.heap[w.heap.size]? = some o := by
  have := x.block w.heap.size (by simp)
  rw [this]; exact heap_alloc_new w o
theorem ext_set4 {a w : World} {B : Nat} (h : Ext a w) (hb : a.heap.size <= B) (v0 v1 v2 v3 : Value) :
    Ext a ((((w.setCell ⟨B, 0, none⟩ v0).setCell ⟨B, 1, none⟩ v1).setCell ⟨B, 2, none⟩ v2).setCell ⟨B, 3, none⟩ v3) :=
  (((h.setCell (p := ⟨B, 0, none⟩) hb v0).setCell (p := ⟨B, 1, none⟩) hb v1).setCell (p := ⟨B, 2, none⟩) hb v2).setCell (p := ⟨B, 3, none⟩) hb v3
def tokV (t : Tok) : Value := .agg #[.int .i64 t.kind, .string ⟨t.text.toArray⟩, .int .i64 t.n, .int .i64 t.line]
def nextV (x : Tok × Nat × Int) : Value := .tuple #[tokV x.1, .int .i64 x.2.1, .int .i64 x.2.2]
theorem next_word (s : ByteArray) (w : World) (h0 : 0 < s.size) (hs : s.size <= 16384) (hn : 0 < wordN s.data.toList) :
    Calls Tryz.prog 157 #[.string s] w fun e w' => e = .returned (nextV (next s.data.toList)) /\ Ext w w' := by
  obtain ⟨n, hN⟩ : ∃ n, n = wordN s.data.toList := ⟨_, rfl⟩
  have hle : n <= s.size := by rw [hN, size_len]; have := scan_le (okW s.data.toList) s.data.toList.length 0; unfold wordN; omega
  have hx : next s.data.toList = if kw (s.extract 0 n).data.toList then (⟨2, s.data.toList.take n, 0, 0⟩, n, 0) else if 16 < n then (⟨0, [], 0, 0⟩, 0, 2) else (⟨1, s.data.toList.take n, 0, 0⟩, n, 0) := by
    unfold next; rw [if_pos hn, <- hN, extract_upto]
  have hw := word_any s (by omega)
  rw [<- hN] at hw hn
  have HW := Lib.hid hw; have HX := Lib.hid hx
  clear hw hx hN
  generalize next s.data.toList = NX at HX ⊢
  cases hk : kw (s.extract 0 n).data.toList
  · have HK := Lib.hid hk
    by_cases h16 : 16 < n
    · have hf : Hid (NX = (⟨0, [], 0, 0⟩, 0, 2)) := Lib.hid (by rw [HX.out, hk, if_pos h16]; rfl)
      clear HX hk
      go_enter Tryz.func157, Tryz.ntmps157
      go_wp2_with fail
      refine (HW.out _).mono ?_
      rintro e w1 ⟨rfl, rfl⟩
      go_wp2_with fail
      refine (isKeyword_any (s.extract 0 n) _).mono ?_
      rintro e w1 ⟨rfl, rfl⟩
      rw [HK.out]
      go_wp2
      go_returns
      exact ⟨ret_val (by rw [hf.out]; rfl), (Ext.refl _).alloc _⟩
    have hf : Hid (NX = (⟨1, (s.extract 0 n).data.toList, 0, 0⟩, n, 0)) := Lib.hid (by rw [HX.out, hk, if_neg h16, extract_upto]; rfl)
    clear HX hk
    go_enter Tryz.func157, Tryz.ntmps157
    go_wp2_with fail
    refine (HW.out _).mono ?_
    rintro e w1 ⟨rfl, rfl⟩
    go_wp2_with fail
    refine (isKeyword_any (s.extract 0 n) _).mono ?_
    rintro e w1 ⟨rfl, rfl⟩
    rw [HK.out]
    go_wp2
    go_returns
    refine ⟨ret_val (by rw [hf.out]; rfl), ?_⟩
    exact (Ext.refl _).alloc _
  have HK := Lib.hid hk
  have hf : Hid (NX = (⟨2, (s.extract 0 n).data.toList, 0, 0⟩, n, 0)) := Lib.hid (by rw [HX.out, hk, extract_upto]; rfl)
  clear HX hk
  go_enter Tryz.func157, Tryz.ntmps157
  go_wp2_with fail
  refine (HW.out _).mono ?_
  rintro e w1 ⟨rfl, rfl⟩
  go_wp2_with fail
  refine (isKeyword_any (s.extract 0 n) _).mono ?_
  rintro e w1 ⟨rfl, rfl⟩
  rw [HK.out]
  go_wp2
  go_returns
  refine ⟨ret_val (by rw [hf.out]; rfl), ?_⟩
  exact (Ext.refl _).alloc _
end Go.Proofs.YtjaeedbjknejdaaGreatDoor.Lx

namespace Go.Proofs.YtjaeedbjknejdaaGreatDoor.Lx
open Go.RowKit Go.Sort Go.Lib Go.Shelf Fx
theorem parse_n (s : ByteArray) (v c : Int) (w : World) (hs : s.size <= 4294967280) (he : Env w) (h : parse s.data.toList = (v, c)) :
    Calls Tryz.prog 110 #[.string s] w fun e w' => e = .returned (.tuple #[.int .i64 v, .int .i64 c]) /\ Ext w w' := by
  have := parse_any s w (by omega) he
  rw [h] at this; exact this
theorem size_take (s : ByteArray) (n : Nat) (h : n <= s.size) : (s.extract 0 n).size = n := by simp; omega
theorem next_num (s : ByteArray) (w : World) (h0 : 0 < s.size) (hs : s.size <= 16384) (he : Env w) (hn : wordN s.data.toList = 0)
    (hd : isD s[0] = true \/ isD s[0] = false /\ ((s[0].toNat : Int) == 45) = true /\ ∃ h1 : 1 < s.size, isD s[1] = true) :
    Calls Tryz.prog 157 #[.string s] w fun e w' => e = .returned (nextV (next s.data.toList)) /\ Ext w w' := by
  obtain ⟨n, hN⟩ : ∃ n, n = numN s.data.toList := ⟨_, rfl⟩
  have hle : n <= s.size := by rw [hN, size_len]; have := scan_le (okN s.data.toList) (s.data.toList.length - 1) 1; unfold numN; rw [size_len] at h0; omega
  have hx : next s.data.toList = if (parse (s.extract 0 n).data.toList).2 = 0 then (⟨3, [], (parse (s.extract 0 n).data.toList).1, 0⟩, n, 0) else (⟨0, [], 0, 0⟩, 0, (parse (s.extract 0 n).data.toList).2) := by
    unfold next; rw [if_neg (by omega), <- hN, extract_upto, if_pos]
    rcases hd with hd | ⟨hd, h45, h1, hd1⟩
    · rw [bt_at s 0 h0, hd]; rfl
    rw [bt_at s 0 h0, bt_at s 1 h1, hd1]
    have : (s[0] == 45) = true := by
      rw [beq_iff_eq] at h45 ⊢
      exact UInt8.toNat_inj.1 (by have e : (45 : UInt8).toNat = 45 := rfl; omega)
    rw [this, decide_eq_true (by rw [<- size_len]; exact h1)]; simp
  have hw := word_any s (by omega)
  rw [hn] at hw
  obtain ⟨v, c, hp⟩ : ∃ v c, parse (s.extract 0 n).data.toList = (v, c) := ⟨_, _, rfl⟩
  rw [hp] at hx
  have hsc : n = scan (okN s.data.toList) (s.size - 1) 1 := by rw [hN, size_len]; rfl
  have HW := Lib.hid hw; have HX := Lib.hid hx; have HP := Lib.hid hp; have HE := Lib.hid he; have HSC := Lib.hid hsc
  clear hw hx hN hp he hn hsc
  generalize next s.data.toList = NX at HX ⊢
  have hdig : ∀ (b : Bool) (k : Nat) (hk : k < s.size), isD s[k] = b -> ∀ w, Calls Tryz.prog 176 #[.int .u8 s[k].toNat] w fun e w' => e = .returned (.bool b) /\ w = w' := fun b k hk h w => by
    have := digit_any s[k] w; rw [h] at this; exact this
  have hlet : ∀ (b : Bool) (k : Nat) (hk : k < s.size), isL s[k] = b -> ∀ w, Calls Tryz.prog 175 #[.int .u8 s[k].toNat] w fun e w' => e = .returned (.bool b) /\ w = w' := fun b k hk h w => by
    have := letter_any s[k] w; rw [h] at this; exact this
  have HDG := Lib.hid hdig; have HLT := Lib.hid hlet
  clear hdig hlet
  rcases hd with hd | ⟨hd, h45, h1, hd1⟩
  · have HD := Lib.hid hd; clear hd
    go_enter Tryz.func157, Tryz.ntmps157
    go_wp2_with fail
    refine (HW.out _).mono ?_
    rintro e w1 ⟨rfl, rfl⟩
    go_wp2_with fail
    refine (HDG.out true 0 h0 HD.out _).mono ?_
    rintro e w1 ⟨rfl, rfl⟩
    go_wp2_with fail
    go_loop [7] (fun v' => ∃ k : Nat, 1 <= k /\ k <= s.size /\ Hid (n = scan (okN s.data.toList) (s.size - k) k) /\ v' = .int .i64 k) (fun v' => s.size - (RowKit.intOf v').toNat)
    case atStart => exact ⟨1, by omega, by omega, HSC, rfl⟩
    obtain ⟨k, hk1, hk, ha, rfl⟩ := hrel
    clear HSC
    by_cases hlt : k < s.size
    · have hst := ha.out
      rw [scan_step _ _ _ hlt] at hst
      have hok : okN s.data.toList k = (isL s[k] || isD s[k] || s[k] == 46) := by unfold okN; rw [bt_at s k hlt]
      rw [hok] at hst
      have HS := Lib.hid hst; clear hst hok ha
      by_cases c1 : isL s[k] = true
      · have HF : Hid (n = scan (okN s.data.toList) (s.size - (k + 1)) (k + 1)) := Lib.hid (by rw [HS.out, c1]; rfl)
        have HC1 := Lib.hid c1
        clear HS c1
        go_wp2_with fail
        refine (HLT.out true k hlt HC1.out _).mono ?_
        rintro e w1 ⟨rfl, rfl⟩
        go_wp2
        go_round
        case rel => exact ⟨k + 1, by omega, by omega, HF, by go_num⟩
        case measure => simp [RowKit.intOf]; omega
      have c1' : isL s[k] = false := by simpa using c1
      clear c1
      by_cases c2 : isD s[k] = true
      · have HF : Hid (n = scan (okN s.data.toList) (s.size - (k + 1)) (k + 1)) := Lib.hid (by rw [HS.out, c1', c2]; rfl)
        have HC1 := Lib.hid c1'; have HC2 := Lib.hid c2
        clear HS c1' c2
        go_wp2_with fail
        refine (HLT.out false k hlt HC1.out _).mono ?_
        rintro e w1 ⟨rfl, rfl⟩
        go_wp2_with fail
        refine (HDG.out true k hlt HC2.out _).mono ?_
        rintro e w1 ⟨rfl, rfl⟩
        go_wp2
        go_round
        case rel => exact ⟨k + 1, by omega, by omega, HF, by go_num⟩
        case measure => simp [RowKit.intOf]; omega
      have c2' : isD s[k] = false := by simpa using c2
      clear c2
      by_cases c3 : s[k] = 46
      · have HF : Hid (n = scan (okN s.data.toList) (s.size - (k + 1)) (k + 1)) := Lib.hid (by rw [HS.out, c1', c2', c3]; rfl)
        have b46 : ((s[k].toNat : Int) == 46) = true := by rw [c3]; rfl
        have HC1 := Lib.hid c1'; have HC2 := Lib.hid c2'
        clear HS c1' c2' c3
        go_wp2_with fail
        refine (HLT.out false k hlt HC1.out _).mono ?_
        rintro e w1 ⟨rfl, rfl⟩
        go_wp2_with fail
        refine (HDG.out false k hlt HC2.out _).mono ?_
        rintro e w1 ⟨rfl, rfl⟩
        go_wp2
        go_round
        case rel => exact ⟨k + 1, by omega, by omega, HF, by go_num⟩
        case measure => simp [RowKit.intOf]; omega
      have c3' : (s[k] == 46) = false := by simpa using c3
      have HF : Hid (n = k) := Lib.hid (by rw [HS.out, c1', c2', c3']; rfl)
      have b46 : ((s[k].toNat : Int) == 46) = false := by rw [beq_eq_false_iff_ne]; intro e; exact c3 (UInt8.toNat_inj.1 (by have e48 : (46 : UInt8).toNat = 46 := rfl; omega))
      have HC1 := Lib.hid c1'; have HC2 := Lib.hid c2'
      clear HS c1' c2' c3 c3'
      go_wp2_with fail
      refine (HLT.out false k hlt HC1.out _).mono ?_
      rintro e w1 ⟨rfl, rfl⟩
      go_wp2_with fail
      refine (HDG.out false k hlt HC2.out _).mono ?_
      rintro e w1 ⟨rfl, rfl⟩
      obtain rfl := HF.out
      go_wp2_with fail
      refine (parse_n (s.extract 0 n) v c _ (by rw [size_take s n hle]; omega) (HE.out.ext ((Ext.refl _).alloc _)) HP.out).mono ?_
      rintro e w1 ⟨rfl, x1⟩
      obtain ⟨⟨y0, y1, y2, y3⟩, z0, z1, z2, z3⟩ := cells4 (kept_alloc x1)
      have Y := fun a' b' c' d' => set4r (kept_alloc x1) a' b' c' d'
      by_cases hc : c = 0
      · subst hc
        have hf : Hid (NX = (⟨3, [], v, 0⟩, n, 0)) := Lib.hid (by rw [HX.out]; rfl)
        obtain ⟨u0, u1, u2, u3⟩ := Y (.int .i64 3) (.string ⟨#[]⟩) (.int .i64 v) (.int .i64 0)
        clear HX Y
        go_wp2
        try simp only [Exit.inBlock, Exit.then]
        refine bodyPost_ret (by simp [results, Tryz.results157, go_sem, u0, u1, u2, u3]; try rfl) rfl ?_
        exact ⟨ret_val (by rw [hf.out]; rfl), ext_set4 (((Ext.refl _).alloc _).trans x1) (Nat.le_refl _) _ _ _ _⟩
      have hf : Hid (NX = (⟨0, [], 0, 0⟩, 0, c)) := Lib.hid (by rw [HX.out]; exact if_neg hc)
      obtain ⟨u0, u1, u2, u3⟩ := Y (.int .i64 0) (.string ⟨#[]⟩) (.int .i64 0) (.int .i64 0)
      clear HX Y
      go_wp2
      try simp only [Exit.inBlock, Exit.then]
      refine bodyPost_ret (by simp [results, Tryz.results157, go_sem, u0, u1, u2, u3]; try rfl) rfl ?_
      exact ⟨ret_val (by rw [hf.out]; rfl), ext_set4 (((Ext.refl _).alloc _).trans x1) (Nat.le_refl _) _ _ _ _⟩
    have HF : Hid (n = k) := Lib.hid (by rw [ha.out, show s.size - k = 0 by omega]; rfl)
    clear ha
    obtain rfl := HF.out
    go_wp2_with fail
    refine (parse_n (s.extract 0 n) v c _ (by rw [size_take s n hle]; omega) (HE.out.ext ((Ext.refl _).alloc _)) HP.out).mono ?_
    rintro e w1 ⟨rfl, x1⟩
    obtain ⟨⟨y0, y1, y2, y3⟩, z0, z1, z2, z3⟩ := cells4 (kept_alloc x1)
    have Y := fun a' b' c' d' => set4r (kept_alloc x1) a' b' c' d'
    by_cases hc : c = 0
    · subst hc
      have hf : Hid (NX = (⟨3, [], v, 0⟩, n, 0)) := Lib.hid (by rw [HX.out]; rfl)
      obtain ⟨u0, u1, u2, u3⟩ := Y (.int .i64 3) (.string ⟨#[]⟩) (.int .i64 v) (.int .i64 0)
      clear HX Y
      go_wp2
      try simp only [Exit.inBlock, Exit.then]
      refine bodyPost_ret (by simp [results, Tryz.results157, go_sem, u0, u1, u2, u3]; try rfl) rfl ?_
      exact ⟨ret_val (by rw [hf.out]; rfl), ext_set4 (((Ext.refl _).alloc _).trans x1) (Nat.le_refl _) _ _ _ _⟩
    have hf : Hid (NX = (⟨0, [], 0, 0⟩, 0, c)) := Lib.hid (by rw [HX.out]; exact if_neg hc)
    obtain ⟨u0, u1, u2, u3⟩ := Y (.int .i64 0) (.string ⟨#[]⟩) (.int .i64 0) (.int .i64 0)
    clear HX Y
    go_wp2
    try simp only [Exit.inBlock, Exit.then]
    refine bodyPost_ret (by simp [results, Tryz.results157, go_sem, u0, u1, u2, u3]; try rfl) rfl ?_
    exact ⟨ret_val (by rw [hf.out]; rfl), ext_set4 (((Ext.refl _).alloc _).trans x1) (Nat.le_refl _) _ _ _ _⟩
  have HD := Lib.hid hd; have HD1 := Lib.hid hd1; clear hd hd1
  go_enter Tryz.func157, Tryz.ntmps157
  go_wp2_with fail
  refine (HW.out _).mono ?_
  rintro e w1 ⟨rfl, rfl⟩
  go_wp2_with fail
  refine (HDG.out false 0 h0 HD.out _).mono ?_
  rintro e w1 ⟨rfl, rfl⟩
  go_wp2_with fail
  refine (HDG.out true 1 h1 HD1.out _).mono ?_
  rintro e w1 ⟨rfl, rfl⟩
  go_wp2_with fail
  go_loop [7] (fun v' => ∃ k : Nat, 1 <= k /\ k <= s.size /\ Hid (n = scan (okN s.data.toList) (s.size - k) k) /\ v' = .int .i64 k) (fun v' => s.size - (RowKit.intOf v').toNat)
  case atStart => exact ⟨1, by omega, by omega, HSC, rfl⟩
  obtain ⟨k, hk1, hk, ha, rfl⟩ := hrel
  clear HSC
  by_cases hlt : k < s.size
  · have hst := ha.out
    rw [scan_step _ _ _ hlt] at hst
    have hok : okN s.data.toList k = (isL s[k] || isD s[k] || s[k] == 46) := by unfold okN; rw [bt_at s k hlt]
    rw [hok] at hst
    have HS := Lib.hid hst; clear hst hok ha
    by_cases c1 : isL s[k] = true
    · have HF : Hid (n = scan (okN s.data.toList) (s.size - (k + 1)) (k + 1)) := Lib.hid (by rw [HS.out, c1]; rfl)
      have HC1 := Lib.hid c1
      clear HS c1
      go_wp2_with fail
      refine (HLT.out true k hlt HC1.out _).mono ?_
      rintro e w1 ⟨rfl, rfl⟩
      go_wp2
      go_round
      case rel => exact ⟨k + 1, by omega, by omega, HF, by go_num⟩
      case measure => simp [RowKit.intOf]; omega
    have c1' : isL s[k] = false := by simpa using c1
    clear c1
    by_cases c2 : isD s[k] = true
    · have HF : Hid (n = scan (okN s.data.toList) (s.size - (k + 1)) (k + 1)) := Lib.hid (by rw [HS.out, c1', c2]; rfl)
      have HC1 := Lib.hid c1'; have HC2 := Lib.hid c2
      clear HS c1' c2
      go_wp2_with fail
      refine (HLT.out false k hlt HC1.out _).mono ?_
      rintro e w1 ⟨rfl, rfl⟩
      go_wp2_with fail
      refine (HDG.out true k hlt HC2.out _).mono ?_
      rintro e w1 ⟨rfl, rfl⟩
      go_wp2
      go_round
      case rel => exact ⟨k + 1, by omega, by omega, HF, by go_num⟩
      case measure => simp [RowKit.intOf]; omega
    have c2' : isD s[k] = false := by simpa using c2
    clear c2
    by_cases c3 : s[k] = 46
    · have HF : Hid (n = scan (okN s.data.toList) (s.size - (k + 1)) (k + 1)) := Lib.hid (by rw [HS.out, c1', c2', c3]; rfl)
      have b46 : ((s[k].toNat : Int) == 46) = true := by rw [c3]; rfl
      have HC1 := Lib.hid c1'; have HC2 := Lib.hid c2'
      clear HS c1' c2' c3
      go_wp2_with fail
      refine (HLT.out false k hlt HC1.out _).mono ?_
      rintro e w1 ⟨rfl, rfl⟩
      go_wp2_with fail
      refine (HDG.out false k hlt HC2.out _).mono ?_
      rintro e w1 ⟨rfl, rfl⟩
      go_wp2
      go_round
      case rel => exact ⟨k + 1, by omega, by omega, HF, by go_num⟩
      case measure => simp [RowKit.intOf]; omega
    have c3' : (s[k] == 46) = false := by simpa using c3
    have HF : Hid (n = k) := Lib.hid (by rw [HS.out, c1', c2', c3']; rfl)
    have b46 : ((s[k].toNat : Int) == 46) = false := by rw [beq_eq_false_iff_ne]; intro e; exact c3 (UInt8.toNat_inj.1 (by have e48 : (46 : UInt8).toNat = 46 := rfl; omega))
    have HC1 := Lib.hid c1'; have HC2 := Lib.hid c2'
    clear HS c1' c2' c3 c3'
    go_wp2_with fail
    refine (HLT.out false k hlt HC1.out _).mono ?_
    rintro e w1 ⟨rfl, rfl⟩
    go_wp2_with fail
    refine (HDG.out false k hlt HC2.out _).mono ?_
    rintro e w1 ⟨rfl, rfl⟩
    obtain rfl := HF.out
    go_wp2_with fail
    refine (parse_n (s.extract 0 n) v c _ (by rw [size_take s n hle]; omega) (HE.out.ext ((Ext.refl _).alloc _)) HP.out).mono ?_
    rintro e w1 ⟨rfl, x1⟩
    obtain ⟨⟨y0, y1, y2, y3⟩, z0, z1, z2, z3⟩ := cells4 (kept_alloc x1)
    have Y := fun a' b' c' d' => set4r (kept_alloc x1) a' b' c' d'
    by_cases hc : c = 0
    · subst hc
      have hf : Hid (NX = (⟨3, [], v, 0⟩, n, 0)) := Lib.hid (by rw [HX.out]; rfl)
      obtain ⟨u0, u1, u2, u3⟩ := Y (.int .i64 3) (.string ⟨#[]⟩) (.int .i64 v) (.int .i64 0)
      clear HX Y
      go_wp2
      try simp only [Exit.inBlock, Exit.then]
      refine bodyPost_ret (by simp [results, Tryz.results157, go_sem, u0, u1, u2, u3]; try rfl) rfl ?_
      exact ⟨ret_val (by rw [hf.out]; rfl), ext_set4 (((Ext.refl _).alloc _).trans x1) (Nat.le_refl _) _ _ _ _⟩
    have hf : Hid (NX = (⟨0, [], 0, 0⟩, 0, c)) := Lib.hid (by rw [HX.out]; exact if_neg hc)
    obtain ⟨u0, u1, u2, u3⟩ := Y (.int .i64 0) (.string ⟨#[]⟩) (.int .i64 0) (.int .i64 0)
    clear HX Y
    go_wp2
    try simp only [Exit.inBlock, Exit.then]
    refine bodyPost_ret (by simp [results, Tryz.results157, go_sem, u0, u1, u2, u3]; try rfl) rfl ?_
    exact ⟨ret_val (by rw [hf.out]; rfl), ext_set4 (((Ext.refl _).alloc _).trans x1) (Nat.le_refl _) _ _ _ _⟩
  have HF : Hid (n = k) := Lib.hid (by rw [ha.out, show s.size - k = 0 by omega]; rfl)
  clear ha
  obtain rfl := HF.out
  go_wp2_with fail
  refine (parse_n (s.extract 0 n) v c _ (by rw [size_take s n hle]; omega) (HE.out.ext ((Ext.refl _).alloc _)) HP.out).mono ?_
  rintro e w1 ⟨rfl, x1⟩
  obtain ⟨⟨y0, y1, y2, y3⟩, z0, z1, z2, z3⟩ := cells4 (kept_alloc x1)
  have Y := fun a' b' c' d' => set4r (kept_alloc x1) a' b' c' d'
  by_cases hc : c = 0
  · subst hc
    have hf : Hid (NX = (⟨3, [], v, 0⟩, n, 0)) := Lib.hid (by rw [HX.out]; rfl)
    obtain ⟨u0, u1, u2, u3⟩ := Y (.int .i64 3) (.string ⟨#[]⟩) (.int .i64 v) (.int .i64 0)
    clear HX Y
    go_wp2
    try simp only [Exit.inBlock, Exit.then]
    refine bodyPost_ret (by simp [results, Tryz.results157, go_sem, u0, u1, u2, u3]; try rfl) rfl ?_
    exact ⟨ret_val (by rw [hf.out]; rfl), ext_set4 (((Ext.refl _).alloc _).trans x1) (Nat.le_refl _) _ _ _ _⟩
  have hf : Hid (NX = (⟨0, [], 0, 0⟩, 0, c)) := Lib.hid (by rw [HX.out]; exact if_neg hc)
  obtain ⟨u0, u1, u2, u3⟩ := Y (.int .i64 0) (.string ⟨#[]⟩) (.int .i64 0) (.int .i64 0)
  clear HX Y
  go_wp2
  try simp only [Exit.inBlock, Exit.then]
  refine bodyPost_ret (by simp [results, Tryz.results157, go_sem, u0, u1, u2, u3]; try rfl) rfl ?_
  exact ⟨ret_val (by rw [hf.out]; rfl), ext_set4 (((Ext.refl _).alloc _).trans x1) (Nat.le_refl _) _ _ _ _⟩
end Go.Proofs.YtjaeedbjknejdaaGreatDoor.Lx
