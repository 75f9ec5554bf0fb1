/- Packed texts: AttJ, NorRow, NorBld, NorDoc -/
import Derived.Maps.Ext
import Derived.Maps.RangeWalk
import Derived.Maps.StringElems
import Derived.Lib.Bytealg
import Derived.Shelf.SlSortCmp.WholeK
import Derived.Test.YtnancphlkbfglaaGreatDoorPb14
import Derived.Test.YtnancphlkbfglaaGreatDoorPb06
import Derived.Test.YtnancphlkbfglaaGreatDoorPb13
set_option linter.unusedVariables false
set_option linter.unusedSimpArgs false
namespace Go.Proofs.YtnancphlkbfglaaGreatDoor.At
open Go.RowKit Go.Sort Go.Lib Go.Shelf Fx Lx
theorem lit_neK {a b : ByteArray} (h : a ≠ b) : (Lit.string a.data.toList) ≠ .string b.data.toList := fun e => h (by injection e with e; exact ByteArray.ext (Array.toList_inj.1 e))
def MapIs (D : DataW Value) (L : List Atr) : Prop := Go.Maps.IsMap D ∧ ∀ x : ByteArray, Go.Maps.has D (.string x.data.toList) = (getT L x).2 ∧ ((getT L x).2 = true → ∀ z, D.atKey (.string x.data.toList) z = .lit (.string (getT L x).1.data.toList))
theorem MapIs.nil : MapIs (.map [] : DataW Value) [] := ⟨Go.Maps.isMap_empty, fun x => ⟨rfl, fun h => by cases h⟩⟩
theorem MapIs.put {D : DataW Value} {L : List Atr} (h : MapIs D L) (k v : ByteArray) : MapIs (D.put (.string k.data.toList) (.lit (.string v.data.toList))) (L ++ [(k, v)]) := by
  refine ⟨h.1.put _ _, fun x => ?_⟩
  rw [getT_snoc]
  by_cases hx : k = x
  · subst hx
    rw [if_pos rfl]
    exact ⟨Go.Maps.has_put_same h.1 (key_lit _) _, fun _ z => Go.Maps.atKey_put_same h.1 (key_lit _) _ _⟩
  · rw [if_neg (show ¬ (k, v).1 = x from hx)]
    have hn := lit_neK (fun e : x = k => hx e.symm)
    rw [Go.Maps.has_put_other hn]
    refine ⟨(h.2 x).1, fun hg z => ?_⟩
    rw [Go.Maps.atKey_put_other hn]
    exact (h.2 x).2 hg z
def Coll (L : List Atr) (left : Lit → Bool) (O : List Atr) : Prop := (O.map Prod.fst).Nodup ∧ ∀ x v, (x, v) ∈ O ↔ getT L x = (v, true) ∧ left (.string x.data.toList) = false
theorem Coll.start {D : DataW Value} {L : List Atr} (h : MapIs D L) : Coll L (Go.Maps.has D) [] := ⟨by simp, fun x v => ⟨fun e => absurd e (by simp), fun ef => by obtain ⟨e, f⟩ := ef; rw [(h.2 x).1, e] at f; cases f⟩⟩
theorem Coll.step {D : DataW Value} {L : List Atr} {left : Lit → Bool} {O : List Atr} (h : Coll L left O) (hm : MapIs D L) (k c : ByteArray) (hk : left (.string k.data.toList) = true) (hat : ∀ z, D.atKey (.string k.data.toList) z = .lit (.string c.data.toList)) :
    Coll L (fun z => left z && !z.sameKey (.string k.data.toList)) (O ++ [(k, c)]) := by
  have hh := Go.Maps.has_true_of_atKey hat
  have hg := (hm.2 k).1
  rw [hh] at hg
  have hv := (hm.2 k).2 hg.symm (.lit (.string []))
  rw [hat] at hv
  have hc : (getT L k).1 = c := by
    injection hv with hv; injection hv with hv
    exact (ByteArray.ext (Array.toList_inj.1 hv)).symm
  have hgk : getT L k = (c, true) := by rw [← hc]; exact Prod.ext rfl hg.symm
  refine ⟨?_, fun x v => ?_⟩
  · rw [List.map_append, List.nodup_append]
    refine ⟨h.1, by simp, ?_⟩
    intro a ha b hb e
    have hb' : b = k := by simpa using hb
    subst hb'; subst e
    obtain ⟨p, hp, rfl⟩ := List.mem_map.1 ha
    have := ((h.2 p.1 p.2).1 hp).2
    rw [hk] at this; cases this
  · rw [List.mem_append, h.2]
    show _ ↔ _ ∧ (left (.string x.data.toList) && !(Lit.string x.data.toList).sameKey (.string k.data.toList)) = false
    by_cases hx : x = k
    · subst hx
      rw [hk, Go.WideAt.sameKey_self (key_lit _), hgk]
      simp [eq_comm]
    · rw [Go.Maps.sameKey_ne (lit_neK hx)]
      simp [hx]
theorem Coll.done {L : List Atr} {left : Lit → Bool} {O : List Atr} (h : Coll L left O) (hl : ∀ z, left z = false) : (O.map Prod.fst).Nodup ∧ ∀ x v, (x, v) ∈ O ↔ getT L x = (v, true) :=
  ⟨h.1, fun x v => by rw [h.2, hl]; simp⟩
theorem ltL_cmp : ∀ a b : List UInt8, decide (Lib.compareBytes a b < 0) = decide (a < b)
  | [], [] => by simp [Lib.compareBytes]
  | [], _ :: _ => by simp [Lib.compareBytes]
  | _ :: _, [] => by simp [Lib.compareBytes]
  | a :: x, b :: y => by
    have ih := ltL_cmp x y
    rw [Lib.compareBytes]
    by_cases h : a < b
    · simp [h, List.cons_lt_cons_iff]
    · by_cases h2 : b < a
      · have : a ≠ b := fun e => by subst e; exact h h2
        simp [h, h2, List.cons_lt_cons_iff, this]
      · have e : a = b := UInt8.le_antisymm (UInt8.not_lt.1 h2) (UInt8.not_lt.1 h)
        subst e
        simp [UInt8.lt_irrefl] at ih ⊢
        exact ih
def cmpA (p q : Atr) : Int := Lib.compareBytes p.1.data.toList q.1.data.toList
theorem cmpA_lt (p q : Atr) : Go.Proofs.ltOf cmpA p q = ltK p.1 q.1 := by
  unfold Go.Proofs.ltOf cmpA ltK; exact ltL_cmp _ _
theorem cmpA_swo : Go.Sort.SWO (Go.Proofs.ltOf cmpA) where
  irrefl x := by rw [cmpA_lt]; exact ltK_irrefl _
  trans x y z h k := by rw [cmpA_lt] at *; exact ltK_trans h k
  ntrans x y z h k := by
    rw [cmpA_lt] at *
    cases hz : ltK x.1 z.1
    · rfl
    · exfalso
      cases hy : ltK y.1 x.1
      · have e := ltK_tri h hy
        rw [e] at hz; rw [hz] at k; cases k
      · have := ltK_trans hy hz
        rw [this] at k; cases k
theorem sorted_mrg (L : List Atr) (O : List Atr) (d : Array Atr) (hO : (O.map Prod.fst).Nodup ∧ ∀ x v, (x, v) ∈ O ↔ getT L x = (v, true)) (hp : Go.Sort.PermIn 0 O.toArray.size O.toArray d) (hs : Go.Sort.SortedIn (Go.Proofs.ltOf cmpA) 0 O.toArray.size d) : d.toList = mrgT L := by
  have hsz : d.size = O.length := by have := hp.1; simpa using this
  have hperm : d.toList.Perm O := by
    have := hp.2.2
    have e1 : d.extract 0 O.toArray.size = d := by rw [show O.toArray.size = d.size by rw [hsz]; simp]; simp
    have e2 : O.toArray.extract 0 O.toArray.size = O.toArray := by simp
    rw [e1, e2] at this
    simpa using this
  have hnd : (d.toList.map Prod.fst).Nodup := (hperm.map Prod.fst).nodup_iff.2 hO.1
  refine mrgT_is L _ ?_ (fun x v => by rw [hperm.mem_iff]; exact hO.2 x v)
  unfold Asc
  rw [List.pairwise_iff_getElem]
  intro i j hi hj hij
  have hi' : i < d.size := by simpa using hi
  have hj' : j < d.size := by simpa using hj
  have h1 := hs i j (Nat.zero_le _) hij (by simp; omega)
  rw [cmpA_lt, getElem!_pos d i hi', getElem!_pos d j hj'] at h1
  have e1 : d.toList[i] = d[i] := by simp
  have e2 : d.toList[j] = d[j] := by simp
  rw [e1, e2]
  cases h2 : ltK d[i].1 d[j].1
  · exfalso
    have he := ltK_tri h2 h1
    have hn := List.pairwise_iff_getElem.1 hnd i j (by simpa using hi') (by simpa using hj') hij
    apply hn
    rw [List.getElem_map, List.getElem_map, e1, e2, he]
  · rfl
end Go.Proofs.YtnancphlkbfglaaGreatDoor.At
namespace Go.Proofs.YtnancphlkbfglaaGreatDoor.At
open Go.RowKit Go.Sort Go.Lib Go.Shelf Fx Lx
set_option maxHeartbeats 1000000 in
theorem clos_any (x y : Atr) (W : World) : Calls Tryz.prog 103 #[.agg #[.string x.1, .string x.2], .agg #[.string y.1, .string y.2]] W fun e w' => e = .returned (.int .i64 (cmpA x y)) ∧ ∃ q os', w' = grow (W.drewN q) os' := by
  have hcon := fun W' => Tryz.strings_Compare x.1 y.1 W'
  have e0 : Lib.compareBytes x.1.data.toList y.1.data.toList = cmpA x y := rfl
  rw [e0] at hcon
  generalize cmpA x y = r at hcon ⊢
  clear e0
  go_enter Tryz.func103, Tryz.ntmps103
  go_wp2_with (go_at_call 104; refine (hcon _).mono ?_; rintro e w' ⟨rfl, rfl⟩)
  go_ret
  exact ⟨rfl, 0, _, by rw [alloc_eq_grow, alloc_eq_grow, grow_grow]; rfl⟩
theorem clos_lays (blk off size : Nat) (w : World) : CmpLays Tryz.prog 103 #[] atrC 2 cmpA blk off size w :=
  fun _ _ _ _ x y => clos_any x y _
set_option maxHeartbeats 1000000 in
theorem ins_none (w : World) : Calls Tryz.prog 152 #[.slice none 0 0, .int .i64 0, .int .i64 0, .func (.func 103) #[] #[]] w fun e w' => e = .returned (.tuple #[]) ∧ w' = w := by
  go_enter Tryz.func152, Tryz.ntmps152
  go_wp2
  refine wp_loop_rounds 1 ?_
  rw [rounds_succ]
  go_wp2
  go_end0
  exact ⟨rfl, rfl⟩
set_option maxHeartbeats 1000000 in
theorem pdq_none (lim : Int) (w : World) : Calls Tryz.prog 135 #[.slice none 0 0, .int .i64 0, .int .i64 0, .int .i64 lim, .func (.func 103) #[] #[]] w fun e w' => e = .returned (.tuple #[]) ∧ w' = w := by
  go_enter Tryz.func135, Tryz.ntmps135
  go_wp2
  refine wp_loop_rounds 1 ?_
  rw [rounds_succ]
  go_wp2_with (go_at_call 152; refine (ins_none _).mono ?_; rintro e w' ⟨rfl, rfl⟩)
  (try simp only [Exit.inBlock, Exit.then]); refine bodyPost_ret (results_none rfl _ _ _) rfl ?_
  exact ⟨rfl, rfl⟩
set_option maxHeartbeats 1000000 in
theorem sort_none (w : World) : Calls Tryz.prog 102 #[.slice none 0 0, .func (.func 103) #[] #[]] w fun e w' => e = .returned (.tuple #[]) ∧ w' = w := by
  have hl := fun W => Tryz.bits_Len 0 W (by decide) (by decide)
  go_enter Tryz.func102, Tryz.ntmps102
  go_wp2_with (first | (go_at_call 136; refine (hl _).mono ?_; rintro e w' ⟨rfl, rfl⟩) | (go_at_call 135; refine (pdq_none _ _).mono ?_; rintro e w' ⟨rfl, rfl⟩))
  go_end0
  exact ⟨rfl, rfl⟩
theorem agg_atr (w : World) : (isAgg 109).run Tryz.prog w = .ok true w := by kernel_rfl
theorem size_atr (w : World) : (Go.sizeOf 109).run Tryz.prog w = .ok 2 w := by kernel_rfl
theorem holds_own {w : World} {B g cap : Nat} {O : List Atr} (h : w.ownsRow B 109 2 (.slice (some ⟨g, 0, none⟩) O.length cap) O.length (atrsC O)) : HoldsK atrC 2 w g 0 O.toArray ∧ g < w.heap.size := by
  obtain ⟨hl, h | ⟨g', cap', cur, hv, _, hg, _, _, hs, ht⟩⟩ := h
  · exact absurd h.1 (by simp)
  · injection hv with hv _ _; injection hv with hv; injection hv with hv _ _; subst hv
    refine ⟨fun t ht2 => ?_, (Array.getElem?_eq_some_iff.1 hg).1⟩
    rw [size_flatK] at ht2
    have ht3 : t < O.length * 2 := by simpa using ht2
    rw [get_flatK _ _ _ _ ht2]
    refine ⟨?_, by simp [World.frozen?, hg]⟩
    have h1 : (cur.toList.take (O.length * 2))[t]? = (atrsC O)[t]? := by rw [ht]
    rw [List.getElem?_take_of_lt ht3] at h1
    have hk : t / 2 < O.length := by omega
    have hat := atrsC_at O (t / 2) hk
    rw [Lib.cell_of_heap hg, Nat.zero_add, ← Array.getElem?_toList, h1]
    have e1 : O.toArray[t / 2]! = O[t / 2] := by simp [hk]
    rw [e1]
    rcases Nat.mod_two_eq_zero_or_one t with hm | hm
    · rw [hm]
      have ej : t = t / 2 * 2 := by omega
      have h2 := hat.1
      rw [← ej] at h2
      rw [h2]; rfl
    · rw [hm]
      have ej : t = t / 2 * 2 + 1 := by omega
      have h2 := hat.2
      rw [← ej] at h2
      rw [h2]; rfl
theorem sort_any (g cap B : Nat) (O : List Atr) (w : World) (hown : w.ownsRow B 109 2 (.slice (some ⟨g, 0, none⟩) O.length cap) O.length (atrsC O)) (hO : O.length ≤ 1000000) :
    Calls Tryz.prog 102 #[.slice (some ⟨g, 0, none⟩) O.length cap, .func (.func 103) #[] #[]] w fun e w' => e = .returned (.tuple #[]) ∧
      ∃ d : Array Atr, PermIn 0 O.toArray.size O.toArray d ∧ SortedIn (ltOf cmpA) 0 O.toArray.size d ∧ AtrIn w' (some ⟨g, 0, none⟩) d.toList ∧ w.grownBy w' (some g) ∧ ∃ cs, w'.heap[g]? = some (.cells cs 109 (0, 0)) := by
  have eg : ∀ args w, (callFunc 103 args).run Tryz.prog w = .ok (.enter 103 args) w := enters_of Tryz.func103 (by kernel_rfl) rfl
  obtain ⟨hH, hlt⟩ := holds_own hown
  have hcon := AnyQ.slices_SortFunc Tryz.sortAtr 2 agg_atr size_atr atrC (fun _ => rfl) (fun x v hv => by simp [atrC] at hv; rcases hv with rfl | rfl <;> rfl) cmpA cmpA_swo 103 #[] g 0 cap O.toArray w eg (clos_lays g 0 O.toArray.size w) hH hlt (by simp; omega)
  change Calls Tryz.prog 102 _ _ _ at hcon
  have hs : O.toArray.size = O.length := by simp
  rw [hs] at hcon ⊢
  refine hcon.mono ?_
  rintro e w' ⟨rfl, d, n, os, hp, hsd, rfl⟩
  have hty : ∃ cs, w.heap[g]? = some (.cells cs 109 (0, 0)) := by
    obtain ⟨_, h | ⟨g', cap', cur, hv, _, hg, _⟩⟩ := hown
    · exact absurd h.1 (by simp)
    · injection hv with hv _ _; injection hv with hv; injection hv with hv _ _; subst hv
      exact ⟨cur, hg⟩
  refine ⟨rfl, d, hp, hsd, ?_, ?_, ?_⟩
  · have hd : d.size = O.toArray.size := by have := hp.1; simpa using this
    have hh := SWK.holds (⟨n, os, rfl⟩ : SWK atrC 2 w g 0 d _) hlt hH hd
    intro k hk
    have hk' : k < d.size := by simpa using hk
    have c0 := (hh.cell (i := k) (c := 0) hk' (by decide)).1
    have c1 := (hh.cell (i := k) (c := 1) hk' (by decide)).1
    have e1 : d[k]! = d.toList[k] := by rw [getElem!_pos d k hk']; simp
    rw [e1] at c0 c1
    exact ⟨g, 0, rfl, c0, c1⟩
  · refine ⟨rfl, rfl, rfl, ?_, fun k hk hne => ?_⟩
    · unfold sortWorldK; rw [size_grow, size_putRowK]; show w.heap.size ≤ w.heap.size + _; omega
    · unfold sortWorldK
      rw [heap_grow_old _ _ (by rw [size_putRowK]; exact hk)]
      have : g ≠ k := fun e => hne (by rw [e])
      simp [putRowK, putRow, mapBlock, Sort.ahead, Array.getElem?_modify, this]
  · obtain ⟨cs, hcs⟩ := hty
    unfold sortWorldK
    rw [heap_grow_old _ _ (by rw [size_putRowK]; exact hlt)]
    have hcs' : w.heap[g]? = some (.cells cs 109 (0, 0)) := hcs
    have hlt' : g < w.heap.size := hlt
    refine ⟨putCells id 0 (flatK atrC 2 d) cs, ?_⟩
    simp [putRowK, putRow, mapBlock, Sort.ahead, Array.getElem?_modify, hcs', onCells]
end Go.Proofs.YtnancphlkbfglaaGreatDoor.At
namespace Go.Proofs.YtnancphlkbfglaaGreatDoor.At
open Go.RowKit Go.Sort Go.Lib Go.Shelf Fx Lx
theorem AtrIn.turn {RS : Value → Option (DataW Value × List MemPlace)} {w w' : World} {r : Option Addr} {L : List Atr} {mb n : Nat} {D : DataW Value} (h : AtrIn w r L) (ho : w.ownsMap Tryz.prog 9 RS mb n D) (hg : w.grownBy w' (some mb)) : AtrIn w' r L := fun k hk => by
  obtain ⟨g, o, ha, h0, h1⟩ := h k hk
  obtain ⟨es, clock, hb, _⟩ := ho
  have hne : some g ≠ some mb := fun e => by
    injection e with e
    obtain ⟨ob, hob, hc⟩ := cells_of_cell h0
    have hob' : w.heap[g]? = some ob := hob
    rw [e, hb] at hob'
    injection hob' with hob'
    subst hob'
    cases hc
  exact ⟨g, o, ha, hg.cell h0 hne, hg.cell h1 hne⟩
theorem mrg_nil (L : List Atr) (h : ∀ x v, (x, v) ∈ ([] : List Atr) ↔ getT L x = (v, true)) : mrgT L = [] := (mrgT_is L [] (by simp [Asc]) h).symm
theorem ranges_ne {RS : Value → Option (DataW Value × List MemPlace)} {w : World} {B : Nat} {v : Value} {n m : Nat} {xs : List Value} {mb rb : Nat} {D : DataW Value} {left : Lit → Bool} {cnt : Nat} (_ : w.ranges Tryz.prog 9 RS mb rb m D left cnt) (ho : w.ownsRow B 109 2 v n xs) (h1 : mb < B) (h2 : rb < B) : some mb ≠ v.ownBlock ∧ some rb ≠ v.ownBlock :=
  ⟨fun e => by have := (ho.lt mb e.symm).1; omega, fun e => by have := (ho.lt rb e.symm).1; omega⟩
set_option maxHeartbeats 4000000 in
set_option maxRecDepth 100000 in
theorem mrg0_any (a b : Option Addr) (La Lb : List Atr) (ca cb : Nat) (w : World) (ha : AtrIn w a La) (hb : AtrIn w b Lb) (hA : La.length ≤ 20000) (hB : Lb.length ≤ 20000)
    (hs : ∀ q ∈ La ++ Lb, q.1.size ≤ maxLen ∧ q.2.size ≤ maxLen) :
    Calls Tryz.prog 57 #[.slice a La.length ca, .slice b Lb.length cb] w fun e w' => AtrRes (mrgT (La ++ Lb)) e w' ∧ Ext w w' := by
  have hmm := @run_makeMap Tryz.prog
  have h0 := World.ownsMap_made w Tryz.prog 9 (plainElem (H := Value) Tryz.prog 9)
  obtain ⟨wm, hwm⟩ : ∃ wm, wm = w.alloc (.map #[] 0) := ⟨_, rfl⟩
  obtain ⟨wg, hwg⟩ : ∃ wg, wg = wm.alloc (.cells #[.slice a La.length ca, .slice b Lb.length cb] 54) := ⟨_, rfl⟩
  have hxm : Ext w wm := by rw [hwm]; exact (Ext.refl _).alloc _
  have hxg : Ext w wg := by rw [hwg]; exact hxm.alloc _
  have hmg : wg.ownsMap Tryz.prog 9 (plainElem (H := Value) Tryz.prog 9) w.heap.size 0 (.map []) := by rw [hwg, hwm]; exact h0.alloc _
  have hsm : wm.heap.size = w.heap.size + 1 := by rw [hwm]; simp
  have hbg : wg.heap[wm.heap.size]? = some (.cells #[.slice a La.length ca, .slice b Lb.length cb] 54 (0, 0)) := by rw [hwg]; exact World.alloc_heap_new _ _
  have hcat := concat_any (w.heap.size + 1) a b La Lb ca cb wg (by rw [← hsm]; exact two_cells hbg 0 _ rfl) (by rw [← hsm]; exact two_cells hbg 1 _ rfl) (ha.ext hxg) (hb.ext hxg) hA hB
  obtain ⟨L, hL⟩ : ∃ L, L = La ++ Lb := ⟨_, rfl⟩
  obtain ⟨N, hN⟩ : ∃ N, N = L.length := ⟨_, rfl⟩
  have hNb : N ≤ 40000 := by rw [hN, hL]; simp; omega
  have hwg' : wg = (w.alloc (.map #[] 0)).alloc (.cells #[.slice a La.length ca, .slice b Lb.length cb] 54) := by rw [hwg, hwm]
  rw [← hL] at hcat hs ⊢
  have HCAT := Lib.hid hcat; have HN := Lib.hid hN; have HS := Lib.hid hs; have HMG := Lib.hid hmg; have HXG := Lib.hid hxg; have HWG := Lib.hid hwg'
  obtain ⟨R, hR⟩ : ∃ R, R = mrgT L := ⟨_, rfl⟩
  have HR := Lib.hid hR
  rw [← hR]
  clear hcat hN hs hmg hxg hwg' hwg hwm h0 hxm hsm hbg ha hb hL hR
  generalize La.length = A at *
  generalize Lb.length = B at *
  obtain ⟨i0, hi, hz0, hz1, hz2⟩ := info_parts info_atr
  go_enter Tryz.func57, Tryz.ntmps57
  go_wp2_with fail
  rw [← HWG.out]
  refine HCAT.out.mono ?_
  rintro e wc ⟨⟨r, c, rfl, hri, -⟩, xc⟩
  rw [← HN.out]
  obtain ⟨mb, hmb⟩ : ∃ mb, mb = w.heap.size := ⟨_, rfl⟩
  have HMB := Lib.hid hmb
  have hmc : wc.ownsMap Tryz.prog 9 (plainElem (H := Value) Tryz.prog 9) mb 0 (.map []) := by
    obtain ⟨es, clock, hbk, hrest⟩ := HMG.out
    rw [hmb]
    exact ⟨es, clock, (xc.block _ HMG.out.lt).trans hbk, hrest⟩
  have HMC := Lib.hid hmc
  have HRI := Lib.hid hri
  have HXC := Lib.hid (HXG.out.trans xc)
  rw [← hmb]
  clear hmc hri xc hmb
  go_wp2_with fail
  go_loopw [17] (fun i' wr => ∃ (k n : Nat) (D : DataW Value), k ≤ N ∧ i' = .int .i64 k ∧ n ≤ k ∧ Hid (wr.ownsMap Tryz.prog 9 (plainElem (H := Value) Tryz.prog 9) mb n D) ∧ Hid (MapIs D (L.take k)) ∧ Hid (AtrIn wr r L) ∧ Ext w wr)
    (fun i' _ => N - (RowKit.intOf i').toNat)
  case atStart => exact ⟨0, 0, .map [], by omega, rfl, by omega, HMC, Lib.hid MapIs.nil, HRI, HXC.out⟩
  case round =>
    obtain ⟨k, n, D, hk, rfl, hn, hown, hmi, hin, hx⟩ := hrel
    clear HMC HRI HXC
    by_cases hlt : k < N
    · have hkl : k < L.length := by rw [← HN.out]; exact hlt
      obtain ⟨g, o, rfl, c0, c1⟩ := hin.out k hkl
      obtain ⟨hq1, hq2⟩ := HS.out _ (List.getElem_mem hkl)
      have hmi2 := hmi.out.put L[k].1 L[k].2
      rw [show L.take k ++ [(L[k].1, L[k].2)] = L.take (k + 1) by rw [List.take_succ_eq_append_getElem hkl]] at hmi2
      generalize L[k].1 = q1 at c0 hq1 hmi2
      generalize L[k].2 = q2 at c1 hq2 hmi2
      obtain ⟨w', r1, h1, g1⟩ := (hown.out.alloc (.cells #[.string q1, .string q2] 109)).update key9 Tryz.underlying153 (by unfold maxLen; omega) (key := .string q1) (val := .string q2) (Go.WideMaps.keyOf_string_mk Tryz.underlying9 hq1) (plainElem_string Tryz.underlying9 hq2)
      have x1 : Ext w w' := Below.grown (hx.alloc _) g1 (hx.alloc _).size (fun k hk => by injection hk with hk; have := HMB.out; omega)
      have hin1 : AtrIn w' (some ⟨g, o, none⟩) L := (hin.out.ext ((Ext.refl _).alloc _)).turn (hown.out.alloc _) g1
      have H1 := Lib.hid h1; have HI1 := Lib.hid hin1; have HM2 := Lib.hid hmi2
      clear h1 g1 hin1 hmi2 hown hmi hin hq1 hq2
      go_wp2
      go_roundw
      case rel => exact ⟨k + 1, n + 1, _, by omega, by go_num, by omega, H1, HM2, HI1, x1⟩
      case measure => simp [RowKit.intOf]; omega
    · have hkn : k = N := by omega
      subst hkn
      have hmi2 : MapIs D L := by
        have := hmi.out
        rwa [List.take_of_length_le (by rw [← HN.out]; exact Nat.le_refl _)] at this
      have HM := Lib.hid hmi2
      have HX := Lib.hid hx
      have hmlt : mb < wr.heap.size := hown.out.lt
      have hws : w.heap.size ≤ wr.heap.size := hx.size
      clear hmi hmi2 hin hx
      go_wp2_with (at_range; refine wpList_range_own _ rfl _ 153 rfl 9 9 key9 Tryz.underlying153 _ mb n D rfl hown.out ?_; intro w0 hrg0 hg0 hs0)
      go_frame
      obtain ⟨rb, hrb⟩ : ∃ rb, rb = wr.heap.size := ⟨_, rfl⟩
      have hx0 : Ext w w0 := Below.grown HX.out hg0 HX.out.size (fun k hk => by cases hk)
      have HX0 := Lib.hid hx0
      have HRG0 := Lib.hid hrg0
      obtain ⟨B0, hB0⟩ : ∃ B0, B0 = w0.heap.size := ⟨_, rfl⟩
      have HB0 := Lib.hid hB0
      have hbr : rb + 1 = B0 := by rw [hrb, hB0, hs0]
      have hmr : mb < rb := by rw [hrb]; exact hmlt
      have hwr : w.heap.size ≤ rb := by rw [hrb]; exact hws
      rw [← hrb] at HRG0
      rw [← hrb]
      clear hown HX hg0 hs0 hrb hx0 hrg0 hB0 hmlt hws
      go_loopw [8] (fun out wr => ∃ (left : Lit → Bool) (cnt : Nat) (O : List Atr), Hid (wr.ranges Tryz.prog 9 (plainElem (H := Value) Tryz.prog 9) mb rb n D left cnt) ∧ Hid (wr.ownsRow B0 109 2 out O.length (atrsC O)) ∧ Hid (Coll L left O) ∧ Ext w wr ∧ O.length + cnt ≤ n)
        (fun _ wr => wr.rangeLeft mb rb)
      case atStart => exact ⟨_, _, [], HRG0, Lib.hid (World.ownsRow_nil _ _ _ _), Lib.hid (Coll.start HM.out), HX0.out, by have := HRG0.out.owns.size_le; simpa using this⟩
      case round =>
        obtain ⟨left, cnt, O, hrg, hown, hco, hx, hcn⟩ := hrel
        clear HRG0 HX0
        go_wp2_with (at_next; refine wpList_next_ranges _ rfl _ rfl 9 key9 (plainElem (H := Value) Tryz.prog 9) Value.string Value.string (fun key kl hk => by obtain ⟨z, e, _, _⟩ := Go.WideMaps.string_of_keyOf Tryz.underlying9 hk; exact ⟨z, e⟩) (fun v y hv => by obtain ⟨z, e, _, _⟩ := plainElem_string_inv Tryz.underlying9 hv; exact ⟨z, e⟩) mb rb n D left cnt rfl hrg.out ?_ ?_)
        · intro _ hl
          have hcd := hco.out.done hl
          have HCD := Lib.hid hcd
          have hOl : O.length ≤ 1000000 := by omega
          rcases hown.out.2 with ⟨rfl, hO0⟩ | ⟨g, cap, cur, rfl, hgB, _⟩
          · have hO : O = [] := List.eq_nil_of_length_eq_zero hO0
            subst hO
            have hm : R = [] := by rw [HR.out]; exact mrg_nil L hcd.2
            have HM2 := Lib.hid hm
            clear hcd hl hm hown hco hrg hO0 hcn hOl
            go_wp2_with (go_at_call 102; refine (sort_none _).mono ?_; rintro e w' ⟨rfl, rfl⟩)
            go_returns
            rw [HM2.out]
            exact ⟨⟨none, 0, rfl, fun k h => absurd h (by simp), NzA.none _⟩, hx⟩
          · have hso := sort_any g cap B0 O wr hown.out hOl
            have HSO := Lib.hid hso
            have hsz := hx.size
            have hb0 := HB0.out
            clear hcd hl hown hco hrg hcn hOl hso
            go_wp2_with (go_at_call 102; refine HSO.out.mono ?_; rintro e w' ⟨rfl, d, hp, hsd, hin2, hg2, hty2⟩; have HTY := Lib.hid hty2; clear hty2; have HP := Lib.hid hp; have HSD := Lib.hid hsd; have HIN2 := Lib.hid hin2; clear hp hsd hin2)
            go_returns
            have hd := sorted_mrg L O d HCD.out HP.out HSD.out
            have hdl : O.length = R.length := by
              rw [HR.out, ← hd]; have := HP.out.1; simpa using this.symm
            refine ⟨⟨some ⟨g, 0, none⟩, cap, by rw [hdl]; rfl, ?_, ⟨fun e => (by cases e), fun q e => by cases e; exact HTY.out⟩⟩, Below.grown hx hg2 hx.size (fun k hk => by injection hk with hk; omega)⟩
            rw [HR.out, ← hd]; exact HIN2.out
        · intro x c kl y1 y2 w1 cnt1 hkey hlk hR hat hrg1 hlt1 hg1 hs1 hen
          obtain ⟨z, e, rfl, hxs⟩ := Go.WideMaps.string_of_keyOf Tryz.underlying9 hkey
          injection e with e
          subst e
          obtain ⟨z2, e, e2, hcs⟩ := plainElem_string_inv Tryz.underlying9 hR
          injection e with e
          subst e
          injection e2 with e2 e3
          subst e2
          subst e3
          have hco2 := hco.out.step HM.out x c hlk hat
          have hne := ranges_ne hrg.out hown.out (show mb < B0 by omega) (show rb < B0 by omega)
          have own1 := hown.out.kept hg1 (.inr hne.2.symm)
          have x1 : Ext w w1 := Below.grown hx hg1 hx.size (fun k hk => by injection hk with hk; omega)
          have OWN1 := Lib.hid own1; have HCO2 := Lib.hid hco2; have HRG1 := Lib.hid hrg1; have X1 := Lib.hid x1; have HNE := Lib.hid hne
          have hs1' : B0 ≤ w1.heap.size := by have := hrg.out.lt; have := HB0.out; have := hx.size; omega
          clear hkey hlk hR hat hg1 own1 hco2 hco hown hrg1 x1 hne
          go_wp2_with (at_builtin; refine wpList_append_lies _ rfl _ _ 54 rfl B0 109 i0 _ 2 32 Tryz.underlying54 hi hz0 hz1 hz2 rfl (by decide) _ _ _ rfl (OWN1.out.alloc _) _ 1 1 (atrC (x, c)) rfl rfl ?c1 ?c2 (by decide) ?c3 ?c4 ?c5 _ rfl ?_)
          case c1 => exact fun j u hj => by have h := cell_new1 w1 (atrC (x, c)) 109 j u hj; rw [hs1] at h; exact h
          case c2 => intro u hu; simp [atrC] at hu; rcases hu with rfl | rfl <;> rfl
          case c3 => unfold maxLen; omega
          case c4 => omega
          case c5 => simp; omega
          intro g2 cap2 w2 hown' hgrow _ _
          have hrg2 := (HRG1.out.alloc (.cells #[.string x, .string c] 109)).kept hgrow HNE.out.1 HNE.out.2
          have hx2 : Ext w w2 := own_grow (X1.out.alloc _) (OWN1.out.alloc _) (by omega) hgrow
          have hown2 : w2.ownsRow B0 109 2 (.slice (some ⟨g2, 0, none⟩) (O.length + 1) cap2) (O ++ [(x, c)]).length (atrsC (O ++ [(x, c)])) := by rw [atrsC_snoc, List.length_append]; exact hown'
          have HRG2 := Lib.hid hrg2; have HOWN2 := Lib.hid hown2; have HX2 := Lib.hid hx2
          clear hrg2 hown2 hx2 hown' hgrow
          go_wp2
          go_roundw
          case rel => exact ⟨_, cnt1, O ++ [(x, c)], HRG2, HOWN2, HCO2, HX2.out, by simp; omega⟩
          case measure => rw [HRG2.out.left_eq, hrg.out.left_eq]; omega
end Go.Proofs.YtnancphlkbfglaaGreatDoor.At

namespace Go.Proofs.YtnancphlkbfglaaGreatDoor.Nm
open Go.RowKit Go.Sort Go.Lib Fx Lx Tr At
def tyO : Obj → Option TypeId
  | .cells _ T _ => some T
  | _ => none
def TyOf (w : World) (row : Option Nat) (t : Option TypeId) : Prop := ∀ g, row = some g → ∃ o, w.heap[g]? = some o ∧ tyO o = t
theorem blk_keep {w w' : World} {row : Option Nat} {t : Option TypeId} {b : Nat} {o : Obj} (h : w.heap[b]? = some o) (hg : w.grownBy w' row) (ht : TyOf w row t) (hne : tyO o ≠ t) : w'.heap[b]? = some o :=
  (hg.block b (Array.getElem?_eq_some_iff.1 h).1 (fun e => by
    obtain ⟨o', h1, h2⟩ := ht b e.symm
    rw [h] at h1
    injection h1 with h1
    subst h1
    exact hne h2)).trans h
theorem cel_keep {w w' : World} {row : Option Nat} {t : Option TypeId} {b : Nat} {cs : Array Value} {T : TypeId} {fl : Nat × Nat} (h : w.heap[b]? = some (.cells cs T fl)) (hg : w.grownBy w' row) (ht : TyOf w row t) (hne : some T ≠ t) : w'.heap[b]? = some (.cells cs T fl) := blk_keep h hg ht hne
theorem cel_ty {w : World} {b : Nat} {cs : Array Value} {T : TypeId} {fl : Nat × Nat} (h : w.heap[b]? = some (.cells cs T fl)) : TyOf w (some b) (some T) := fun g hg => by
  injection hg with hg
  subst hg
  exact ⟨_, h, rfl⟩
theorem row_ty {w : World} {B : Nat} {T : TypeId} {sz : Nat} {v : Value} {n : Nat} {xs : List Value} (h : w.ownsRow B T sz v n xs) : TyOf w v.ownBlock (some T) := fun g hg => by
  rcases h.2 with ⟨rfl, _⟩ | ⟨g', cap, cur, rfl, _, hc, _⟩
  · cases hg
  · injection hg with hg
    subst hg
    exact ⟨_, hc, rfl⟩
theorem row_val {w : World} {B : Nat} {T : TypeId} {sz : Nat} {v : Value} {n : Nat} {xs : List Value} (h : w.ownsRow B T sz v n xs) : ∃ a c, v = .slice a n c ∧ n ≤ c ∧ c ≤ maxLen := by
  rcases h.2 with ⟨rfl, rfl⟩ | ⟨g', cap, cur, rfl, _, _, h1, h2, _⟩
  · exact ⟨_, _, rfl, Nat.le_refl _, Nat.zero_le _⟩
  · exact ⟨_, _, rfl, h1, h2⟩
theorem row_keep {w w' : World} {row : Option Nat} {t : Option TypeId} {B : Nat} {T : TypeId} {sz : Nat} {v : Value} {n : Nat} {xs : List Value} (h : w.ownsRow B T sz v n xs) (hg : w.grownBy w' row) (ht : TyOf w row t) (hne : some T ≠ t) : w'.ownsRow B T sz v n xs := by
  refine ⟨h.1, ?_⟩
  rcases h.2 with h1 | ⟨g, cap, cur, hv, hb, hc, r⟩
  · exact .inl h1
  · exact .inr ⟨g, cap, cur, hv, hb, blk_keep hc hg ht hne, r⟩
theorem map_ty {w : World} {b n : Nat} {D : DataW Value} (h : w.ownsMap Tryz.prog 9 RH b n D) : TyOf w (some b) none := fun g hg => by
  injection hg with hg
  subst hg
  obtain ⟨es, clock, hb, _⟩ := h
  exact ⟨_, hb, rfl⟩
theorem map_keep {w w' : World} {row : Option Nat} {T : TypeId} {b n : Nat} {D : DataW Value} (h : w.ownsMap Tryz.prog 9 RH b n D) (hg : w.grownBy w' row) (ht : TyOf w row (some T)) : w'.ownsMap Tryz.prog 9 RH b n D := by
  obtain ⟨es, clock, hb, r⟩ := h
  exact ⟨es, clock, blk_keep hb hg ht (by simp [tyO]), r⟩
theorem map_ext {w w' : World} {b n : Nat} {D : DataW Value} (h : w.ownsMap Tryz.prog 9 RH b n D) (x : Ext w w') : w'.ownsMap Tryz.prog 9 RH b n D := by
  obtain ⟨es, clock, hb, r⟩ := h
  exact ⟨es, clock, At.heap_ext hb x, r⟩
theorem set_grown (w : World) (b j : Nat) (u : Value) : w.grownBy (w.setCell ⟨b, j, none⟩ u) (some b) :=
  ⟨rfl, rfl, rfl, by simp [World.setCell], fun k _ hk => Below.heap_setCell _ _ _ _ (fun e => hk (by rw [e]))⟩
theorem blk_set {w : World} {B : Nat} {cs : Array Value} {T : TypeId} (h : w.heap[B]? = some (.cells cs T (0, 0))) (i : Nat) (v : Value) :
    (w.setCell ⟨B, i, none⟩ v).heap[B]? = some (.cells (cs.setIfInBounds i v) T (0, 0)) := by
  unfold World.setCell
  simp [Array.getElem?_modify, h]
theorem row_set {w : World} {B : Nat} {T : TypeId} {sz g n c : Nat} {xs : List Value} (h : w.ownsRow B T sz (.slice (some ⟨g, 0, none⟩) n c) n xs) (j : Nat) (hj : j < xs.length) (u : Value) : (w.setCell ⟨g, j, none⟩ u).ownsRow B T sz (.slice (some ⟨g, 0, none⟩) n c) n (xs.set j u) := by
  refine ⟨by rw [List.length_set]; exact h.1, .inr ?_⟩
  rcases h.2 with ⟨h1, _⟩ | ⟨g', cap, cur, hv, hb, hc, h1, h2, h3, h4⟩
  · cases h1
  · injection hv with hv _ hv2
    injection hv with hv
    injection hv with hv
    subst hv; subst hv2
    refine ⟨g, c, cur.setIfInBounds j u, rfl, hb, blk_set hc j u, h1, h2, by simpa using h3, ?_⟩
    rw [← h4]
    simp [List.take_set]
theorem fm_len {α : Type} {f : α → List Value} {s : Nat} (hf : ∀ x, (f x).length = s) : ∀ L : List α, (L.flatMap f).length = L.length * s
  | [] => by simp
  | x :: r => by rw [List.flatMap_cons, List.length_append, hf, fm_len hf r, List.length_cons, Nat.succ_mul]; omega
theorem fm_get {α : Type} {f : α → List Value} {s : Nat} (hf : ∀ x, (f x).length = s) : ∀ (L : List α) (k : Nat) (h : k < L.length) (j : Nat), j < s → (L.flatMap f)[k * s + j]? = (f L[k])[j]?
  | [], k, h, _, _ => absurd h (by simp)
  | x :: r, 0, _, j, hj => by
    rw [List.flatMap_cons, Nat.zero_mul, Nat.zero_add, List.getElem?_append_left (by rw [hf]; exact hj)]; rfl
  | x :: r, k + 1, h, j, hj => by
    rw [List.flatMap_cons, Nat.succ_mul, List.getElem?_append_right (by rw [hf]; omega), hf, show k * s + s + j - s = k * s + j by omega]
    exact fm_get hf r k (by simpa using h) j hj
theorem fm_set {α : Type} {f : α → List Value} {s : Nat} (hf : ∀ x, (f x).length = s) : ∀ (L : List α) (k : Nat) (h : k < L.length) (j : Nat) (_ : j < s) (u : Value) (y : α), f y = (f L[k]).set j u → (L.flatMap f).set (k * s + j) u = (L.set k y).flatMap f
  | [], k, h, _, _, _, _, _ => absurd h (by simp)
  | x :: r, 0, _, j, hj, u, y, hy => by
    simp only [List.getElem_cons_zero] at hy
    rw [List.set_cons_zero, List.flatMap_cons, List.flatMap_cons, hy, Nat.zero_mul, Nat.zero_add, List.set_append_left _ _ (by rw [hf]; exact hj)]
  | x :: r, k + 1, h, j, hj, u, y, hy => by
    rw [List.set_cons_succ, List.flatMap_cons, List.flatMap_cons, Nat.succ_mul, List.set_append_right _ _ (by rw [hf]; omega), hf, show k * s + s + j - s = k * s + j by omega]
    rw [fm_set hf r k (by simpa using h) j hj u y (by simpa using hy)]
def ndC (q : ByteArray × Int) : List Value := [.string q.1, .string ⟨#[]⟩, .int .i64 0, .int .i64 0, .int .i64 q.2, .slice none 0 0]
def clC (q : ByteArray × Int) : List Value := [.string q.1, .int .i64 q.2]
def ndsC (L : List (ByteArray × Int)) : List Value := L.flatMap ndC
def clsC (L : List (ByteArray × Int)) : List Value := L.flatMap clC
theorem ndsC_snoc (L : List (ByteArray × Int)) (q : ByteArray × Int) : ndsC (L ++ [q]) = ndsC L ++ ndC q := by unfold ndsC; simp
theorem clsC_snoc (L : List (ByteArray × Int)) (q : ByteArray × Int) : clsC (L ++ [q]) = clsC L ++ clC q := by unfold clsC; simp
theorem add0 (g j : Nat) : (⟨g, 0, none⟩ : Addr).add j = ⟨g, j, none⟩ := by
  simp [Addr.add]; exact fun h => h.symm
def AtL (w : World) (v : Value) (L : List Two) : Prop := ∃ p c, v = .slice p L.length c ∧ AtrIn w p L ∧ NzA w p c
theorem AtL.ext {w w' : World} {v : Value} {L : List Two} (h : AtL w v L) (x : Ext w w') : AtL w' v L := by
  obtain ⟨p, c, h1, h2, h3⟩ := h
  exact ⟨p, c, h1, h2.ext x, h3.ext x⟩
theorem AtL.nil (w : World) : AtL w (.slice none 0 0) [] := ⟨none, 0, rfl, fun k hk => absurd hk (by simp), NzA.none w⟩
theorem AtL.keep {w w' : World} {row : Option Nat} {t : Option TypeId} {v : Value} {L : List Two} (h : AtL w v L) (hg : w.grownBy w' row) (ht : TyOf w row t) (hne : some 109 ≠ t) : AtL w' v L := by
  obtain ⟨p, c, h1, h2, h3⟩ := h
  refine ⟨p, c, h1, fun k hk => ?_, h3.1, fun q e => ?_⟩
  · obtain ⟨g, o, ha, c0, c1⟩ := h2 k hk
    obtain ⟨cs, hb⟩ := h3.2 _ ha
    have hb' := blk_keep hb hg ht hne
    refine ⟨g, o, ha, ?_, ?_⟩
    · rw [Lib.cell_of_heap hb']; rw [Lib.cell_of_heap hb] at c0; exact c0
    · rw [Lib.cell_of_heap hb']; rw [Lib.cell_of_heap hb] at c1; exact c1
  · obtain ⟨cs, hb⟩ := h3.2 q e
    exact ⟨cs, blk_keep hb hg ht hne⟩
def AtLs (w : World) (aw : List Value) (A : List (List Two)) : Prop := aw.length = A.length ∧ ∀ (i : Nat) (v : Value) (L : List Two), aw[i]? = some v → A[i]? = some L → AtL w v L
theorem AtLs.ext {w w' : World} {aw : List Value} {A : List (List Two)} (h : AtLs w aw A) (x : Ext w w') : AtLs w' aw A := ⟨h.1, fun i v L h1 h2 => (h.2 i v L h1 h2).ext x⟩
theorem AtLs.keep {w w' : World} {row : Option Nat} {t : Option TypeId} {aw : List Value} {A : List (List Two)} (h : AtLs w aw A) (hg : w.grownBy w' row) (ht : TyOf w row t) (hne : some 109 ≠ t) : AtLs w' aw A := ⟨h.1, fun i v L h1 h2 => (h.2 i v L h1 h2).keep hg ht hne⟩
theorem AtLs.nil (w : World) : AtLs w [] [] := ⟨rfl, fun i v L h => by simp at h⟩
theorem AtLs.snoc {w : World} {aw : List Value} {A : List (List Two)} (h : AtLs w aw A) {v : Value} {L : List Two} (hv : AtL w v L) : AtLs w (aw ++ [v]) (A ++ [L]) := by
  refine ⟨by simp [h.1], fun i u M h1 h2 => ?_⟩
  rcases Nat.lt_or_ge i aw.length with hi | hi
  · rw [List.getElem?_append_left hi] at h1
    rw [List.getElem?_append_left (by rw [← h.1]; exact hi)] at h2
    exact h.2 i u M h1 h2
  · have e : i = aw.length := by
      have := (List.getElem?_eq_some_iff.1 h1).1
      simp at this; omega
    subst e
    rw [List.getElem?_append_right (Nat.le_refl _), Nat.sub_self] at h1
    rw [h.1, List.getElem?_append_right (Nat.le_refl _), Nat.sub_self] at h2
    injection h1 with h1; injection h2 with h2
    subst h1; subst h2
    exact hv
theorem AtLs.set {w : World} {aw : List Value} {A : List (List Two)} (h : AtLs w aw A) (i : Nat) {v : Value} {L : List Two} (hv : AtL w v L) : AtLs w (aw.set i v) (A.set i L) := by
  refine ⟨by simp [h.1], fun j u M h1 h2 => ?_⟩
  by_cases e : i = j
  · subst e
    have hl := (List.getElem?_eq_some_iff.1 h1).1
    have hl2 := (List.getElem?_eq_some_iff.1 h2).1
    rw [List.length_set] at hl hl2
    rw [List.getElem?_set_self hl] at h1
    rw [List.getElem?_set_self hl2] at h2
    injection h1 with h1; injection h2 with h2
    subst h1; subst h2
    exact hv
  · rw [List.getElem?_set_ne e] at h1
    rw [List.getElem?_set_ne e] at h2
    exact h.2 j u M h1 h2
theorem AtLs.at {w : World} {aw : List Value} {A : List (List Two)} (h : AtLs w aw A) {i : Nat} (hi : i < A.length) : ∃ p c, aw[i]? = some (.slice p A[i].length c) ∧ AtrIn w p A[i] ∧ NzA w p c := by
  have hi' : i < aw.length := by rw [h.1]; exact hi
  obtain ⟨p, c, h1, h2, h3⟩ := h.2 i aw[i] A[i] (List.getElem?_eq_getElem hi') (List.getElem?_eq_getElem hi)
  exact ⟨p, c, by rw [List.getElem?_eq_getElem hi', h1], h2, h3⟩
theorem idxGo_snoc (x n : ByteArray) (c : Int) : ∀ (L : List (ByteArray × Int)) (k : Nat), idxGo x k (L ++ [(n, c)]) = match idxGo x k L with | some v => some v | none => if n = x then some (k + L.length) else none
  | [], k => by simp [idxGo]
  | q :: r, k => by
    rw [List.cons_append]
    unfold idxGo
    by_cases h : q.1 = x
    · rw [if_pos h, if_pos h]
    · rw [if_neg h, if_neg h, idxGo_snoc x n c r (k + 1), List.length_cons, show k + 1 + r.length = k + (r.length + 1) by omega]
def IdxD (D : DataW Value) (N : List (ByteArray × Int)) : Prop := Go.Maps.IsMap D ∧ ∀ x : ByteArray, Go.Maps.has D (.string x.data.toList) = (idxGo x 0 N).isSome ∧ D.atKey (.string x.data.toList) (.held (.int .i64 0)) = .held (.int .i64 ((idxGo x 0 N).getD 0))
theorem IdxD.nil : IdxD (.map []) [] := ⟨Go.Maps.isMap_empty, fun _ => ⟨rfl, rfl⟩⟩
theorem IdxD.put {D : DataW Value} {N : List (ByteArray × Int)} (h : IdxD D N) {n : ByteArray} (c : Int) (hn : idxGo n 0 N = none) : IdxD (D.put (.string n.data.toList) (.held (.int .i64 N.length))) (N ++ [(n, c)]) := by
  refine ⟨h.1.put _ _, fun x => ?_⟩
  rw [idxGo_snoc]
  by_cases hx : n = x
  · subst hx
    rw [hn, Go.Maps.has_put_same h.1 (key_lit _), Go.Maps.atKey_put_same h.1 (key_lit _)]
    simp
  · have hne := lit_neK (fun e : x = n => hx e.symm)
    rw [Go.Maps.has_put_other hne, Go.Maps.atKey_put_other hne, if_neg hx, (h.2 x).1, (h.2 x).2]
    cases idxGo x 0 N <;> exact ⟨rfl, rfl⟩
def TakD (D : DataW Value) (C : List (ByteArray × Int)) : Prop := Go.Maps.IsMap D ∧ ∀ x : ByteArray, D.atKey (.string x.data.toList) (.held (.bool false)) = .held (.bool (C.any fun q => decide (q.1 = x)))
theorem TakD.nil : TakD (.map []) [] := ⟨Go.Maps.isMap_empty, fun _ => rfl⟩
theorem TakD.put {D : DataW Value} {C : List (ByteArray × Int)} (h : TakD D C) (n : ByteArray) (c : Int) : TakD (D.put (.string n.data.toList) (.held (.bool true))) (C ++ [(n, c)]) := by
  refine ⟨h.1.put _ _, fun x => ?_⟩
  rw [List.any_append]
  by_cases hx : n = x
  · subst hx
    rw [Go.Maps.atKey_put_same h.1 (key_lit _)]
    simp
  · have hne := lit_neK (fun e : x = n => hx e.symm)
    rw [Go.Maps.atKey_put_other hne, h.2 x]
    simp [hx]
end Go.Proofs.YtnancphlkbfglaaGreatDoor.Nm

namespace Go.Proofs.YtnancphlkbfglaaGreatDoor.Nm
open Go.RowKit Go.Sort Go.Lib Fx Lx Tr At
def lkC (x : Lk × Value) : List Value := [.int .i64 x.1.a, .string x.1.ap, .int .i64 x.1.b, .string x.1.bp, x.2]
def lksC (L : List (Lk × Value)) : List Value := L.flatMap lkC
theorem lksC_snoc (L : List (Lk × Value)) (q : Lk × Value) : lksC (L ++ [q]) = lksC L ++ lkC q := by unfold lksC; simp
structure Bld (w0 : World) (bb m1 m2 B : Nat) (w : World) (nv av cv lv : Value) (aw : List Value) (ks : List (Lk × Value)) (S : St) (I T : List (ByteArray × Int)) : Prop where
  blk : w.heap[bb]? = some (.cells #[nv, av, .map (some m1), cv, .map (some m2), lv] 68 (0, 0))
  N : w.ownsRow B 40 6 nv S.N.length (ndsC S.N)
  A : w.ownsRow B 54 1 av S.A.length aw
  C : w.ownsRow B 42 2 cv S.C.length (clsC S.C)
  K : w.ownsRow B 82 5 lv S.K.length (lksC ks)
  At : AtLs w aw S.A
  Kl : ks.map Prod.fst = S.K
  Kt : AtLs w (ks.map Prod.snd) (S.K.map Lk.at')
  M1 : ∃ n D, w.ownsMap Tryz.prog 9 RH m1 n D ∧ n ≤ I.length ∧ IdxD D I
  M2 : ∃ n D, w.ownsMap Tryz.prog 9 RH m2 n D ∧ n ≤ T.length ∧ TakD D T
  X : Ext w0 w
  Z : B ≤ w.heap.size
  lo : w0.heap.size ≤ bb ∧ w0.heap.size ≤ m1 ∧ w0.heap.size ≤ m2 ∧ bb < B ∧ m1 < B ∧ m2 < B ∧ m1 ≠ m2
variable {w0 w w2 : World} {bb m1 m2 B : Nat} {nv av cv lv : Value} {aw : List Value} {ks : List (Lk × Value)} {S : St} {I T : List (ByteArray × Int)}
theorem Bld.ext (h : Bld w0 bb m1 m2 B w nv av cv lv aw ks S I T) (x : Ext w w2) : Bld w0 bb m1 m2 B w2 nv av cv lv aw ks S I T := by
  obtain ⟨n1, D1, h1, h1n, h1d⟩ := h.M1
  obtain ⟨n2, D2, h2, h2n, h2d⟩ := h.M2
  exact ⟨At.heap_ext h.blk x, At.own_ext h.N x, At.own_ext h.A x, At.own_ext h.C x, At.own_ext h.K x, h.At.ext x, h.Kl, h.Kt.ext x, ⟨n1, D1, map_ext h1 x, h1n, h1d⟩, ⟨n2, D2, map_ext h2 x, h2n, h2d⟩, h.X.trans x, Nat.le_trans h.Z x.size, h.lo⟩
theorem Bld.cells (h : Bld w0 bb m1 m2 B w nv av cv lv aw ks S I T) : w.cell? ⟨bb, 0, none⟩ = some nv ∧ w.cell? ⟨bb, 1, none⟩ = some av ∧ w.cell? ⟨bb, 2, none⟩ = some (.map (some m1)) ∧ w.cell? ⟨bb, 3, none⟩ = some cv ∧ w.cell? ⟨bb, 4, none⟩ = some (.map (some m2)) ∧ w.cell? ⟨bb, 5, none⟩ = some lv := by
  refine ⟨?_, ?_, ?_, ?_, ?_, ?_⟩ <;> (rw [Lib.cell_of_heap h.blk]; rfl)
theorem Bld.fz (h : Bld w0 bb m1 m2 B w nv av cv lv aw ks S I T) (j : Nat) : w.frozen? ⟨bb, j, none⟩ = false := Lib.frozen_of_heap h.blk j
structure KeepB (w w' : World) : Prop where
  size : w.heap.size ≤ w'.heap.size
  blk : ∀ (k : Nat) (cs : Array Value) (E : TypeId) (fl : Nat × Nat), w.heap[k]? = some (.cells cs E fl) → E ≠ 68 → E ≠ 40 → E ≠ 54 → E ≠ 42 → E ≠ 82 → w'.heap[k]? = some (.cells cs E fl)
theorem KeepB.refl (w : World) : KeepB w w := ⟨Nat.le_refl _, fun _ _ _ _ h _ _ _ _ _ => h⟩
theorem KeepB.of {w w' : World} (x : Ext w w') : KeepB w w' := ⟨x.size, fun _ _ _ _ h _ _ _ _ _ => At.heap_ext h x⟩
theorem KeepB.trans {a b c : World} (h : KeepB a b) (k : KeepB b c) : KeepB a c := ⟨Nat.le_trans h.size k.size, fun i cs E fl e h1 h2 h3 h4 h5 => k.blk i cs E fl (h.blk i cs E fl e h1 h2 h3 h4 h5) h1 h2 h3 h4 h5⟩
theorem KeepB.ext {a b c : World} (h : KeepB a b) (x : Ext b c) : KeepB a c := h.trans (.of x)
theorem KeepB.grown {w w' : World} {row : Option Nat} {t : Option TypeId} (hg : w.grownBy w' row) (ht : TyOf w row t) (hne : t = none ∨ t = some 68 ∨ t = some 40 ∨ t = some 54 ∨ t = some 42 ∨ t = some 82) : KeepB w w' :=
  ⟨hg.size, fun k cs E fl e h1 h2 h3 h4 h5 => blk_keep e hg ht (by
    rcases hne with rfl | rfl | rfl | rfl | rfl | rfl <;> simp only [tyO] <;> (intro e; first | (cases e; done) | (cases e; first | exact h1 rfl | exact h2 rfl | exact h3 rfl | exact h4 rfl | exact h5 rfl)))⟩
theorem KeepB.set {a b : World} (h : KeepB a b) {g j : Nat} {u : Value} (hg : a.heap.size ≤ g) : KeepB a (b.setCell ⟨g, j, none⟩ u) :=
  ⟨by have := h.size; simpa [World.setCell] using this, fun k cs E fl e h1 h2 h3 h4 h5 => by
    rw [Below.heap_setCell _ _ _ _ (show k ≠ g from fun e2 => by have := (Array.getElem?_eq_some_iff.1 e).1; omega)]
    exact h.blk k cs E fl e h1 h2 h3 h4 h5⟩
theorem KeepB.atL {w w' : World} (h : KeepB w w') {v : Value} {L : List Two} (a : AtL w v L) : AtL w' v L := by
  obtain ⟨p, c, h1, h2, h3⟩ := a
  have hb : ∀ q, p = some q → ∃ cs, w.heap[q.block]? = some (.cells cs 109 (0, 0)) ∧ w'.heap[q.block]? = some (.cells cs 109 (0, 0)) := fun q e => by
    obtain ⟨cs, hc⟩ := h3.2 q e
    exact ⟨cs, hc, h.blk _ _ _ _ hc (by decide) (by decide) (by decide) (by decide) (by decide)⟩
  refine ⟨p, c, h1, fun k hk => ?_, h3.1, fun q e => ?_⟩
  · obtain ⟨g, o, ha, c0, c1⟩ := h2 k hk
    obtain ⟨cs, hx, hy⟩ := hb _ ha
    refine ⟨g, o, ha, ?_, ?_⟩
    · rw [Lib.cell_of_heap hy]; rw [Lib.cell_of_heap hx] at c0; exact c0
    · rw [Lib.cell_of_heap hy]; rw [Lib.cell_of_heap hx] at c1; exact c1
  · obtain ⟨cs, _, hy⟩ := hb q e
    exact ⟨cs, hy⟩
theorem ext_grown {w0 w w' : World} {row : Option Nat} (x : Ext w0 w) (hg : w.grownBy w' row) (hr : ∀ k, row = some k → w0.heap.size ≤ k) : Ext w0 w' := Below.grown x hg x.size hr
theorem nope {a b : Nat} (h : a ≠ b) : some a ≠ some b := fun e => h (by injection e)
theorem Bld.own (h : Bld w0 bb m1 m2 B w nv av cv lv aw ks S I T) (j : Nat) (u nv' av' cv' lv' : Value) (e : (#[nv, av, .map (some m1), cv, .map (some m2), lv] : Array Value).setIfInBounds j u = #[nv', av', .map (some m1), cv', .map (some m2), lv'])
    {w' : World} (hw : w' = w.setCell ⟨bb, j, none⟩ u)
    {S' : St} {aw' : List Value} {ks' : List (Lk × Value)}
    (hN : w'.ownsRow B 40 6 nv' S'.N.length (ndsC S'.N)) (hA : w'.ownsRow B 54 1 av' S'.A.length aw') (hC : w'.ownsRow B 42 2 cv' S'.C.length (clsC S'.C)) (hK : w'.ownsRow B 82 5 lv' S'.K.length (lksC ks'))
    (hAt : AtLs w' aw' S'.A) (hKl : ks'.map Prod.fst = S'.K) (hKt : AtLs w' (ks'.map Prod.snd) (S'.K.map Lk.at')) : Bld w0 bb m1 m2 B w' nv' av' cv' lv' aw' ks' S' I T := by
  subst hw
  have hg := set_grown w bb j u
  have ht := cel_ty h.blk
  obtain ⟨n1, D1, h1, h1n, h1d⟩ := h.M1
  obtain ⟨n2, D2, h2, h2n, h2d⟩ := h.M2
  refine ⟨?_, hN, hA, hC, hK, hAt, hKl, hKt, ⟨n1, D1, map_keep h1 hg ht, h1n, h1d⟩, ⟨n2, D2, map_keep h2 hg ht, h2n, h2d⟩, ext_grown h.X hg (fun k e => by injection e with e; subst e; exact h.lo.1), Nat.le_trans h.Z hg.size, h.lo⟩
  rw [blk_set h.blk j u, e]
theorem row_own {w w2 : World} {row : Option Nat} {t : TypeId} {cs : Array Value} {B' : Nat} {E : TypeId} {sz : Nat} {v : Value} {n : Nat} {xs : List Value} (h : w.ownsRow B' E sz v n xs) (hg : w.grownBy w2 row) (ht : TyOf w row (some t)) (hne : E ≠ t)
    (hS : w2.heap[bb]? = some (.cells cs 68 (0, 0))) (hE : E ≠ 68) (j : Nat) (u : Value) : (w2.setCell ⟨bb, j, none⟩ u).ownsRow B' E sz v n xs :=
  row_keep (row_keep h hg ht (nope hne)) (set_grown w2 bb j u) (cel_ty hS) (nope hE)
theorem atLs_own {w w2 : World} {row : Option Nat} {t : TypeId} {cs : Array Value} {aw : List Value} {A : List (List Two)} (h : AtLs w aw A) (hg : w.grownBy w2 row) (ht : TyOf w row (some t)) (hne : 109 ≠ t)
    (hS : w2.heap[bb]? = some (.cells cs 68 (0, 0))) (j : Nat) (u : Value) : AtLs (w2.setCell ⟨bb, j, none⟩ u) aw A :=
  (h.keep hg ht (nope hne)).keep (set_grown w2 bb j u) (cel_ty hS) (by decide)
theorem Bld.midS (h : Bld w0 bb m1 m2 B w nv av cv lv aw ks S I T) {row : Option Nat} {t : TypeId} (hg : w.grownBy w2 row) (ht : TyOf w row (some t)) (hne : 68 ≠ t) : w2.heap[bb]? = some (.cells #[nv, av, .map (some m1), cv, .map (some m2), lv] 68 (0, 0)) := cel_keep h.blk hg ht (nope hne)
theorem Bld.lo' {v : Value} {E : TypeId} {sz n : Nat} {xs : List Value} (h : Bld w0 bb m1 m2 B w nv av cv lv aw ks S I T) (ho : w.ownsRow B E sz v n xs) : ∀ k, v.ownBlock = some k → w0.heap.size ≤ k := fun k e => by
  have := (ho.lt k e).1; have := h.lo; omega
theorem Bld.appN (h : Bld w0 bb m1 m2 B w nv av cv lv aw ks S I T) {nv' : Value} {n' : Nat} (q : ByteArray × Int) (hn : n' = S.N.length + 1) (ho : w2.ownsRow B 40 6 nv' n' (ndsC S.N ++ ndC q)) (hg : w.grownBy w2 nv.ownBlock) :
    Bld w0 bb m1 m2 B (w2.setCell ⟨bb, 0, none⟩ nv') nv' av cv lv aw ks { S with N := S.N ++ [q] } I T ∧ KeepB w (w2.setCell ⟨bb, 0, none⟩ nv') := by
  have ht := row_ty h.N
  have hS := h.midS hg ht (by decide)
  obtain ⟨n1, D1, h1, h1n, h1d⟩ := h.M1
  obtain ⟨n2, D2, h2, h2n, h2d⟩ := h.M2
  have hs := set_grown w2 bb 0 nv'
  have hst := cel_ty hS
  subst hn
  refine ⟨⟨by rw [blk_set hS]; rfl, ?_, row_own h.A hg ht (by decide) hS (by decide) _ _, row_own h.C hg ht (by decide) hS (by decide) _ _, row_own h.K hg ht (by decide) hS (by decide) _ _, atLs_own h.At hg ht (by decide) hS _ _, h.Kl, atLs_own h.Kt hg ht (by decide) hS _ _,
    ⟨n1, D1, map_keep (map_keep h1 hg ht) hs hst, h1n, h1d⟩, ⟨n2, D2, map_keep (map_keep h2 hg ht) hs hst, h2n, h2d⟩, ext_grown (ext_grown h.X hg (h.lo' h.N)) hs (fun k e => by injection e with e; subst e; exact h.lo.1), Nat.le_trans h.Z (Nat.le_trans hg.size hs.size), h.lo⟩, (KeepB.grown hg ht (by simp)).trans (KeepB.grown hs hst (by simp))⟩
  have := row_keep ho hs hst (by decide)
  rw [ndsC_snoc]
  simpa using this
theorem Bld.appA (h : Bld w0 bb m1 m2 B w nv av cv lv aw ks S I T) {av' v : Value} {L : List Two} {n' : Nat} (hn : n' = S.A.length + 1) (hv : AtL w v L) (ho : w2.ownsRow B 54 1 av' n' (aw ++ [v])) (hg : w.grownBy w2 av.ownBlock) :
    Bld w0 bb m1 m2 B (w2.setCell ⟨bb, 1, none⟩ av') nv av' cv lv (aw ++ [v]) ks { S with A := S.A ++ [L] } I T ∧ KeepB w (w2.setCell ⟨bb, 1, none⟩ av') := by
  have ht := row_ty h.A
  have hS := h.midS hg ht (by decide)
  obtain ⟨n1, D1, h1, h1n, h1d⟩ := h.M1
  obtain ⟨n2, D2, h2, h2n, h2d⟩ := h.M2
  have hs := set_grown w2 bb 1 av'
  have hst := cel_ty hS
  subst hn
  refine ⟨⟨by rw [blk_set hS]; rfl, row_own h.N hg ht (by decide) hS (by decide) _ _, ?_, row_own h.C hg ht (by decide) hS (by decide) _ _, row_own h.K hg ht (by decide) hS (by decide) _ _, atLs_own (h.At.snoc hv) hg ht (by decide) hS _ _, h.Kl, atLs_own h.Kt hg ht (by decide) hS _ _,
    ⟨n1, D1, map_keep (map_keep h1 hg ht) hs hst, h1n, h1d⟩, ⟨n2, D2, map_keep (map_keep h2 hg ht) hs hst, h2n, h2d⟩, ext_grown (ext_grown h.X hg (h.lo' h.A)) hs (fun k e => by injection e with e; subst e; exact h.lo.1), Nat.le_trans h.Z (Nat.le_trans hg.size hs.size), h.lo⟩, (KeepB.grown hg ht (by simp)).trans (KeepB.grown hs hst (by simp))⟩
  have := row_keep ho hs hst (by decide)
  simpa using this
theorem Bld.appC (h : Bld w0 bb m1 m2 B w nv av cv lv aw ks S I T) {cv' : Value} {n' : Nat} (q : ByteArray × Int) (hn : n' = S.C.length + 1) (ho : w2.ownsRow B 42 2 cv' n' (clsC S.C ++ clC q)) (hg : w.grownBy w2 cv.ownBlock) :
    Bld w0 bb m1 m2 B (w2.setCell ⟨bb, 3, none⟩ cv') nv av cv' lv aw ks { S with C := S.C ++ [q] } I T ∧ KeepB w (w2.setCell ⟨bb, 3, none⟩ cv') := by
  have ht := row_ty h.C
  have hS := h.midS hg ht (by decide)
  obtain ⟨n1, D1, h1, h1n, h1d⟩ := h.M1
  obtain ⟨n2, D2, h2, h2n, h2d⟩ := h.M2
  have hs := set_grown w2 bb 3 cv'
  have hst := cel_ty hS
  subst hn
  refine ⟨⟨by rw [blk_set hS]; rfl, row_own h.N hg ht (by decide) hS (by decide) _ _, row_own h.A hg ht (by decide) hS (by decide) _ _, ?_, row_own h.K hg ht (by decide) hS (by decide) _ _, atLs_own h.At hg ht (by decide) hS _ _, h.Kl, atLs_own h.Kt hg ht (by decide) hS _ _,
    ⟨n1, D1, map_keep (map_keep h1 hg ht) hs hst, h1n, h1d⟩, ⟨n2, D2, map_keep (map_keep h2 hg ht) hs hst, h2n, h2d⟩, ext_grown (ext_grown h.X hg (h.lo' h.C)) hs (fun k e => by injection e with e; subst e; exact h.lo.1), Nat.le_trans h.Z (Nat.le_trans hg.size hs.size), h.lo⟩, (KeepB.grown hg ht (by simp)).trans (KeepB.grown hs hst (by simp))⟩
  have := row_keep ho hs hst (by decide)
  rw [clsC_snoc]
  simpa using this
theorem Bld.appK (h : Bld w0 bb m1 m2 B w nv av cv lv aw ks S I T) {lv' v : Value} {n' : Nat} (x : Lk) (hn : n' = S.K.length + 1) (hv : AtL w v x.at') (ho : w2.ownsRow B 82 5 lv' n' (lksC ks ++ lkC (x, v))) (hg : w.grownBy w2 lv.ownBlock) :
    Bld w0 bb m1 m2 B (w2.setCell ⟨bb, 5, none⟩ lv') nv av cv lv' aw (ks ++ [(x, v)]) { S with K := S.K ++ [x] } I T ∧ KeepB w (w2.setCell ⟨bb, 5, none⟩ lv') := by
  have ht := row_ty h.K
  have hS := h.midS hg ht (by decide)
  obtain ⟨n1, D1, h1, h1n, h1d⟩ := h.M1
  obtain ⟨n2, D2, h2, h2n, h2d⟩ := h.M2
  have hs := set_grown w2 bb 5 lv'
  have hst := cel_ty hS
  subst hn
  refine ⟨⟨by rw [blk_set hS]; rfl, row_own h.N hg ht (by decide) hS (by decide) _ _, row_own h.A hg ht (by decide) hS (by decide) _ _, row_own h.C hg ht (by decide) hS (by decide) _ _, ?_, atLs_own h.At hg ht (by decide) hS _ _, by rw [List.map_append, h.Kl]; rfl, ?_,
    ⟨n1, D1, map_keep (map_keep h1 hg ht) hs hst, h1n, h1d⟩, ⟨n2, D2, map_keep (map_keep h2 hg ht) hs hst, h2n, h2d⟩, ext_grown (ext_grown h.X hg (h.lo' h.K)) hs (fun k e => by injection e with e; subst e; exact h.lo.1), Nat.le_trans h.Z (Nat.le_trans hg.size hs.size), h.lo⟩, (KeepB.grown hg ht (by simp)).trans (KeepB.grown hs hst (by simp))⟩
  · have := row_keep ho hs hst (by decide)
    rw [lksC_snoc]
    simpa using this
  · rw [List.map_append, List.map_append]
    exact atLs_own (h.Kt.snoc hv) hg ht (by decide) hS _ _
theorem Bld.setA {g c : Nat} {na : Nat} (h : Bld w0 bb m1 m2 B w nv (.slice (some ⟨g, 0, none⟩) na c) cv lv aw ks S I T) (i : Nat) (hi : i < S.A.length) {v : Value} {L : List Two} (hv : AtL w v L) :
    Bld w0 bb m1 m2 B (w.setCell ⟨g, i, none⟩ v) nv (.slice (some ⟨g, 0, none⟩) na c) cv lv (aw.set i v) ks { S with A := S.A.set i L } I T ∧ KeepB w (w.setCell ⟨g, i, none⟩ v) := by
  have ht : TyOf w (some g) (some 54) := row_ty h.A
  have hs := set_grown w g i v
  have hna : na = S.A.length := by
    rcases h.A.2 with ⟨h1, _⟩ | ⟨g', cap, cur, h1, _⟩
    · cases h1
    · injection h1
  obtain ⟨n1, D1, h1, h1n, h1d⟩ := h.M1
  obtain ⟨n2, D2, h2, h2n, h2d⟩ := h.M2
  subst hna
  refine ⟨⟨cel_keep h.blk hs ht (by decide), row_keep h.N hs ht (by decide), ?_, row_keep h.C hs ht (by decide), row_keep h.K hs ht (by decide), (h.At.set i hv).keep hs ht (by decide), h.Kl, h.Kt.keep hs ht (by decide),
    ⟨n1, D1, map_keep h1 hs ht, h1n, h1d⟩, ⟨n2, D2, map_keep h2 hs ht, h2n, h2d⟩, ext_grown h.X hs (h.lo' h.A), Nat.le_trans h.Z hs.size, h.lo⟩, KeepB.grown hs ht (by simp)⟩
  have := row_set h.A i (by rw [h.At.1]; exact hi) v
  simpa using this
theorem Bld.putI (h : Bld w0 bb m1 m2 B w nv av cv lv aw ks S I T) {n : Nat} {D : DataW Value} (ho : w2.ownsMap Tryz.prog 9 RH m1 n D) (hn : n ≤ I.length + 1) {q : ByteArray × Int} (hD : IdxD D (I ++ [q])) (hg : w.grownBy w2 (some m1)) :
    Bld w0 bb m1 m2 B w2 nv av cv lv aw ks S (I ++ [q]) T ∧ KeepB w w2 := by
  obtain ⟨n1, D1, h1, h1n, h1d⟩ := h.M1
  obtain ⟨n2, D2, h2, h2n, h2d⟩ := h.M2
  have ht := map_ty h1
  refine ⟨⟨cel_keep h.blk hg ht (by decide), row_keep h.N hg ht (by decide), row_keep h.A hg ht (by decide), row_keep h.C hg ht (by decide), row_keep h.K hg ht (by decide), h.At.keep hg ht (by decide), h.Kl, h.Kt.keep hg ht (by decide), ⟨n, D, ho, by simpa using hn, hD⟩,
    ⟨n2, D2, h2.kept hg (fun e => h.lo.2.2.2.2.2.2 (by injection e with e; exact e.symm)), h2n, h2d⟩, ext_grown h.X hg (fun k e => by injection e with e; subst e; exact h.lo.2.1), Nat.le_trans h.Z hg.size, h.lo⟩, KeepB.grown hg ht (by simp)⟩
theorem Bld.putT (h : Bld w0 bb m1 m2 B w nv av cv lv aw ks S I T) {n : Nat} {D : DataW Value} (ho : w2.ownsMap Tryz.prog 9 RH m2 n D) (hn : n ≤ T.length + 1) {q : ByteArray × Int} (hD : TakD D (T ++ [q])) (hg : w.grownBy w2 (some m2)) :
    Bld w0 bb m1 m2 B w2 nv av cv lv aw ks S I (T ++ [q]) ∧ KeepB w w2 := by
  obtain ⟨n1, D1, h1, h1n, h1d⟩ := h.M1
  obtain ⟨n2, D2, h2, h2n, h2d⟩ := h.M2
  have ht := map_ty h2
  refine ⟨⟨cel_keep h.blk hg ht (by decide), row_keep h.N hg ht (by decide), row_keep h.A hg ht (by decide), row_keep h.C hg ht (by decide), row_keep h.K hg ht (by decide), h.At.keep hg ht (by decide), h.Kl, h.Kt.keep hg ht (by decide),
    ⟨n1, D1, h1.kept hg (fun e => h.lo.2.2.2.2.2.2 (by injection e)), h1n, h1d⟩, ⟨n, D, ho, by simpa using hn, hD⟩, ext_grown h.X hg (fun k e => by injection e with e; subst e; exact h.lo.2.2.1), Nat.le_trans h.Z hg.size, h.lo⟩, KeepB.grown hg ht (by simp)⟩
theorem zero_int (w : World) : (zeroValue 3).run Tryz.prog w = .ok (.int .i64 0) w := by kernel_rfl
theorem zero_bool (w : World) : (zeroValue 4).run Tryz.prog w = .ok (.bool false) w := by kernel_rfl
theorem Bld.look1 (h : Bld w0 bb m1 m2 B w nv av cv lv aw ks S I T) (n : ByteArray) (hn : n.size ≤ 64) : (Instr.lookup 63 (.map (some m1)) (.string n) true).run Tryz.prog w = .ok (.tuple #[.int .i64 (((idxGo n 0 I).getD 0 : Nat) : Int), .bool (idxGo n 0 I).isSome]) w := by
  obtain ⟨n1, D1, h1, -, h1d⟩ := h.M1
  have hkey := Go.WideMaps.keyOf_string_mk (P := Tryz.prog) (s := n) Tryz.underlying9 (by unfold maxLen; omega)
  obtain ⟨v, ps, hr, hv⟩ := h1.look_ok key9 Tryz.underlying63 (zero_int w) (zd := .held (.int .i64 0)) (zp := []) rfl hkey
  rw [(h1d.2 n).2] at hv
  unfold RH at hv
  simp only [Option.some.injEq, Prod.mk.injEq, DataW.held.injEq] at hv
  rw [hv.1, (h1d.2 n).1] at hr
  exact hr
theorem Bld.look2 (h : Bld w0 bb m1 m2 B w nv av cv lv aw ks S I T) (n : ByteArray) (hn : n.size ≤ 64) : (Instr.lookup 64 (.map (some m2)) (.string n) false).run Tryz.prog w = .ok (.bool (T.any fun q => decide (q.1 = n))) w := by
  obtain ⟨n2, D2, h2, -, h2d⟩ := h.M2
  have hkey := Go.WideMaps.keyOf_string_mk (P := Tryz.prog) (s := n) Tryz.underlying9 (by unfold maxLen; omega)
  obtain ⟨v, ps, hr, hv⟩ := h2.lookup key9 Tryz.underlying64 (zero_bool w) (zd := .held (.bool false)) (zp := []) rfl hkey
  rw [h2d.2 n] at hv
  unfold RH at hv
  simp only [Option.some.injEq, Prod.mk.injEq, DataW.held.injEq] at hv
  rw [hv.1] at hr
  exact hr
theorem info_node : (Tryz.prog.info? 40).map (fun i => (i.zero, i.size, i.bytes)) = some (some (.agg #[.string ⟨#[]⟩, .string ⟨#[]⟩, .int .i64 0, .int .i64 0, .int .i64 0, .slice none 0 0]), 6, 80) := by kernel_rfl
theorem info_atl : (Tryz.prog.info? 54).map (fun i => (i.zero, i.size, i.bytes)) = some (some (.slice none 0 0), 1, 24) := by kernel_rfl
theorem info_clu : (Tryz.prog.info? 42).map (fun i => (i.zero, i.size, i.bytes)) = some (some (.agg #[.string ⟨#[]⟩, .int .i64 0]), 2, 24) := by kernel_rfl
theorem info_lnk : (Tryz.prog.info? 82).map (fun i => (i.zero, i.size, i.bytes)) = some (some (.agg #[.int .i64 0, .string ⟨#[]⟩, .int .i64 0, .string ⟨#[]⟩, .slice none 0 0]), 5, 72) := by kernel_rfl
theorem Bld.other {cs : Array Value} {E : TypeId} {g j : Nat} {u : Value} (h : Bld w0 bb m1 m2 B w nv av cv lv aw ks S I T) (hb : w.heap[g]? = some (.cells cs E (0, 0))) (hg : w0.heap.size ≤ g) (h1 : E ≠ 68) (h2 : E ≠ 40) (h3 : E ≠ 54) (h4 : E ≠ 42) (h5 : E ≠ 82) (h6 : E ≠ 109) :
    Bld w0 bb m1 m2 B (w.setCell ⟨g, j, none⟩ u) nv av cv lv aw ks S I T := by
  have hs := set_grown w g j u
  have ht := cel_ty hb
  obtain ⟨n1, D1, q1, h1n, h1d⟩ := h.M1
  obtain ⟨n2, D2, q2, h2n, h2d⟩ := h.M2
  exact ⟨cel_keep h.blk hs ht (nope h1.symm), row_keep h.N hs ht (nope h2.symm), row_keep h.A hs ht (nope h3.symm), row_keep h.C hs ht (nope h4.symm), row_keep h.K hs ht (nope h5.symm), h.At.keep hs ht (nope h6.symm), h.Kl, h.Kt.keep hs ht (nope h6.symm), ⟨n1, D1, map_keep q1 hs ht, h1n, h1d⟩, ⟨n2, D2, map_keep q2 hs ht, h2n, h2d⟩, ext_grown h.X hs (fun k e => by injection e with e; subst e; exact hg), Nat.le_trans h.Z hs.size, h.lo⟩
def BldE (w0 : World) (bb m1 m2 B : Nat) (w : World) (S : St) : Prop := ∃ nv av cv lv aw ks, Bld w0 bb m1 m2 B w nv av cv lv aw ks S S.N S.C
end Go.Proofs.YtnancphlkbfglaaGreatDoor.Nm

namespace Go.Proofs.YtnancphlkbfglaaGreatDoor.Nm
open Go.RowKit Go.Sort Go.Lib Fx Lx Tr At
def enC (x : Lk × Value) : List Value := [.int .i64 x.1.a, .int .i64 x.1.b, .string x.1.ap, .string x.1.bp, x.2]
def ensC (L : List (Lk × Value)) : List Value := L.flatMap enC
theorem ensC_snoc (L : List (Lk × Value)) (q : Lk × Value) : ensC (L ++ [q]) = ensC L ++ enC q := by unfold ensC; simp
structure Doc (w0 : World) (bb B : Nat) (nm : ByteArray) (dir : Bool) (w : World) (nv av cv lv : Value) (aw : List Value) (ks : List (Lk × Value)) (S : St) (E : Int) : Prop where
  blk : w.heap[bb]? = some (.cells #[.string nm, .bool dir, nv, .slice none 0 0, cv, av, lv, .int .i64 E] 88 (0, 0))
  N : w.ownsRow B 40 6 nv S.N.length (ndsC S.N)
  A : w.ownsRow B 54 1 av S.A.length aw
  C : w.ownsRow B 42 2 cv S.C.length (clsC S.C)
  K : w.ownsRow B 142 5 lv S.K.length (ensC ks)
  At : AtLs w aw S.A
  Kl : ks.map Prod.fst = S.K
  Kt : AtLs w (ks.map Prod.snd) (S.K.map Lk.at')
  X : Ext w0 w
  Z : B ≤ w.heap.size
  lo : w0.heap.size ≤ bb ∧ bb < B
variable {w0 w w2 : World} {bb B : Nat} {nm : ByteArray} {dir : Bool} {nv av cv lv : Value} {aw : List Value} {ks : List (Lk × Value)} {S : St} {E : Int}
theorem Doc.ext (h : Doc w0 bb B nm dir w nv av cv lv aw ks S E) (x : Ext w w2) : Doc w0 bb B nm dir w2 nv av cv lv aw ks S E :=
  ⟨At.heap_ext h.blk x, At.own_ext h.N x, At.own_ext h.A x, At.own_ext h.C x, At.own_ext h.K x, h.At.ext x, h.Kl, h.Kt.ext x, h.X.trans x, Nat.le_trans h.Z x.size, h.lo⟩
theorem Doc.cells (h : Doc w0 bb B nm dir w nv av cv lv aw ks S E) : w.cell? ⟨bb, 0, none⟩ = some (.string nm) ∧ w.cell? ⟨bb, 1, none⟩ = some (.bool dir) ∧ w.cell? ⟨bb, 2, none⟩ = some nv ∧ w.cell? ⟨bb, 4, none⟩ = some cv ∧ w.cell? ⟨bb, 5, none⟩ = some av ∧ w.cell? ⟨bb, 6, none⟩ = some lv ∧ w.cell? ⟨bb, 7, none⟩ = some (.int .i64 E) := by
  refine ⟨?_, ?_, ?_, ?_, ?_, ?_, ?_⟩ <;> (rw [Lib.cell_of_heap h.blk]; rfl)
theorem Doc.fz (h : Doc w0 bb B nm dir w nv av cv lv aw ks S E) (j : Nat) : w.frozen? ⟨bb, j, none⟩ = false := Lib.frozen_of_heap h.blk j
structure KeepD (w w' : World) : Prop where
  size : w.heap.size ≤ w'.heap.size
  blk : ∀ (k : Nat) (cs : Array Value) (E : TypeId) (fl : Nat × Nat), w.heap[k]? = some (.cells cs E fl) → E ≠ 88 → E ≠ 40 → E ≠ 54 → E ≠ 42 → E ≠ 142 → w'.heap[k]? = some (.cells cs E fl)
theorem KeepD.refl (w : World) : KeepD w w := ⟨Nat.le_refl _, fun _ _ _ _ h _ _ _ _ _ => h⟩
theorem KeepD.of {w w' : World} (x : Ext w w') : KeepD w w' := ⟨x.size, fun _ _ _ _ h _ _ _ _ _ => At.heap_ext h x⟩
theorem KeepD.trans {a b c : World} (h : KeepD a b) (k : KeepD b c) : KeepD a c := ⟨Nat.le_trans h.size k.size, fun i cs E fl e h1 h2 h3 h4 h5 => k.blk i cs E fl (h.blk i cs E fl e h1 h2 h3 h4 h5) h1 h2 h3 h4 h5⟩
theorem KeepD.ext {a b c : World} (h : KeepD a b) (x : Ext b c) : KeepD a c := h.trans (.of x)
theorem KeepD.grown {w w' : World} {row : Option Nat} {t : Option TypeId} (hg : w.grownBy w' row) (ht : TyOf w row t) (hne : t = none ∨ t = some 88 ∨ t = some 40 ∨ t = some 54 ∨ t = some 42 ∨ t = some 142) : KeepD w w' :=
  ⟨hg.size, fun k cs E fl e h1 h2 h3 h4 h5 => blk_keep e hg ht (by
    rcases hne with rfl | rfl | rfl | rfl | rfl | rfl <;> simp only [tyO] <;> (intro e; first | (cases e; done) | (cases e; first | exact h1 rfl | exact h2 rfl | exact h3 rfl | exact h4 rfl | exact h5 rfl)))⟩
theorem KeepD.atL {w w' : World} (h : KeepD w w') {v : Value} {L : List Two} (a : AtL w v L) : AtL w' v L := by
  obtain ⟨p, c, h1, h2, h3⟩ := a
  have hb : ∀ q, p = some q → ∃ cs, w.heap[q.block]? = some (.cells cs 109 (0, 0)) ∧ w'.heap[q.block]? = some (.cells cs 109 (0, 0)) := fun q e => by
    obtain ⟨cs, hc⟩ := h3.2 q e
    exact ⟨cs, hc, h.blk _ _ _ _ hc (by decide) (by decide) (by decide) (by decide) (by decide)⟩
  refine ⟨p, c, h1, fun k hk => ?_, h3.1, fun q e => ?_⟩
  · obtain ⟨g, o, ha, c0, c1⟩ := h2 k hk
    obtain ⟨cs, hx, hy⟩ := hb _ ha
    refine ⟨g, o, ha, ?_, ?_⟩
    · rw [Lib.cell_of_heap hy]; rw [Lib.cell_of_heap hx] at c0; exact c0
    · rw [Lib.cell_of_heap hy]; rw [Lib.cell_of_heap hx] at c1; exact c1
  · obtain ⟨cs, _, hy⟩ := hb q e
    exact ⟨cs, hy⟩
theorem row_ownD {w w2 : World} {row : Option Nat} {t : TypeId} {cs : Array Value} {B' : Nat} {E : TypeId} {sz : Nat} {v : Value} {n : Nat} {xs : List Value} (h : w.ownsRow B' E sz v n xs) (hg : w.grownBy w2 row) (ht : TyOf w row (some t)) (hne : E ≠ t)
    (hS : w2.heap[bb]? = some (.cells cs 88 (0, 0))) (hE : E ≠ 88) (j : Nat) (u : Value) : (w2.setCell ⟨bb, j, none⟩ u).ownsRow B' E sz v n xs :=
  row_keep (row_keep h hg ht (nope hne)) (set_grown w2 bb j u) (cel_ty hS) (nope hE)
theorem atLs_ownD {w w2 : World} {row : Option Nat} {t : TypeId} {cs : Array Value} {aw : List Value} {A : List (List Two)} (h : AtLs w aw A) (hg : w.grownBy w2 row) (ht : TyOf w row (some t)) (hne : 109 ≠ t)
    (hS : w2.heap[bb]? = some (.cells cs 88 (0, 0))) (j : Nat) (u : Value) : AtLs (w2.setCell ⟨bb, j, none⟩ u) aw A :=
  (h.keep hg ht (nope hne)).keep (set_grown w2 bb j u) (cel_ty hS) (by decide)
theorem Doc.lo' {v : Value} {T : TypeId} {sz n : Nat} {xs : List Value} (h : Doc w0 bb B nm dir w nv av cv lv aw ks S E) (ho : w.ownsRow B T sz v n xs) : ∀ k, v.ownBlock = some k → w0.heap.size ≤ k := fun k e => by
  have := (ho.lt k e).1; have := h.lo; omega
theorem Doc.appN (h : Doc w0 bb B nm dir w nv av cv lv aw ks S E) {v' : Value} {n' : Nat} (q : ByteArray × Int) (hn : n' = S.N.length + 1) (ho : w2.ownsRow B 40 6 v' n' (ndsC S.N ++ ndC q)) (hg : w.grownBy w2 nv.ownBlock) :
    Doc w0 bb B nm dir (w2.setCell ⟨bb, 2, none⟩ v') v' av cv lv (aw) (ks) { S with N := S.N ++ [q] } E ∧ KeepD w (w2.setCell ⟨bb, 2, none⟩ v') := by
  have ht := row_ty h.N
  have hS : w2.heap[bb]? = some (.cells #[.string nm, .bool dir, nv, .slice none 0 0, cv, av, lv, .int .i64 E] 88 (0, 0)) := cel_keep h.blk hg ht (nope (by decide))
  have hs := set_grown w2 bb 2 v'
  have hst := cel_ty hS
  subst hn
  refine ⟨⟨by rw [blk_set hS]; rfl, ?_, row_ownD h.A hg ht (by decide) hS (by decide) _ _, row_ownD h.C hg ht (by decide) hS (by decide) _ _, row_ownD h.K hg ht (by decide) hS (by decide) _ _, atLs_ownD h.At hg ht (by decide) hS _ _, h.Kl, atLs_ownD h.Kt hg ht (by decide) hS _ _, ext_grown (ext_grown h.X hg (h.lo' h.N)) hs (fun k e => by injection e with e; subst e; exact h.lo.1), Nat.le_trans h.Z (Nat.le_trans hg.size hs.size), h.lo⟩, (KeepD.grown hg ht (by simp)).trans (KeepD.grown hs hst (by simp))⟩
  · have := row_keep ho hs hst (by decide)
    rw [ndsC_snoc]; simpa using this
theorem Doc.appA (h : Doc w0 bb B nm dir w nv av cv lv aw ks S E) {v' : Value} {n' : Nat} {v : Value} {L : List Two} (hv : AtL w v L) (hn : n' = S.A.length + 1) (ho : w2.ownsRow B 54 1 v' n' (aw ++ [v])) (hg : w.grownBy w2 av.ownBlock) :
    Doc w0 bb B nm dir (w2.setCell ⟨bb, 5, none⟩ v') nv v' cv lv (aw ++ [v]) (ks) { S with A := S.A ++ [L] } E ∧ KeepD w (w2.setCell ⟨bb, 5, none⟩ v') := by
  have ht := row_ty h.A
  have hS : w2.heap[bb]? = some (.cells #[.string nm, .bool dir, nv, .slice none 0 0, cv, av, lv, .int .i64 E] 88 (0, 0)) := cel_keep h.blk hg ht (nope (by decide))
  have hs := set_grown w2 bb 5 v'
  have hst := cel_ty hS
  subst hn
  refine ⟨⟨by rw [blk_set hS]; rfl, row_ownD h.N hg ht (by decide) hS (by decide) _ _, ?_, row_ownD h.C hg ht (by decide) hS (by decide) _ _, row_ownD h.K hg ht (by decide) hS (by decide) _ _, atLs_ownD (h.At.snoc hv) hg ht (by decide) hS _ _, h.Kl, atLs_ownD h.Kt hg ht (by decide) hS _ _, ext_grown (ext_grown h.X hg (h.lo' h.A)) hs (fun k e => by injection e with e; subst e; exact h.lo.1), Nat.le_trans h.Z (Nat.le_trans hg.size hs.size), h.lo⟩, (KeepD.grown hg ht (by simp)).trans (KeepD.grown hs hst (by simp))⟩
  · have := row_keep ho hs hst (by decide)
    simpa using this
theorem Doc.appC (h : Doc w0 bb B nm dir w nv av cv lv aw ks S E) {v' : Value} {n' : Nat} (q : ByteArray × Int) (hn : n' = S.C.length + 1) (ho : w2.ownsRow B 42 2 v' n' (clsC S.C ++ clC q)) (hg : w.grownBy w2 cv.ownBlock) :
    Doc w0 bb B nm dir (w2.setCell ⟨bb, 4, none⟩ v') nv av v' lv (aw) (ks) { S with C := S.C ++ [q] } E ∧ KeepD w (w2.setCell ⟨bb, 4, none⟩ v') := by
  have ht := row_ty h.C
  have hS : w2.heap[bb]? = some (.cells #[.string nm, .bool dir, nv, .slice none 0 0, cv, av, lv, .int .i64 E] 88 (0, 0)) := cel_keep h.blk hg ht (nope (by decide))
  have hs := set_grown w2 bb 4 v'
  have hst := cel_ty hS
  subst hn
  refine ⟨⟨by rw [blk_set hS]; rfl, row_ownD h.N hg ht (by decide) hS (by decide) _ _, row_ownD h.A hg ht (by decide) hS (by decide) _ _, ?_, row_ownD h.K hg ht (by decide) hS (by decide) _ _, atLs_ownD h.At hg ht (by decide) hS _ _, h.Kl, atLs_ownD h.Kt hg ht (by decide) hS _ _, ext_grown (ext_grown h.X hg (h.lo' h.C)) hs (fun k e => by injection e with e; subst e; exact h.lo.1), Nat.le_trans h.Z (Nat.le_trans hg.size hs.size), h.lo⟩, (KeepD.grown hg ht (by simp)).trans (KeepD.grown hs hst (by simp))⟩
  · have := row_keep ho hs hst (by decide)
    rw [clsC_snoc]; simpa using this
theorem Doc.appK (h : Doc w0 bb B nm dir w nv av cv lv aw ks S E) {v' : Value} {n' : Nat} {v : Value} (x : Lk) (hv : AtL w v x.at') (hn : n' = S.K.length + 1) (ho : w2.ownsRow B 142 5 v' n' (ensC ks ++ enC (x, v))) (hg : w.grownBy w2 lv.ownBlock) :
    Doc w0 bb B nm dir (w2.setCell ⟨bb, 6, none⟩ v') nv av cv v' (aw) (ks ++ [(x, v)]) { S with K := S.K ++ [x] } E ∧ KeepD w (w2.setCell ⟨bb, 6, none⟩ v') := by
  have ht := row_ty h.K
  have hS : w2.heap[bb]? = some (.cells #[.string nm, .bool dir, nv, .slice none 0 0, cv, av, lv, .int .i64 E] 88 (0, 0)) := cel_keep h.blk hg ht (nope (by decide))
  have hs := set_grown w2 bb 6 v'
  have hst := cel_ty hS
  subst hn
  refine ⟨⟨by rw [blk_set hS]; rfl, row_ownD h.N hg ht (by decide) hS (by decide) _ _, row_ownD h.A hg ht (by decide) hS (by decide) _ _, row_ownD h.C hg ht (by decide) hS (by decide) _ _, ?_, atLs_ownD h.At hg ht (by decide) hS _ _, by rw [List.map_append, h.Kl]; rfl, ?_, ext_grown (ext_grown h.X hg (h.lo' h.K)) hs (fun k e => by injection e with e; subst e; exact h.lo.1), Nat.le_trans h.Z (Nat.le_trans hg.size hs.size), h.lo⟩, (KeepD.grown hg ht (by simp)).trans (KeepD.grown hs hst (by simp))⟩
  · have := row_keep ho hs hst (by decide)
    rw [ensC_snoc]; simpa using this
  · rw [List.map_append, List.map_append]
    exact atLs_ownD (h.Kt.snoc hv) hg ht (by decide) hS _ _
theorem Doc.setE (h : Doc w0 bb B nm dir w nv av cv lv aw ks S E) (E' : Int) : Doc w0 bb B nm dir (w.setCell ⟨bb, 7, none⟩ (.int .i64 E')) nv av cv lv aw ks S E' ∧ KeepD w (w.setCell ⟨bb, 7, none⟩ (.int .i64 E')) := by
  have hs := set_grown w bb 7 (.int .i64 E')
  have ht := cel_ty h.blk
  exact ⟨⟨by rw [blk_set h.blk]; rfl, row_keep h.N hs ht (by decide), row_keep h.A hs ht (by decide), row_keep h.C hs ht (by decide), row_keep h.K hs ht (by decide), h.At.keep hs ht (by decide), h.Kl, h.Kt.keep hs ht (by decide), ext_grown h.X hs (fun k e => by injection e with e; subst e; exact h.lo.1), Nat.le_trans h.Z hs.size, h.lo⟩, KeepD.grown hs ht (by simp)⟩
theorem Doc.setA (h : Doc w0 bb B nm dir w nv av cv lv aw ks S E) {v' : Value} {aw' : List Value} {A' : List (List Two)} (ho : w.ownsRow B 54 1 v' A'.length aw') (ha : AtLs w aw' A') :
    Doc w0 bb B nm dir (w.setCell ⟨bb, 5, none⟩ v') nv v' cv lv aw' ks { S with A := A' } E ∧ KeepD w (w.setCell ⟨bb, 5, none⟩ v') := by
  have hs := set_grown w bb 5 v'
  have ht := cel_ty h.blk
  exact ⟨⟨by rw [blk_set h.blk]; rfl, row_keep h.N hs ht (by decide), row_keep ho hs ht (by decide), row_keep h.C hs ht (by decide), row_keep h.K hs ht (by decide), ha.keep hs ht (by decide), h.Kl, h.Kt.keep hs ht (by decide), ext_grown h.X hs (fun k e => by injection e with e; subst e; exact h.lo.1), Nat.le_trans h.Z hs.size, h.lo⟩, KeepD.grown hs ht (by simp)⟩
theorem info_end : (Tryz.prog.info? 142).map (fun i => (i.zero, i.size, i.bytes)) = some (some (.agg #[.int .i64 0, .int .i64 0, .string ⟨#[]⟩, .string ⟨#[]⟩, .slice none 0 0]), 5, 72) := by kernel_rfl
def DocE (w0 : World) (bb B : Nat) (nm : ByteArray) (dir : Bool) (w : World) (S : St) (E : Int) : Prop := ∃ nv av cv lv aw ks, Doc w0 bb B nm dir w nv av cv lv aw ks S E
end Go.Proofs.YtnancphlkbfglaaGreatDoor.Nm
