/- What SortFunc and the program's Merge return. -/
import Derived.Maps.Ext
import Derived.Maps.RangeWalk
import Derived.Maps.StringElems
import Derived.Lib.Bytealg
import Derived.Shelf.SlSortCmp.WholeK
import Derived.Test.YtfhephcbjbdejaaGreatDoorAttI
import Derived.Test.YtfhephcbjbdejaaGreatDoorAttRule
import Derived.Test.YtfhephcbjbdejaaGreatDoorAttH
/- A map of strings holds the last values of a list; the entries that a range has handed out; the sorted entries are the merged list. -/
namespace Go.Proofs.YtfhephcbjbdejaaGreatDoor.At
open Go.RowKit Go.Sort Go.Lib Go.Shelf Fx Lx

theorem lit_neK {a b : ByteArray} (h : a ≠ b) : (Lit.string a.data.toList) ≠ .string b.data.toList := fun e => h (by injection e with e; exact ByteArray.ext (Array.toList_inj.1 e))
/-- The map holds, for each key, its last value in the list. -/
def MapIs (D : DataW Value) (L : List Atr) : Prop := Go.Maps.IsMap D ∧ ∀ x : ByteArray, Go.Maps.has D (.string x.data.toList) = (getT L x).2 ∧ ((getT L x).2 = true → ∀ z, D.atKey (.string x.data.toList) z = .lit (.string (getT L x).1.data.toList))
theorem MapIs.nil : MapIs (.map [] : DataW Value) [] := ⟨Go.Maps.isMap_empty, fun x => ⟨rfl, fun h => by cases h⟩⟩
theorem MapIs.put {D : DataW Value} {L : List Atr} (h : MapIs D L) (k v : ByteArray) : MapIs (D.put (.string k.data.toList) (.lit (.string v.data.toList))) (L ++ [(k, v)]) := by
  refine ⟨h.1.put _ _, fun x => ?_⟩
  rw [getT_snoc]
  by_cases hx : k = x
  · subst hx
    rw [if_pos rfl]
    exact ⟨Go.Maps.has_put_same h.1 (key_lit _) _, fun _ z => Go.Maps.atKey_put_same h.1 (key_lit _) _ _⟩
  · rw [if_neg (show ¬ (k, v).1 = x from hx)]
    have hn := lit_neK (fun e : x = k => hx e.symm)
    rw [Go.Maps.has_put_other hn]
    refine ⟨(h.2 x).1, fun hg z => ?_⟩
    rw [Go.Maps.atKey_put_other hn]
    exact (h.2 x).2 hg z
/-- What a range over the map has handed out so far. -/
def Coll (L : List Atr) (left : Lit → Bool) (O : List Atr) : Prop := (O.map Prod.fst).Nodup ∧ ∀ x v, (x, v) ∈ O ↔ getT L x = (v, true) ∧ left (.string x.data.toList) = false
theorem Coll.start {D : DataW Value} {L : List Atr} (h : MapIs D L) : Coll L (Go.Maps.has D) [] := ⟨by simp, fun x v => ⟨fun e => absurd e (by simp), fun ef => by obtain ⟨e, f⟩ := ef; rw [(h.2 x).1, e] at f; cases f⟩⟩
theorem Coll.step {D : DataW Value} {L : List Atr} {left : Lit → Bool} {O : List Atr} (h : Coll L left O) (hm : MapIs D L) (k c : ByteArray) (hk : left (.string k.data.toList) = true) (hat : ∀ z, D.atKey (.string k.data.toList) z = .lit (.string c.data.toList)) :
    Coll L (fun z => left z && !z.sameKey (.string k.data.toList)) (O ++ [(k, c)]) := by
  have hh := Go.Maps.has_true_of_atKey hat
  have hg := (hm.2 k).1
  rw [hh] at hg
  have hv := (hm.2 k).2 hg.symm (.lit (.string []))
  rw [hat] at hv
  have hc : (getT L k).1 = c := by
    injection hv with hv; injection hv with hv
    exact (ByteArray.ext (Array.toList_inj.1 hv)).symm
  have hgk : getT L k = (c, true) := by rw [← hc]; exact Prod.ext rfl hg.symm
  refine ⟨?_, fun x v => ?_⟩
  · rw [List.map_append, List.nodup_append]
    refine ⟨h.1, by simp, ?_⟩
    intro a ha b hb e
    have hb' : b = k := by simpa using hb
    subst hb'; subst e
    obtain ⟨p, hp, rfl⟩ := List.mem_map.1 ha
    have := ((h.2 p.1 p.2).1 hp).2
    rw [hk] at this; cases this
  · rw [List.mem_append, h.2]
    show _ ↔ _ ∧ (left (.string x.data.toList) && !(Lit.string x.data.toList).sameKey (.string k.data.toList)) = false
    by_cases hx : x = k
    · subst hx
      rw [hk, Go.WideAt.sameKey_self (key_lit _), hgk]
      simp [eq_comm]
    · rw [Go.Maps.sameKey_ne (lit_neK hx)]
      simp [hx]
theorem Coll.done {L : List Atr} {left : Lit → Bool} {O : List Atr} (h : Coll L left O) (hl : ∀ z, left z = false) : (O.map Prod.fst).Nodup ∧ ∀ x v, (x, v) ∈ O ↔ getT L x = (v, true) :=
  ⟨h.1, fun x v => by rw [h.2, hl]; simp⟩
theorem ltL_cmp : ∀ a b : List UInt8, decide (Lib.compareBytes a b < 0) = decide (a < b)
  | [], [] => by simp [Lib.compareBytes]
  | [], _ :: _ => by simp [Lib.compareBytes]
  | _ :: _, [] => by simp [Lib.compareBytes]
  | a :: x, b :: y => by
    have ih := ltL_cmp x y
    rw [Lib.compareBytes]
    by_cases h : a < b
    · simp [h, List.cons_lt_cons_iff]
    · by_cases h2 : b < a
      · have : a ≠ b := fun e => by subst e; exact h h2
        simp [h, h2, List.cons_lt_cons_iff, this]
      · have e : a = b := UInt8.le_antisymm (UInt8.not_lt.1 h2) (UInt8.not_lt.1 h)
        subst e
        simp [UInt8.lt_irrefl] at ih ⊢
        exact ih
/-- The comparison that the sort is given. -/
def cmpA (p q : Atr) : Int := Lib.compareBytes p.1.data.toList q.1.data.toList
theorem cmpA_lt (p q : Atr) : Go.Proofs.ltOf cmpA p q = ltK p.1 q.1 := by
  unfold Go.Proofs.ltOf cmpA ltK; exact ltL_cmp _ _
theorem cmpA_swo : Go.Sort.SWO (Go.Proofs.ltOf cmpA) where
  irrefl x := by rw [cmpA_lt]; exact ltK_irrefl _
  trans x y z h k := by rw [cmpA_lt] at *; exact ltK_trans h k
  ntrans x y z h k := by
    rw [cmpA_lt] at *
    cases hz : ltK x.1 z.1
    · rfl
    · exfalso
      cases hy : ltK y.1 x.1
      · have e := ltK_tri h hy
        rw [e] at hz; rw [hz] at k; cases k
      · have := ltK_trans hy hz
        rw [this] at k; cases k
theorem sorted_mrg (L : List Atr) (O : List Atr) (d : Array Atr) (hO : (O.map Prod.fst).Nodup ∧ ∀ x v, (x, v) ∈ O ↔ getT L x = (v, true)) (hp : Go.Sort.PermIn 0 O.toArray.size O.toArray d) (hs : Go.Sort.SortedIn (Go.Proofs.ltOf cmpA) 0 O.toArray.size d) : d.toList = mrgT L := by
  have hsz : d.size = O.length := by have := hp.1; simpa using this
  have hperm : d.toList.Perm O := by
    have := hp.2.2
    have e1 : d.extract 0 O.toArray.size = d := by rw [show O.toArray.size = d.size by rw [hsz]; simp]; simp
    have e2 : O.toArray.extract 0 O.toArray.size = O.toArray := by simp
    rw [e1, e2] at this
    simpa using this
  have hnd : (d.toList.map Prod.fst).Nodup := (hperm.map Prod.fst).nodup_iff.2 hO.1
  refine mrgT_is L _ ?_ (fun x v => by rw [hperm.mem_iff]; exact hO.2 x v)
  unfold Asc
  rw [List.pairwise_iff_getElem]
  intro i j hi hj hij
  have hi' : i < d.size := by simpa using hi
  have hj' : j < d.size := by simpa using hj
  have h1 := hs i j (Nat.zero_le _) hij (by simp; omega)
  rw [cmpA_lt, getElem!_pos d i hi', getElem!_pos d j hj'] at h1
  have e1 : d.toList[i] = d[i] := by simp
  have e2 : d.toList[j] = d[j] := by simp
  rw [e1, e2]
  cases h2 : ltK d[i].1 d[j].1
  · exfalso
    have he := ltK_tri h2 h1
    have hn := List.pairwise_iff_getElem.1 hnd i j (by simpa using hi') (by simpa using hj') hij
    apply hn
    rw [List.getElem_map, List.getElem_map, e1, e2, he]
  · rfl
end Go.Proofs.YtfhephcbjbdejaaGreatDoor.At

/- slices.SortFunc at attributes, by their keys. -/
namespace Go.Proofs.YtfhephcbjbdejaaGreatDoor.At
open Go.RowKit Go.Sort Go.Lib Go.Shelf Fx Lx

set_option maxHeartbeats 1000000 in
theorem clos_any (x y : Atr) (W : World) : Calls Tryz.prog 30 #[.agg #[.string x.1, .string x.2], .agg #[.string y.1, .string y.2]] W fun e w' => e = .returned (.int .i64 (cmpA x y)) ∧ ∃ q os', w' = grow (W.drewN q) os' := by
  have hcon := fun W' => Tryz.strings_Compare x.1 y.1 W'
  have e0 : Lib.compareBytes x.1.data.toList y.1.data.toList = cmpA x y := rfl
  rw [e0] at hcon
  generalize cmpA x y = r at hcon ⊢
  clear e0
  go_enter Tryz.func30, Tryz.ntmps30
  go_wp2_with (go_at_call 31; refine (hcon _).mono ?_; rintro e w' ⟨rfl, rfl⟩)
  go_ret
  exact ⟨rfl, 0, _, by rw [alloc_eq_grow, alloc_eq_grow, grow_grow]; rfl⟩
theorem clos_lays (blk off size : Nat) (w : World) : CmpLays Tryz.prog 30 #[] atrC 2 cmpA blk off size w :=
  fun _ _ _ _ x y => clos_any x y _
set_option maxHeartbeats 1000000 in
theorem ins_none (w : World) : Calls Tryz.prog 69 #[.slice none 0 0, .int .i64 0, .int .i64 0, .func (.func 30) #[] #[]] w fun e w' => e = .returned (.tuple #[]) ∧ w' = w := by
  go_enter Tryz.func69, Tryz.ntmps69
  go_wp2
  refine wp_loop_rounds 1 ?_
  rw [rounds_succ]
  go_wp2
  go_end0
  exact ⟨rfl, rfl⟩
set_option maxHeartbeats 1000000 in
theorem pdq_none (lim : Int) (w : World) : Calls Tryz.prog 54 #[.slice none 0 0, .int .i64 0, .int .i64 0, .int .i64 lim, .func (.func 30) #[] #[]] w fun e w' => e = .returned (.tuple #[]) ∧ w' = w := by
  go_enter Tryz.func54, Tryz.ntmps54
  go_wp2
  refine wp_loop_rounds 1 ?_
  rw [rounds_succ]
  go_wp2_with (go_at_call 69; refine (ins_none _).mono ?_; rintro e w' ⟨rfl, rfl⟩)
  (try simp only [Exit.inBlock, Exit.then]); refine bodyPost_ret (results_none rfl _ _ _) rfl ?_
  exact ⟨rfl, rfl⟩
set_option maxHeartbeats 1000000 in
theorem sort_none (w : World) : Calls Tryz.prog 29 #[.slice none 0 0, .func (.func 30) #[] #[]] w fun e w' => e = .returned (.tuple #[]) ∧ w' = w := by
  have hl := fun W => Tryz.bits_Len 0 W (by decide) (by decide)
  go_enter Tryz.func29, Tryz.ntmps29
  go_wp2_with (first | (go_at_call 55; refine (hl _).mono ?_; rintro e w' ⟨rfl, rfl⟩) | (go_at_call 54; refine (pdq_none _ _).mono ?_; rintro e w' ⟨rfl, rfl⟩))
  go_end0
  exact ⟨rfl, rfl⟩
theorem agg_atr (w : World) : (isAgg 39).run Tryz.prog w = .ok true w := by kernel_rfl
theorem size_atr (w : World) : (Go.sizeOf 39).run Tryz.prog w = .ok 2 w := by kernel_rfl
theorem holds_own {w : World} {B g cap : Nat} {O : List Atr} (h : w.ownsRow B 39 2 (.slice (some ⟨g, 0, none⟩) O.length cap) O.length (atrsC O)) : HoldsK atrC 2 w g 0 O.toArray ∧ g < w.heap.size := by
  obtain ⟨hl, h | ⟨g', cap', cur, hv, _, hg, _, _, hs, ht⟩⟩ := h
  · exact absurd h.1 (by simp)
  · injection hv with hv _ _; injection hv with hv; injection hv with hv _ _; subst hv
    refine ⟨fun t ht2 => ?_, (Array.getElem?_eq_some_iff.1 hg).1⟩
    rw [size_flatK] at ht2
    have ht3 : t < O.length * 2 := by simpa using ht2
    rw [get_flatK _ _ _ _ ht2]
    refine ⟨?_, by simp [World.frozen?, hg]⟩
    have h1 : (cur.toList.take (O.length * 2))[t]? = (atrsC O)[t]? := by rw [ht]
    rw [List.getElem?_take_of_lt ht3] at h1
    have hk : t / 2 < O.length := by omega
    have hat := atrsC_at O (t / 2) hk
    rw [Lib.cell_of_heap hg, Nat.zero_add, ← Array.getElem?_toList, h1]
    have e1 : O.toArray[t / 2]! = O[t / 2] := by simp [hk]
    rw [e1]
    rcases Nat.mod_two_eq_zero_or_one t with hm | hm
    · rw [hm]
      have ej : t = t / 2 * 2 := by omega
      have h2 := hat.1
      rw [← ej] at h2
      rw [h2]; rfl
    · rw [hm]
      have ej : t = t / 2 * 2 + 1 := by omega
      have h2 := hat.2
      rw [← ej] at h2
      rw [h2]; rfl
theorem sort_any (g cap B : Nat) (O : List Atr) (w : World) (hown : w.ownsRow B 39 2 (.slice (some ⟨g, 0, none⟩) O.length cap) O.length (atrsC O)) (hO : O.length ≤ 1000000) :
    Calls Tryz.prog 29 #[.slice (some ⟨g, 0, none⟩) O.length cap, .func (.func 30) #[] #[]] w fun e w' => e = .returned (.tuple #[]) ∧
      ∃ d : Array Atr, PermIn 0 O.toArray.size O.toArray d ∧ SortedIn (ltOf cmpA) 0 O.toArray.size d ∧ AtrIn w' (some ⟨g, 0, none⟩) d.toList ∧ w.grownBy w' (some g) := by
  have eg : ∀ args w, (callFunc 30 args).run Tryz.prog w = .ok (.enter 30 args) w := enters_of Tryz.func30 (by kernel_rfl) rfl
  obtain ⟨hH, hlt⟩ := holds_own hown
  have hcon := AnyQ.slices_SortFunc Tryz.sortAtr 2 agg_atr size_atr atrC (fun _ => rfl) (fun x v hv => by simp [atrC] at hv; rcases hv with rfl | rfl <;> rfl) cmpA cmpA_swo 30 #[] g 0 cap O.toArray w eg (clos_lays g 0 O.toArray.size w) hH hlt (by simp; omega)
  change Calls Tryz.prog 29 _ _ _ at hcon
  have hs : O.toArray.size = O.length := by simp
  rw [hs] at hcon ⊢
  refine hcon.mono ?_
  rintro e w' ⟨rfl, d, n, os, hp, hsd, rfl⟩
  refine ⟨rfl, d, hp, hsd, ?_, ?_⟩
  · have hd : d.size = O.toArray.size := by have := hp.1; simpa using this
    have hh := SWK.holds (⟨n, os, rfl⟩ : SWK atrC 2 w g 0 d _) hlt hH hd
    intro k hk
    have hk' : k < d.size := by simpa using hk
    have c0 := (hh.cell (i := k) (c := 0) hk' (by decide)).1
    have c1 := (hh.cell (i := k) (c := 1) hk' (by decide)).1
    have e1 : d[k]! = d.toList[k] := by rw [getElem!_pos d k hk']; simp
    rw [e1] at c0 c1
    exact ⟨g, 0, rfl, c0, c1⟩
  · refine ⟨rfl, rfl, rfl, ?_, fun k hk hne => ?_⟩
    · unfold sortWorldK; rw [size_grow, size_putRowK]; show w.heap.size ≤ w.heap.size + _; omega
    · unfold sortWorldK
      rw [heap_grow_old _ _ (by rw [size_putRowK]; exact hk)]
      have : g ≠ k := fun e => hne (by rw [e])
      simp [putRowK, putRow, mapBlock, Sort.ahead, Array.getElem?_modify, this]
end Go.Proofs.YtfhephcbjbdejaaGreatDoor.At

/- What the program's Merge returns. -/
namespace Go.Proofs.YtfhephcbjbdejaaGreatDoor.At
open Go.RowKit Go.Sort Go.Lib Go.Shelf Fx Lx

theorem AtrIn.turn {RS : Value → Option (DataW Value × List MemPlace)} {w w' : World} {r : Option Addr} {L : List Atr} {mb n : Nat} {D : DataW Value} (h : AtrIn w r L) (ho : w.ownsMap Tryz.prog 9 RS mb n D) (hg : w.grownBy w' (some mb)) : AtrIn w' r L := fun k hk => by
  obtain ⟨g, o, ha, h0, h1⟩ := h k hk
  obtain ⟨es, clock, hb, _⟩ := ho
  have hne : some g ≠ some mb := fun e => by
    injection e with e
    obtain ⟨ob, hob, hc⟩ := cells_of_cell h0
    have hob' : w.heap[g]? = some ob := hob
    rw [e, hb] at hob'
    injection hob' with hob'
    subst hob'
    cases hc
  exact ⟨g, o, ha, hg.cell h0 hne, hg.cell h1 hne⟩
theorem mrg_nil (L : List Atr) (h : ∀ x v, (x, v) ∈ ([] : List Atr) ↔ getT L x = (v, true)) : mrgT L = [] := (mrgT_is L [] (by simp [Asc]) h).symm
theorem ranges_ne {RS : Value → Option (DataW Value × List MemPlace)} {w : World} {B : Nat} {v : Value} {n m : Nat} {xs : List Value} {mb rb : Nat} {D : DataW Value} {left : Lit → Bool} {cnt : Nat} (_ : w.ranges Tryz.prog 9 RS mb rb m D left cnt) (ho : w.ownsRow B 39 2 v n xs) (h1 : mb < B) (h2 : rb < B) : some mb ≠ v.ownBlock ∧ some rb ≠ v.ownBlock :=
  ⟨fun e => by have := (ho.lt mb e.symm).1; omega, fun e => by have := (ho.lt rb e.symm).1; omega⟩

set_option maxHeartbeats 4000000 in
set_option maxRecDepth 100000 in
theorem mrg_any (a b : Option Addr) (La Lb : List Atr) (ca cb : Nat) (w : World) (ha : AtrIn w a La) (hb : AtrIn w b Lb) (na : a = none → ca = 0) (nb : b = none → cb = 0) (hA : La.length ≤ 1000) (hB : Lb.length ≤ 1000)
    (hs : ∀ q ∈ La ++ Lb, q.1.size ≤ maxLen ∧ q.2.size ≤ maxLen) :
    Calls Tryz.prog 14 #[.slice a La.length ca, .slice b Lb.length cb] w fun e w' => AtrRes (mrgT (La ++ Lb)) e w' ∧ Ext w w' := by
  have hmm := @run_makeMap Tryz.prog
  have h0 := World.ownsMap_made w Tryz.prog 9 (plainElem (H := Value) Tryz.prog 9)
  obtain ⟨wm, hwm⟩ : ∃ wm, wm = w.alloc (.map #[] 0) := ⟨_, rfl⟩
  obtain ⟨wg, hwg⟩ : ∃ wg, wg = wm.alloc (.cells #[.slice a La.length ca, .slice b Lb.length cb] 22) := ⟨_, rfl⟩
  have hxm : Ext w wm := by rw [hwm]; exact (Ext.refl _).alloc _
  have hxg : Ext w wg := by rw [hwg]; exact hxm.alloc _
  have hmg : wg.ownsMap Tryz.prog 9 (plainElem (H := Value) Tryz.prog 9) w.heap.size 0 (.map []) := by rw [hwg, hwm]; exact h0.alloc _
  have hsm : wm.heap.size = w.heap.size + 1 := by rw [hwm]; simp
  have hbg : wg.heap[wm.heap.size]? = some (.cells #[.slice a La.length ca, .slice b Lb.length cb] 22 (0, 0)) := by rw [hwg]; exact World.alloc_heap_new _ _
  have hcat := concat_any (w.heap.size + 1) a b La Lb ca cb wg (by rw [← hsm]; exact two_cells hbg 0 _ rfl) (by rw [← hsm]; exact two_cells hbg 1 _ rfl) (ha.ext hxg) (hb.ext hxg) na nb hA hB
  obtain ⟨L, hL⟩ : ∃ L, L = La ++ Lb := ⟨_, rfl⟩
  obtain ⟨N, hN⟩ : ∃ N, N = L.length := ⟨_, rfl⟩
  have hNb : N ≤ 2000 := by rw [hN, hL]; simp; omega
  have hwg' : wg = (w.alloc (.map #[] 0)).alloc (.cells #[.slice a La.length ca, .slice b Lb.length cb] 22) := by rw [hwg, hwm]
  rw [← hL] at hcat hs ⊢
  have HCAT := Lib.hid hcat; have HN := Lib.hid hN; have HS := Lib.hid hs; have HMG := Lib.hid hmg; have HXG := Lib.hid hxg; have HWG := Lib.hid hwg'
  obtain ⟨R, hR⟩ : ∃ R, R = mrgT L := ⟨_, rfl⟩
  have HR := Lib.hid hR
  rw [← hR]
  clear hcat hN hs hmg hxg hwg' hwg hwm h0 hxm hsm hbg ha hb na nb hL hR
  generalize La.length = A at *
  generalize Lb.length = B at *
  obtain ⟨i0, hi, hz0, hz1, hz2⟩ := info_parts info_atr
  go_enter Tryz.func14, Tryz.ntmps14
  go_wp2_with fail
  rw [← HWG.out]
  refine HCAT.out.mono ?_
  rintro e wc ⟨⟨r, c, rfl, hri, hrn⟩, xc⟩
  rw [← HN.out]
  obtain ⟨mb, hmb⟩ : ∃ mb, mb = w.heap.size := ⟨_, rfl⟩
  have HMB := Lib.hid hmb
  have hmc : wc.ownsMap Tryz.prog 9 (plainElem (H := Value) Tryz.prog 9) mb 0 (.map []) := by
    obtain ⟨es, clock, hbk, hrest⟩ := HMG.out
    rw [hmb]
    exact ⟨es, clock, (xc.block _ HMG.out.lt).trans hbk, hrest⟩
  have HMC := Lib.hid hmc
  have HRI := Lib.hid hri
  have HXC := Lib.hid (HXG.out.trans xc)
  rw [← hmb]
  clear hmc hri xc hmb
  go_wp2_with fail
  go_loopw [17] (fun i' wr => ∃ (k n : Nat) (D : DataW Value), k ≤ N ∧ i' = .int .i64 k ∧ n ≤ k ∧ Hid (wr.ownsMap Tryz.prog 9 (plainElem (H := Value) Tryz.prog 9) mb n D) ∧ Hid (MapIs D (L.take k)) ∧ Hid (AtrIn wr r L) ∧ Ext w wr)
    (fun i' _ => N - (RowKit.intOf i').toNat)
  case atStart => exact ⟨0, 0, .map [], by omega, rfl, by omega, HMC, Lib.hid MapIs.nil, HRI, HXC.out⟩
  case round =>
    obtain ⟨k, n, D, hk, rfl, hn, hown, hmi, hin, hx⟩ := hrel
    clear HMC HRI HXC
    by_cases hlt : k < N
    · have hkl : k < L.length := by rw [← HN.out]; exact hlt
      obtain ⟨g, o, rfl, c0, c1⟩ := hin.out k hkl
      obtain ⟨hq1, hq2⟩ := HS.out _ (List.getElem_mem hkl)
      have hmi2 := hmi.out.put L[k].1 L[k].2
      rw [show L.take k ++ [(L[k].1, L[k].2)] = L.take (k + 1) by rw [List.take_succ_eq_append_getElem hkl]] at hmi2
      generalize L[k].1 = q1 at c0 hq1 hmi2
      generalize L[k].2 = q2 at c1 hq2 hmi2
      obtain ⟨w', r1, h1, g1⟩ := (hown.out.alloc (.cells #[.string q1, .string q2] 39)).update key9 Tryz.underlying53 (by unfold maxLen; omega) (key := .string q1) (val := .string q2) (Go.WideMaps.keyOf_string_mk Tryz.underlying9 hq1) (plainElem_string Tryz.underlying9 hq2)
      have x1 : Ext w w' := Below.grown (hx.alloc _) g1 (hx.alloc _).size (fun k hk => by injection hk with hk; have := HMB.out; omega)
      have hin1 : AtrIn w' (some ⟨g, o, none⟩) L := (hin.out.ext ((Ext.refl _).alloc _)).turn (hown.out.alloc _) g1
      have H1 := Lib.hid h1; have HI1 := Lib.hid hin1; have HM2 := Lib.hid hmi2
      clear h1 g1 hin1 hmi2 hown hmi hin hq1 hq2
      go_wp2
      go_roundw
      case rel => exact ⟨k + 1, n + 1, _, by omega, by go_num, by omega, H1, HM2, HI1, x1⟩
      case measure => simp [RowKit.intOf]; omega
    · have hkn : k = N := by omega
      subst hkn
      have hmi2 : MapIs D L := by
        have := hmi.out
        rwa [List.take_of_length_le (by rw [← HN.out]; exact Nat.le_refl _)] at this
      have HM := Lib.hid hmi2
      have HX := Lib.hid hx
      have hmlt : mb < wr.heap.size := hown.out.lt
      have hws : w.heap.size ≤ wr.heap.size := hx.size
      clear hmi hmi2 hin hx
      go_wp2_with (at_range; refine wpList_range_own _ rfl _ 53 rfl 9 9 key9 Tryz.underlying53 _ mb n D rfl hown.out ?_; intro w0 hrg0 hg0 hs0)
      go_frame
      obtain ⟨rb, hrb⟩ : ∃ rb, rb = wr.heap.size := ⟨_, rfl⟩
      have hx0 : Ext w w0 := Below.grown HX.out hg0 HX.out.size (fun k hk => by cases hk)
      have HX0 := Lib.hid hx0
      have HRG0 := Lib.hid hrg0
      obtain ⟨B0, hB0⟩ : ∃ B0, B0 = w0.heap.size := ⟨_, rfl⟩
      have HB0 := Lib.hid hB0
      have hbr : rb + 1 = B0 := by rw [hrb, hB0, hs0]
      have hmr : mb < rb := by rw [hrb]; exact hmlt
      have hwr : w.heap.size ≤ rb := by rw [hrb]; exact hws
      rw [← hrb] at HRG0
      rw [← hrb]
      clear hown HX hg0 hs0 hrb hx0 hrg0 hB0 hmlt hws
      go_loopw [8] (fun out wr => ∃ (left : Lit → Bool) (cnt : Nat) (O : List Atr), Hid (wr.ranges Tryz.prog 9 (plainElem (H := Value) Tryz.prog 9) mb rb n D left cnt) ∧ Hid (wr.ownsRow B0 39 2 out O.length (atrsC O)) ∧ Hid (Coll L left O) ∧ Ext w wr ∧ O.length + cnt ≤ n)
        (fun _ wr => wr.rangeLeft mb rb)
      case atStart => exact ⟨_, _, [], HRG0, Lib.hid (World.ownsRow_nil _ _ _ _), Lib.hid (Coll.start HM.out), HX0.out, by have := HRG0.out.owns.size_le; simpa using this⟩
      case round =>
        obtain ⟨left, cnt, O, hrg, hown, hco, hx, hcn⟩ := hrel
        clear HRG0 HX0
        go_wp2_with (at_next; refine wpList_next_ranges _ rfl _ rfl 9 key9 (plainElem (H := Value) Tryz.prog 9) Value.string Value.string (fun key kl hk => by obtain ⟨z, e, _, _⟩ := Go.WideMaps.string_of_keyOf Tryz.underlying9 hk; exact ⟨z, e⟩) (fun v y hv => by obtain ⟨z, e, _, _⟩ := plainElem_string_inv Tryz.underlying9 hv; exact ⟨z, e⟩) mb rb n D left cnt rfl hrg.out ?_ ?_)
        · intro _ hl
          have hcd := hco.out.done hl
          have HCD := Lib.hid hcd
          have hOl : O.length ≤ 1000000 := by omega
          rcases hown.out.2 with ⟨rfl, hO0⟩ | ⟨g, cap, cur, rfl, hgB, _⟩
          · have hO : O = [] := List.eq_nil_of_length_eq_zero hO0
            subst hO
            have hm : R = [] := by rw [HR.out]; exact mrg_nil L hcd.2
            have HM2 := Lib.hid hm
            clear hcd hl hm hown hco hrg hO0 hcn hOl
            go_wp2_with (go_at_call 29; refine (sort_none _).mono ?_; rintro e w' ⟨rfl, rfl⟩)
            go_returns
            rw [HM2.out]
            exact ⟨⟨none, 0, rfl, fun k h => absurd h (by simp), fun _ => rfl⟩, hx⟩
          · have hso := sort_any g cap B0 O wr hown.out hOl
            have HSO := Lib.hid hso
            have hsz := hx.size
            have hb0 := HB0.out
            clear hcd hl hown hco hrg hcn hOl hso
            go_wp2_with (go_at_call 29; refine HSO.out.mono ?_; rintro e w' ⟨rfl, d, hp, hsd, hin2, hg2⟩; have HP := Lib.hid hp; have HSD := Lib.hid hsd; have HIN2 := Lib.hid hin2; clear hp hsd hin2)
            go_returns
            have hd := sorted_mrg L O d HCD.out HP.out HSD.out
            have hdl : O.length = R.length := by
              rw [HR.out, ← hd]; have := HP.out.1; simpa using this.symm
            refine ⟨⟨some ⟨g, 0, none⟩, cap, by rw [hdl]; rfl, ?_, fun e => by cases e⟩, Below.grown hx hg2 hx.size (fun k hk => by injection hk with hk; omega)⟩
            rw [HR.out, ← hd]; exact HIN2.out
        · intro x c kl y1 y2 w1 cnt1 hkey hlk hR hat hrg1 hlt1 hg1 hs1 hen
          obtain ⟨z, e, rfl, hxs⟩ := Go.WideMaps.string_of_keyOf Tryz.underlying9 hkey
          injection e with e
          subst e
          obtain ⟨z2, e, e2, hcs⟩ := plainElem_string_inv Tryz.underlying9 hR
          injection e with e
          subst e
          injection e2 with e2 e3
          subst e2
          subst e3
          have hco2 := hco.out.step HM.out x c hlk hat
          have hne := ranges_ne hrg.out hown.out (show mb < B0 by omega) (show rb < B0 by omega)
          have own1 := hown.out.kept hg1 (.inr hne.2.symm)
          have x1 : Ext w w1 := Below.grown hx hg1 hx.size (fun k hk => by injection hk with hk; omega)
          have OWN1 := Lib.hid own1; have HCO2 := Lib.hid hco2; have HRG1 := Lib.hid hrg1; have X1 := Lib.hid x1; have HNE := Lib.hid hne
          have hs1' : B0 ≤ w1.heap.size := by have := hrg.out.lt; have := HB0.out; have := hx.size; omega
          clear hkey hlk hR hat hg1 own1 hco2 hco hown hrg1 x1 hne
          go_wp2_with (at_builtin; refine wpList_append_lies _ rfl _ _ 22 rfl B0 39 i0 _ 2 32 Tryz.underlying22 hi hz0 hz1 hz2 rfl (by decide) _ _ _ rfl (OWN1.out.alloc _) _ 1 1 (atrC (x, c)) rfl rfl ?c1 ?c2 (by decide) ?c3 ?c4 ?c5 _ rfl ?_)
          case c1 => exact fun j u hj => by have h := cell_new1 w1 (atrC (x, c)) 39 j u hj; rw [hs1] at h; exact h
          case c2 => intro u hu; simp [atrC] at hu; rcases hu with rfl | rfl <;> rfl
          case c3 => unfold maxLen; omega
          case c4 => omega
          case c5 => simp; omega
          intro g2 cap2 w2 hown' hgrow _ _
          have hrg2 := (HRG1.out.alloc (.cells #[.string x, .string c] 39)).kept hgrow HNE.out.1 HNE.out.2
          have hx2 : Ext w w2 := own_grow (X1.out.alloc _) (OWN1.out.alloc _) (by omega) hgrow
          have hown2 : w2.ownsRow B0 39 2 (.slice (some ⟨g2, 0, none⟩) (O.length + 1) cap2) (O ++ [(x, c)]).length (atrsC (O ++ [(x, c)])) := by rw [atrsC_snoc, List.length_append]; exact hown'
          have HRG2 := Lib.hid hrg2; have HOWN2 := Lib.hid hown2; have HX2 := Lib.hid hx2
          clear hrg2 hown2 hx2 hown' hgrow
          go_wp2
          go_roundw
          case rel => exact ⟨_, cnt1, O ++ [(x, c)], HRG2, HOWN2, HCO2, HX2.out, by simp; omega⟩
          case measure => rw [HRG2.out.left_eq, hrg.out.left_eq]; omega
end Go.Proofs.YtfhephcbjbdejaaGreatDoor.At
