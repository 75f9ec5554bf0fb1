/- Packed texts: TreVal, TreList, TreLisR -/
import Derived.Test.YtnjnfkfmkbnkhaaGreatDoorPa05
import Derived.Test.YtnjnfkfmkbnkhaaGreatDoorPa12
import Derived.Test.YtnjnfkfmkbnkhaaGreatDoorPa11
import Derived.OwnWalk
import Derived.Deep.RegionHeld3
import Derived.Deep.AppendLies
import Derived.Deep.QuietTactic
import Derived.BigQuiet
import Derived.Lib.QuietBelow
set_option linter.unusedVariables false
set_option linter.unusedSimpArgs false
/- What the printer's value and listed return. -/
namespace Go.Proofs.YtnjnfkfmkbnkhaaGreatDoor.Tr
open Go.RowKit Go.Sort Go.Lib Go.Shelf Fx Lx

set_option maxHeartbeats 4000000 in
/-- The text of a value. -/
theorem value_any (s : ByteArray) (w : World) (hs : s.size < 4294967281) (he : Env w) :
    Calls Tryz.prog 42 #[.string s] w fun e w' => e = .returned (.string ⟨(valueT s).toArray⟩) ∧ Ext w w' := by
  have hnm := isName_any s (by omega) w
  have hps := parse_any s w hs he
  have hqt := fun w' => Qo.quote_any s w' (by omega)
  obtain ⟨V, hV⟩ : ∃ V : ByteArray, V = ⟨(valueT s).toArray⟩ := ⟨_, rfl⟩
  rw [← hV]
  have hmk : (⟨s.data.toList.toArray⟩ : ByteArray) = s := Lib.mk_data s
  unfold valueT at hV
  unfold Qo.quoteV at hqt
  generalize nameB s.data.toList = p at *
  generalize (parse s.data.toList).1 = u at *
  generalize (parse s.data.toList).2 = k at *
  generalize (quote s.data.toList).1 = t at *
  generalize (quote s.data.toList).2 = r at *
  have HN := Lib.hid hnm; have HP := Lib.hid hps; have HQ := Lib.hid hqt
  clear hnm hps hqt hs he
  cases p
  · rw [if_neg (by decide)] at hV
    by_cases hk : k = 0
    · rw [if_pos hk, hmk] at hV
      subst hk
      have hf := Lib.hid hV
      clear hV
      go_enter Tryz.func42, Tryz.ntmps42
      go_wp2_with (first | (go_at_call 34; refine HN.out.mono ?_; rintro e w3 ⟨rfl, rfl⟩) | (go_at_call 54; refine HP.out.mono ?_; rintro e w1 ⟨rfl, x1⟩))
      go_ret
      exact ⟨by rw [hf.out]; rfl, x1⟩
    · rw [if_neg hk] at hV
      obtain ⟨f0, f0'⟩ := ne_facts hk
      have hf := Lib.hid hV
      clear hV hk
      go_enter Tryz.func42, Tryz.ntmps42
      go_wp2_with (first | (go_at_call 34; refine HN.out.mono ?_; rintro e w3 ⟨rfl, rfl⟩) | (go_at_call 54; refine HP.out.mono ?_; rintro e w1 ⟨rfl, x1⟩) | (go_at_call 77; refine (HQ.out _).mono ?_; rintro e w2 ⟨rfl, x2⟩))
      go_ret
      exact ⟨by rw [hf.out]; rfl, x1.trans x2⟩
  · rw [if_pos rfl, hmk] at hV
    have hf := Lib.hid hV
    clear hV
    go_enter Tryz.func42, Tryz.ntmps42
    go_wp2_with (go_at_call 34; refine HN.out.mono ?_; rintro e w3 ⟨rfl, rfl⟩)
    go_ret
    exact ⟨by rw [hf.out]; rfl, Ext.refl _⟩
end Go.Proofs.YtnjnfkfmkbnkhaaGreatDoor.Tr

/- What the printer's listed and tail return. -/
namespace Go.Proofs.YtnjnfkfmkbnkhaaGreatDoor.Tr
open Go.RowKit Go.Sort Go.Lib Go.Shelf Fx Lx

theorem info_str : (Tryz.prog.info? 9).map (fun i => (i.zero, i.size, i.bytes)) = some (some (.string ⟨#[]⟩), 1, 16) := by kernel_rfl
def strsV (L : List (List UInt8)) : List Value := L.map (fun l => .string ⟨l.toArray⟩)
theorem sepT_join (sep : List UInt8) : ∀ L : List (List UInt8), sepT sep L = Lib.join L sep
  | [] => rfl
  | [x] => by rw [sepT, Lib.join_one]
  | x :: y :: r => by
    rw [sepT, sepT_join sep (y :: r), Lib.join_cons, Lib.join_cons]
    simp [Lib.joinTail, List.append_assoc]
theorem mapBack (L : List (List UInt8)) : (L.map (fun l => (⟨l.toArray⟩ : ByteArray))).map (fun b => b.data.toList) = L := by
  rw [List.map_map]; exact List.map_id L
theorem kv_app (k : ByteArray) (v : List UInt8) : k ++ (⟨#[61]⟩ : ByteArray) ++ (⟨v.toArray⟩ : ByteArray) = ⟨(k.data.toList ++ 61 :: v).toArray⟩ := by
  apply ByteArray.ext
  simp [ByteArray.data_append]
theorem br_app (l : List UInt8) : (⟨#[91]⟩ : ByteArray) ++ (⟨l.toArray⟩ : ByteArray) ++ (⟨#[93]⟩ : ByteArray) = ⟨(91 :: (l ++ [93])).toArray⟩ := by
  apply ByteArray.ext
  simp [ByteArray.data_append]
theorem atr2_cells (w : World) (k v : ByteArray) : ∀ w1, Ext (w.alloc (.cells #[.string k, .string v] 30)) w1 →
    w1.cell? ⟨w.heap.size, 0, none⟩ = some (.string k) ∧ w1.cell? ⟨w.heap.size, 1, none⟩ = some (.string v) := fun w1 x => by
  have hb := heap_alloc_new w (.cells #[.string k, .string v] 30)
  refine ⟨x.cell ?_, x.cell ?_⟩ <;> rw [Lib.cell_of_heap hb] <;> rfl
theorem own_ext' {w w' : World} {B : Nat} {e : TypeId} {sz : Nat} {v : Value} {n : Nat} {xs : List Value} (h : w.ownsRow B e sz v n xs) (x : Ext w w') : w'.ownsRow B e sz v n xs := by
  refine ⟨h.1, ?_⟩
  rcases h.2 with h1 | ⟨g, cap, cur, hv, hb, hg, r⟩
  · exact .inl h1
  · exact .inr ⟨g, cap, cur, hv, hb, (x.block g (Array.getElem?_eq_some_iff.1 hg).1).trans hg, r⟩
theorem sepT_le (sep x : List UInt8) : ∀ L : List (List UInt8), x ∈ L → x.length ≤ (sepT sep L).length
  | [y], h => by rw [List.mem_singleton] at h; subst h; rw [sepT]; exact Nat.le_refl _
  | y :: z :: r, h => by
    rw [sepT, List.length_append, List.length_append]
    rcases List.mem_cons.1 h with rfl | h
    · omega
    · have := sepT_le sep x (z :: r) h; omega
theorem attr_le (L : List Two) (q : Two) (h : q ∈ L) : q.1.size + 1 + (valueT q.2).length ≤ (listedT L).length := by
  have := sepT_le [44, 32] (attrT q) (L.map attrT) (List.mem_map_of_mem h)
  unfold listedT
  rw [List.length_cons, List.length_append]
  have e : (attrT q).length = q.1.size + ((valueT q.2).length + 1) := by
    unfold attrT; rw [List.length_append, List.length_cons, ← size_len]
  omega
set_option maxHeartbeats 4000000 in
set_option maxRecDepth 100000 in
theorem listed_any (a : Option Addr) (L : List Two) (cap : Nat) (w : World) (h : TwoIn w a L) (hL : L.length ≤ 2000000) (hs : ∀ q ∈ L, q.2.size < 4294967281) (hlen : (listedT L).length ≤ 140737488355328) (he : Env w) :
    Calls Tryz.prog 25 #[.slice a L.length cap] w fun e w' => e = .returned (.string ⟨(listedT L).toArray⟩) ∧ Ext w w' := by
  obtain ⟨i0, hi, hz0, hz1, hz2⟩ := info_parts info_str
  obtain ⟨V, hV⟩ : ∃ V : ByteArray, V = ⟨(listedT L).toArray⟩ := ⟨_, rfl⟩
  rw [← hV]
  have HV := Lib.hid hV; have HLEN := Lib.hid hlen
  obtain ⟨N, hN⟩ : ∃ N, N = L.length := ⟨_, rfl⟩
  rw [← hN] at hL ⊢
  have HN := Lib.hid hN; have HI := Lib.hid h; have HS := Lib.hid hs; have HE := Lib.hid he
  clear hV hlen hN h hs he
  go_enter Tryz.func25, Tryz.ntmps25
  go_wp2
  go_loopw [3, 8] (fun p i' wr => ∃ (k : Nat) (v : Value), k ≤ N ∧ v = p ∧ i' = .int .i64 k ∧ Ext w wr ∧ Hid (wr.ownsRow w.heap.size 9 1 v k (strsV ((L.take k).map attrT)))) (fun _ i' _ => N - (RowKit.intOf i').toNat)
  case atStart => exact ⟨0, _, by omega, rfl, rfl, Ext.refl _, Lib.hid (by rw [List.take_zero]; exact World.ownsRow_nil _ _ _ _)⟩
  case round =>
    obtain ⟨k, v, hk, rfl, rfl, hx, hown⟩ := hrel
    by_cases hlt : k < N
    · have hkl : k < L.length := by rw [← HN.out]; exact hlt
      obtain ⟨g, o, rfl, c0, c1⟩ := (HI.out.ext hx) k hkl
      obtain ⟨n, d, hq⟩ : ∃ n d, L[k] = (n, d) := ⟨_, _, rfl⟩
      rw [hq] at c0 c1
      have hds := HS.out _ (List.getElem_mem hkl)
      rw [hq] at hds
      have hxb : Ext wr (wr.alloc (.cells #[.string n, .string d] 30)) := (Ext.refl _).alloc _
      have hval := fun w1 (x : Ext (wr.alloc (.cells #[.string n, .string d] 30)) w1) => value_any d w1 hds (HE.out.ext ((hx.trans hxb).trans x))
      obtain ⟨t, ht⟩ : ∃ t : ByteArray, t = ⟨(valueT d).toArray⟩ := ⟨_, rfl⟩
      rw [← ht] at hval
      have hle := attr_le L _ (List.getElem_mem hkl)
      rw [hq] at hle
      have n9 : n.size ≤ 140737488355328 := by have := HLEN.out; dsimp only at hle; omega
      have t9 : t.size ≤ 140737488355328 := by have := HLEN.out; dsimp only at hle; rw [ht]; simp [ByteArray.size]; omega
      clear hle
      have hpart : strsV ((L.take (k + 1)).map attrT) = strsV ((L.take k).map attrT) ++ [.string (n ++ ⟨#[61]⟩ ++ t)] := by
        rw [List.take_succ_eq_append_getElem hkl, List.map_append, hq, ht, kv_app]
        unfold strsV
        rw [List.map_append]
        rfl
      have hadd : ∀ w, (Op.stringOp .add n ⟨#[61]⟩).run Tryz.prog w = .ok (.string (n ++ ⟨#[61]⟩)) w := fun w => run_string_add_sum w _ _ (by show _ + 1 ≤ _; omega)
      have hadd2 : ∀ w, (Op.stringOp .add (n ++ ⟨#[61]⟩) t).run Tryz.prog w = .ok (.string (n ++ ⟨#[61]⟩ ++ t)) w := fun w => run_string_add_sum w _ _ (by rw [ByteArray.size_append]; show _ + 1 + _ ≤ _; omega)
      have hat := atr2_cells wr n d
      have HVAL := Lib.hid hval; have HAT := Lib.hid hat; have HP := Lib.hid hpart
      have hwl := fun k hk => (hown.out.lt k hk).2
      have HWL := Lib.hid hwl
      clear hval hat hpart ht hq hds hkl hwl
      have e0 := (HAT.out _ (Ext.refl _)).1
      have e1 := (HAT.out _ (Ext.refl _)).2
      go_wp2_with fail
      go_region_held3 (fun w' => w'.cell? ⟨wr.heap.size, 0, none⟩ = some (.string n) ∧ w'.cell? ⟨wr.heap.size, 1, none⟩ = some (.string d))
        (first | exact ⟨e0, e1⟩ | exact HAT.out _ x1 | exact HAT.out _ (x1.alloc _) | exact s2)
        (first
          | (go_at_call 42; refine (HVAL.out _ ((Ext.refl _).drew)).mono ?_; rintro e w1 ⟨rfl, x1⟩; replace x1 : Ext (wr.alloc (.cells #[.string n, .string d] 30)) w1 := ((Ext.refl _).drew).trans x1)
          | (refine step_append_lies _ (by rfl) _ _ _ (by rfl) w.heap.size 9 i0 _ 1 16 Tryz.underlying37 hi hz0 hz1 hz2 rfl (by omega) v k (strsV ((L.take k).map attrT)) (by rfl) (own_ext' hown.out ((hxb.trans x1).alloc _))
              ⟨w1.heap.size, 0, none⟩ 1 1 [.string (n ++ ⟨#[61]⟩ ++ t)] (by rfl) (by rfl) (World.news_of_block (cs := #[.string (n ++ ⟨#[61]⟩ ++ t)]) (t := 9) (fr := (0, 0)) (heap_alloc_new w1 _)) (by simp [Value.oneCell'])
              (by omega) (by unfold maxLen; omega) (by omega) (by have := ((hx.trans hxb).trans x1).size; simp; omega) (w1.heap.size + 1) (by simp) ?_; intro gg cp w2 hown1 hgrow hat2 hlt2; have s2 : w2.cell? ⟨wr.heap.size, 0, none⟩ = some (.string n) ∧ w2.cell? ⟨wr.heap.size, 1, none⟩ = some (.string d) := (by
              have q := HAT.out _ (x1.alloc (.cells #[.string (n ++ ⟨#[61]⟩ ++ t)] 9))
              have hsz := x1.size
              simp only [World.size_alloc] at hsz
              constructor
              · rw [hgrow.cell_far _ (by simp; omega) (fun e => absurd (HWL.out _ e.symm) (Nat.lt_irrefl _))]; exact q.1
              · rw [hgrow.cell_far _ (by simp; omega) (fun e => absurd (HWL.out _ e.symm) (Nat.lt_irrefl _))]; exact q.2)))
      go_wp2
      go_roundw
      case rel => exact ⟨k + 1, _, by omega, rfl, by go_num, (((hx.trans hxb).trans x1).alloc (.cells #[.string (n ++ ⟨#[61]⟩ ++ t)] 9)).grown hgrow (by have := ((hx.trans hxb).trans x1).size; simp; omega) (fun k hk => (hown.out.lt k hk).1), Lib.hid (by rw [HP.out]; exact hown1)⟩
      case measure => simp [RowKit.intOf]; omega
    · have hkn : k = L.length := by have := HN.out; omega
      have hown' := hown.out
      rw [hkn, List.take_length, ← hkn] at hown'
      obtain ⟨J, hJ⟩ : ∃ J : ByteArray, J = ⟨(sepT [44, 32] (L.map attrT)).toArray⟩ := ⟨_, rfl⟩
      have hVJ : V = ⟨#[91]⟩ ++ J ++ ⟨#[93]⟩ := by rw [HV.out, hJ, br_app]; rfl
      have hJl : J.size + 2 ≤ 140737488355328 := by
        have := HLEN.out
        unfold listedT at this
        rw [List.length_cons, List.length_append] at this
        rw [hJ, size_mk]; simp only [List.length_cons, List.length_nil] at this; omega
      have hjn : Calls Tryz.prog 43 #[v, .string ⟨#[44, 32]⟩] wr fun e w' => e = .returned (.string J) ∧ Ext wr w' := by
        rcases hown'.2 with ⟨rfl, h0⟩ | ⟨g, cp, cur, rfl, hbg, hg, r1, r2, r3, r4⟩
        · have hL0 : L = [] := List.eq_nil_of_length_eq_zero (by omega)
          refine (Tryz.strings_Join_none none 0 _ wr).mono ?_
          rintro e w' ⟨rfl, rfl⟩
          exact ⟨by rw [hJ, hL0]; rfl, Ext.refl _⟩
        · have hc := Tryz.strings_Join g 0 cp ((L.map attrT).map (fun l => (⟨l.toArray⟩ : ByteArray))) ⟨#[44, 32]⟩ wr (fun j x hjx => by
              have hc := hown'.cells (g := g) rfl j (.string x) (by
                unfold strsV
                rw [List.getElem?_map] at hjx ⊢
                obtain ⟨y, hy, rfl⟩ := Option.map_eq_some_iff.1 hjx
                rw [hy]; rfl)
              have ha : (⟨g, 0, none⟩ : Addr).add j = ⟨g, 0 + j, none⟩ := by unfold Addr.add; split <;> simp_all
              rw [ha] at hc; exact hc) (Array.getElem?_eq_some_iff.1 hg).1 (by simp; omega) (by simp; omega) (by
              rw [mapBack, show (⟨#[44, 32]⟩ : ByteArray).data.toList = [44, 32] from rfl, ← sepT_join]
              rw [hJ, size_mk] at hJl; omega)
          rw [mapBack, show (⟨#[44, 32]⟩ : ByteArray).data.toList = [44, 32] from rfl, ← sepT_join, ← hJ, List.length_map, List.length_map, ← hkn] at hc
          exact hc
      have hadd : ∀ w, (Op.stringOp .add ⟨#[91]⟩ J).run Tryz.prog w = .ok (.string (⟨#[91]⟩ ++ J)) w := fun w => run_string_add_sum w _ _ (by show 1 + _ ≤ _; omega)
      have hadd2 : ∀ w, (Op.stringOp .add (⟨#[91]⟩ ++ J) ⟨#[93]⟩).run Tryz.prog w = .ok (.string (⟨#[91]⟩ ++ J ++ ⟨#[93]⟩)) w := fun w => run_string_add_sum w _ _ (by rw [ByteArray.size_append]; show 1 + _ + 1 ≤ _; omega)
      have HJN := Lib.hid hjn; have HVJ := Lib.hid hVJ
      clear hjn hVJ hJ hkn hown' hown
      go_wp2_with (go_at_call 43; refine HJN.out.mono ?_; rintro e w1 ⟨rfl, x1⟩)
      go_returns
      exact ⟨by rw [HVJ.out]; rfl, hx.trans x1⟩
theorem sp_app (l : List UInt8) : (⟨#[32]⟩ : ByteArray) ++ (⟨l.toArray⟩ : ByteArray) ++ (⟨#[59]⟩ : ByteArray) = ⟨(32 :: (l ++ [59])).toArray⟩ := by
  apply ByteArray.ext
  simp [ByteArray.data_append]
set_option maxHeartbeats 4000000 in
theorem tail_any (a : Option Addr) (L : List Two) (cap : Nat) (w : World) (h : TwoIn w a L) (hL : L.length ≤ 2000000) (hs : ∀ q ∈ L, q.2.size < 4294967281) (hlen : (tailT L).length ≤ 140737488355328) (he : Env w) :
    Calls Tryz.prog 93 #[.slice a L.length cap] w fun e w' => e = .returned (.string ⟨(tailT L).toArray⟩) ∧ Ext w w' := by
  by_cases h0 : L = []
  · subst h0
    clear h hs hlen
    go_enter Tryz.func93, Tryz.ntmps93
    go_wp2
    go_ret
    exact ⟨rfl, Ext.refl _⟩
  · have hT : tailT L = 32 :: (listedT L ++ [59]) := by
      unfold tailT; rw [if_neg (by simpa using h0)]
    rw [hT] at hlen ⊢
    have hl := listed_any a L cap w h hL hs (by simp at hlen; omega) he
    rw [← sp_app]
    have t9 : (⟨(listedT L).toArray⟩ : ByteArray).size ≤ 140737488355328 := by simp [ByteArray.size] at hlen ⊢; omega
    generalize (⟨(listedT L).toArray⟩ : ByteArray) = T at *
    have f1 : ((L.length : Int) == 0) = false := by
      rw [beq_eq_false_iff_ne]
      have := List.length_pos_iff.2 h0
      omega
    generalize L.length = N at *
    have HL := Lib.hid hl
    clear hl h hs hlen hT he h0
    go_enter Tryz.func93, Tryz.ntmps93
    go_wp2_with (go_at_call 25; refine HL.out.mono ?_; rintro e w1 ⟨rfl, x1⟩)
    go_ret
    exact ⟨rfl, x1⟩
end Go.Proofs.YtnjnfkfmkbnkhaaGreatDoor.Tr

/- What the document's list, after and refs return. -/
namespace Go.Proofs.YtnjnfkfmkbnkhaaGreatDoor.Tr
open Go.RowKit Go.Sort Go.Lib Go.Shelf Fx Lx

abbrev bs (l : List UInt8) : ByteArray := ⟨l.toArray⟩
theorem bs_app (a b : List UInt8) : bs a ++ bs b = bs (a ++ b) := by
  apply ByteArray.ext; simp [ByteArray.data_append]
theorem bs_data (s : ByteArray) : bs s.data.toList = s := by cases s; simp
theorem bs_size (l : List UInt8) : (bs l).size = l.length := by simp [ByteArray.size]
theorem add_run (a b : ByteArray) (h : a.size + b.size ≤ 140737488355328) : ∀ w, (Op.stringOp .add a b).run Tryz.prog w = .ok (.string (a ++ b)) w := fun w => run_string_add_sum w _ _ (Nat.le_trans h (by decide))
/-- The text of a list, as the document has it. -/
def listRT (a : List Two) : List UInt8 := if a.isEmpty = true then [] else listedT a
/-- The list's text up to a place. -/
def listP (a : List Two) : List UInt8 := 91 :: sepT [44, 32] (a.map attrT)
theorem listP_snoc (a : List Two) (q : Two) : listP (a ++ [q]) = if a.isEmpty = true then 91 :: attrT q else listP a ++ [44, 32] ++ attrT q := by
  unfold listP
  rw [List.map_append, List.map_cons, List.map_nil, sepT_snoc]
  cases a <;> simp
theorem sepT_prefix (sep : List UInt8) (M : List (List UInt8)) : ∀ L : List (List UInt8), (sepT sep L).length ≤ (sepT sep (L ++ M)).length
  | [] => by simp [sepT]
  | [x] => by
    cases M with
    | nil => exact Nat.le_refl _
    | cons y r => show x.length ≤ (x ++ sep ++ sepT sep (y :: r)).length; rw [List.length_append, List.length_append]; omega
  | x :: y :: r => by
    have := sepT_prefix sep M (y :: r)
    show (x ++ sep ++ sepT sep (y :: r)).length ≤ (x ++ sep ++ sepT sep (y :: r ++ M)).length
    simp only [List.length_append] at this ⊢
    omega
set_option maxHeartbeats 4000000 in
set_option maxRecDepth 100000 in
theorem listR_any (a : Option Addr) (L : List Two) (cap : Nat) (w : World) (h : TwoIn w a L) (hL : L.length ≤ 2000000) (hs : ∀ q ∈ L, q.2.size < 4294967281) (hlen : (listedT L).length ≤ 140737488355328) :
    Calls Tryz.prog 26 #[.slice a L.length cap] w fun e w' => e = .returned (.string (bs (listRT L))) ∧ Ext w w' := by
  by_cases h0 : L = []
  · subst h0
    clear h hs hlen hL
    go_enter Tryz.func26, Tryz.ntmps26
    go_wp2
    go_returns
    exact ⟨rfl, Ext.refl _⟩
  have hp0 : 0 < L.length := List.length_pos_iff.2 h0
  obtain ⟨V, hV⟩ : ∃ V : ByteArray, V = bs (listRT L) := ⟨_, rfl⟩
  rw [← hV]
  have hVV : V = bs (listP L) ++ ⟨#[93]⟩ := by
    rw [hV, show (⟨#[93]⟩ : ByteArray) = bs [93] from rfl, bs_app]
    unfold listRT listedT listP
    rw [if_neg (by simpa using h0)]
    rfl
  have hle : ∀ k, (listP (L.take k)).length ≤ 140737488355327 := fun k => by
    have := sepT_prefix [44, 32] ((L.drop k).map attrT) ((L.take k).map attrT)
    rw [← List.map_append, List.take_append_drop] at this
    unfold listP
    unfold listedT at hlen
    simp only [List.length_cons, List.length_append, List.length_nil] at hlen ⊢
    omega
  obtain ⟨N, hN⟩ : ∃ N, N = L.length := ⟨_, rfl⟩
  have f1 : ((N : Int) == 0) = false := by rw [beq_eq_false_iff_ne]; omega
  rw [← hN] at hL ⊢
  have HV := Lib.hid hVV; have HLE := Lib.hid hle
  have HN := Lib.hid hN; have HI := Lib.hid h; have HS := Lib.hid hs
  have HZ : Hid (bs (listP (L.take 0)) = ⟨#[91]⟩) := Lib.hid rfl
  clear hVV hle hV hN h hs hlen h0 hp0
  go_enter Tryz.func26, Tryz.ntmps26
  go_wp2
  go_loopw [3, 4] (fun s' i' wr => ∃ (k : Nat) (s : ByteArray), k ≤ N ∧ s' = .string s ∧ i' = .int .i64 k ∧ Ext w wr ∧ Hid (s = bs (listP (L.take k)))) (fun _ i' _ => N - (RowKit.intOf i').toNat)
  case atStart => exact ⟨0, _, by omega, rfl, rfl, Ext.refl _, Lib.hid HZ.out.symm⟩
  case round =>
    obtain ⟨k, s, hk, rfl, rfl, hx, hb⟩ := hrel
    clear HZ
    by_cases hlt : k < N
    · have hkl : k < L.length := by rw [← HN.out]; exact hlt
      obtain ⟨g, o, rfl, c0, c1⟩ := (HI.out.ext hx) k hkl
      have hs2 := HS.out _ (List.getElem_mem hkl)
      have hsn : listP (L.take (k + 1)) = if (L.take k).isEmpty = true then 91 :: attrT L[k] else listP (L.take k) ++ [44, 32] ++ attrT L[k] := by
        rw [List.take_succ_eq_append_getElem hkl, listP_snoc]
      have hlk := HLE.out (k + 1)
      obtain ⟨n, d, hq⟩ : ∃ n d, L[k] = (n, d) := ⟨_, _, rfl⟩
      rw [hq] at c0 c1 hs2 hsn
      obtain ⟨T, hT⟩ : ∃ T : ByteArray, T = bs (valueT d) := ⟨_, rfl⟩
      have hval : ∀ w', Calls Tryz.prog 44 #[.string d] w' fun e w'' => e = .returned (.string T) ∧ w' = w'' := fun w' => by rw [hT]; exact valueR_any d w' hs2
      have cV : ∀ dd os, Calls Tryz.prog 44 #[.string d] (grow (redrawn wr dd) os) fun e w'' => e = .returned (.string T) ∧ ∃ p : Regrown, w'' = grow (redrawn wr p.d) p.os :=
        fun dd os => Calls.regrown_of ((hval _).mono fun e w' ⟨he, hw⟩ => ⟨he, hw ▸ Ext.refl _⟩)
      have k0 := cell_regrown c0; have k1 := cell_regrown c1
      have CV := Lib.hid cV
      have hx2 : ∀ d2 os, Ext w (grow (redrawn wr d2) os) := fun d2 os => hx.trans (below_regrown _ d2 os)
      have HX2 := Lib.hid hx2
      by_cases hk0 : k = 0
      · have hfin : bs (listP (L.take (k + 1))) = s ++ n ++ ⟨#[61]⟩ ++ T := by
          rw [hsn, hb.out, hT]
          subst hk0
          rw [if_pos (by simp)]
          unfold attrT
          rw [show listP (L.take 0) = [91] from rfl, show (⟨#[61]⟩ : ByteArray) = bs [61] from rfl]
          conv => rhs; rw [← bs_data n]
          rw [bs_app, bs_app, bs_app]
          simp
        have hz : s.size + n.size + 1 + T.size ≤ 140737488355328 := by
          have h : (bs (listP (L.take (k + 1)))).size = (s ++ n ++ (⟨#[61]⟩ : ByteArray) ++ T).size := by rw [hfin]
          rw [bs_size] at h
          simp only [ByteArray.size_append] at h
          have e1 : (⟨#[61]⟩ : ByteArray).size = 1 := rfl
          omega
        have a1 := add_run s n (by omega)
        have a2 := add_run (s ++ n) ⟨#[61]⟩ (by rw [ByteArray.size_append]; show _ + 1 ≤ _; omega)
        have a3 := add_run (s ++ n ++ ⟨#[61]⟩) T (by rw [ByteArray.size_append, ByteArray.size_append]; show _ + 1 + _ ≤ _; omega)
        have HF := Lib.hid hfin.symm
        have g0 : decide (0 < k) = false := decide_eq_false (by omega)
        have g0' : ¬ 0 < k := by omega
        clear hfin hz hsn hlk hq hT hval cV hx2 hb hs2 c0 c1 hk0
        go_wp2_with fail
        refine wp_region_quiet_below (by kernel_rfl) (by kernel_rfl) ?_
        repeat (go_big_quiet_step ((go_at_call 44; exact CV.out _ _)))
        refine wpQuiet_nil ?_
        intro _ hw'
        obtain ⟨⟨dq, osq⟩, hw''⟩ := hw'
        subst hw''
        go_wp2_with fail
        go_roundw
        case rel => exact ⟨k + 1, _, by omega, rfl, by go_num, HX2.out _ _, HF⟩
        case measure => simp [RowKit.intOf]; omega
      · have hfin : bs (listP (L.take (k + 1))) = s ++ ⟨#[44, 32]⟩ ++ n ++ ⟨#[61]⟩ ++ T := by
          rw [hsn, hb.out, hT]
          rw [if_neg (by
            intro h
            have h2 : (L.take k).length = 0 := by rw [List.isEmpty_iff.1 h]; rfl
            rw [List.length_take] at h2
            omega)]
          unfold attrT
          rw [show (⟨#[61]⟩ : ByteArray) = bs [61] from rfl, show (⟨#[44, 32]⟩ : ByteArray) = bs [44, 32] from rfl]
          conv => rhs; rw [← bs_data n]
          rw [bs_app, bs_app, bs_app, bs_app]
          simp
        have hz : s.size + 2 + n.size + 1 + T.size ≤ 140737488355328 := by
          have h : (bs (listP (L.take (k + 1)))).size = (s ++ (⟨#[44, 32]⟩ : ByteArray) ++ n ++ (⟨#[61]⟩ : ByteArray) ++ T).size := by rw [hfin]
          rw [bs_size] at h
          simp only [ByteArray.size_append] at h
          have e1 : (⟨#[61]⟩ : ByteArray).size = 1 := rfl
          have e2 : (⟨#[44, 32]⟩ : ByteArray).size = 2 := rfl
          omega
        have a0 := add_run s ⟨#[44, 32]⟩ (by show _ + 2 ≤ _; omega)
        have a1 := add_run (s ++ ⟨#[44, 32]⟩) n (by rw [ByteArray.size_append]; show _ + 2 + _ ≤ _; omega)
        have a2 := add_run (s ++ ⟨#[44, 32]⟩ ++ n) ⟨#[61]⟩ (by rw [ByteArray.size_append, ByteArray.size_append]; show _ + 2 + _ + 1 ≤ _; omega)
        have a3 := add_run (s ++ ⟨#[44, 32]⟩ ++ n ++ ⟨#[61]⟩) T (by rw [ByteArray.size_append, ByteArray.size_append, ByteArray.size_append]; show _ + 2 + _ + 1 + _ ≤ _; omega)
        have HF := Lib.hid hfin.symm
        have g0 : 0 < k := by omega
        have g0' : decide (0 < k) = true := decide_eq_true (by omega)
        clear hfin hz hsn hlk hq hT hval cV hx2 hb hs2 c0 c1 hk0
        go_wp2_with fail
        refine wp_region_quiet_below (by kernel_rfl) (by kernel_rfl) ?_
        repeat (go_big_quiet_step ((go_at_call 44; exact CV.out _ _)))
        refine wpQuiet_nil ?_
        intro _ hw'
        obtain ⟨⟨dq, osq⟩, hw''⟩ := hw'
        subst hw''
        go_wp2_with fail
        go_roundw
        case rel => exact ⟨k + 1, _, by omega, rfl, by go_num, HX2.out _ _, HF⟩
        case measure => simp [RowKit.intOf]; omega
    · have hf : s = bs (listP L) := by rw [hb.out, List.take_of_length_le (by rw [← HN.out]; omega)]
      have a1 := add_run s ⟨#[93]⟩ (by have := HLE.out k; rw [hb.out, bs_size]; show _ + 1 ≤ _; omega)
      have HF : Hid (s ++ ⟨#[93]⟩ = V) := Lib.hid (by rw [HV.out, hf])
      clear hb hf
      go_wp2
      go_returns
      rw [← HF.out]
      exact ⟨rfl, hx⟩
end Go.Proofs.YtnjnfkfmkbnkhaaGreatDoor.Tr
