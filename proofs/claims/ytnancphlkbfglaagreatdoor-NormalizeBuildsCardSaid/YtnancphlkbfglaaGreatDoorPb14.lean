/- Packed texts: NorText, AttI, NorSta, NorMem -/
import Derived.Test.YtnancphlkbfglaaGreatDoorPb01
import Derived.Test.YtnancphlkbfglaaGreatDoorPb13
import Derived.Test.YtnancphlkbfglaaGreatDoorPb12
import Derived.BigQuiet
import Derived.Lib.AppendZeros
import Derived.Laws.OwnMore
import Derived.Test.YtnancphlkbfglaaGreatDoorPb05
set_option linter.unusedVariables false
set_option linter.unusedSimpArgs false
namespace Go.Proofs.YtnancphlkbfglaaGreatDoor.Nm
open Go.Lib Fx Lx Tr At
def nodeW : List UInt8 := [110, 111, 100, 101]
def kindS (x : Stm) : Int := if x.kind = 3 then (if x.name.data.toList = nodeW then 1 else 2) else x.kind
def chkGo (kind : Int) (key : Option ByteArray) : List Two → Int
  | [] => 0
  | q :: r => if checkV kind (key.getD q.1) q.2 ≠ 0 then checkV kind (key.getD q.1) q.2 else chkGo kind key r
def chkS (x : Stm) : Int := chkGo (kindS x) (if kindS x = 4 then some x.name else none) x.attrs
structure Lk where
  a : Nat
  ap : ByteArray
  b : Nat
  bp : ByteArray
  at' : List Two
structure St where
  N : List (ByteArray × Int)
  A : List (List Two)
  C : List (ByteArray × Int)
  K : List Lk
structure Pl where
  c : Int
  n : List Two
  e : List Two
def St.taken (S : St) (n : ByteArray) : Bool := S.C.any fun q => decide (q.1 = n)
def idxGo (n : ByteArray) : Nat → List (ByteArray × Int) → Option Nat
  | _, [] => none
  | k, q :: r => if q.1 = n then some k else idxGo n (k + 1) r
def St.idx (S : St) (n : ByteArray) : Option Nat := idxGo n 0 S.N
def ment (n : ByteArray) (p : Pl) (S : St) : Except Int (Nat × St) :=
  if S.taken n = true then .error 6
  else match S.idx n with
    | some v => .ok (v, S)
    | none => .ok (S.N.length, { S with N := S.N ++ [(n, p.c)], A := S.A ++ [p.n] })
def chainT (own : List Two) (p : Pl) : List Two → Option (Nat × ByteArray) → St → Except Int St
  | [], _, S => .ok S
  | r :: rs, last, S =>
    match ment r.1 p S with
    | .error e => .error e
    | .ok (v, S) => chainT own p rs (some (v, r.2)) (match last with | none => S | some l => { S with K := S.K ++ [⟨l.1, l.2, v, r.2, own⟩] })
mutual
def blkS (p : Pl) (S : St) : Stm → Except Int (Pl × St)
  | .mk k n rs al b =>
    if chkS (.mk k n rs al b) ≠ 0 then .error (chkS (.mk k n rs al b))
    else if k = 1 then
      match ment n p S with
      | .error e => .error e
      | .ok (v, S) => .ok (p, { S with A := S.A.set v (mrgT (S.A.getD v [] ++ al)) })
    else if k = 2 then
      match chainT (mrgT (p.e ++ al)) p rs none S with
      | .error e => .error e
      | .ok S => .ok (p, S)
    else if k = 3 then (if n.data.toList = nodeW then .ok ({ p with n := mrgT (p.n ++ al) }, S) else .ok ({ p with e := mrgT (p.e ++ al) }, S))
    else if k = 5 then
      if (S.idx n).isSome = true ∨ S.taken n = true then .error 6
      else match blkL { p with c := S.C.length } { S with C := S.C ++ [(n, p.c)] } b with
        | .error e => .error e
        | .ok S => .ok (p, S)
    else .ok (p, S)
def blkL (p : Pl) (S : St) : List Stm → Except Int St
  | [] => .ok S
  | x :: r =>
    match blkS p S x with
    | .error e => .error e
    | .ok (p, S) => blkL p S r
end
def kLabel : ByteArray := ⟨#[108, 97, 98, 101, 108]⟩
def kWidth : ByteArray := ⟨#[119, 105, 100, 116, 104]⟩
def kHeight : ByteArray := ⟨#[104, 101, 105, 103, 104, 116]⟩
def kPorts : ByteArray := ⟨#[112, 111, 114, 116, 115]⟩
def kWeight : ByteArray := ⟨#[119, 101, 105, 103, 104, 116]⟩
def kLen : ByteArray := ⟨#[108, 101, 110]⟩
def labelT (l : List Two) (o : ByteArray) : ByteArray := if (getT l kLabel).2 = true then (getT l kLabel).1 else o
def numK (kind : Int) (l : List Two) (x : ByteArray) : Int := numT (ruleT kind x.data.toList) (getT l x)
def finN (q : ByteArray × Int) (l : List Two) : Nd := ⟨q.1, labelT l q.1, numK 1 l kWidth, numK 1 l kHeight, q.2, (portsV (getT l kPorts).1).1⟩
def portGo (n : ByteArray) : Int → List Prt → Int
  | _, [] => -2
  | k, q :: r => if q.1 = n then k else portGo n (k + 1) r
def portT (l : List Prt) (n : ByteArray) : Int := if n.size = 0 then -1 else portGo n 0 l
def finE (L : List Nd) (x : Lk) : Option Ed :=
  let f := portT ((L[x.a]?.map Nd.ports).getD []) x.ap
  let t := portT ((L[x.b]?.map Nd.ports).getD []) x.bp
  if f = -2 ∨ t = -2 then none else some ⟨x.a, x.b, f, t, labelT x.at' ⟨#[]⟩, numK 2 x.at' kWeight, numK 2 x.at' kLen⟩
def finEs (L : List Nd) : List Lk → Option (List Ed)
  | [] => some []
  | x :: r => match finE L x with
    | none => none
    | some e => (finEs L r).map (e :: ·)
def finNs : List (ByteArray × Int) → List (List Two) → List Nd
  | q :: r, l :: s => finN q l :: finNs r s
  | _, _ => []
def labE (s : ByteArray) : Int := if 32 < s.size then 2 else if s.data.toList.all Tr.okT = false then 7 else 0
def prtGo : List Prt → List Prt → Int
  | [], _ => 0
  | q :: r, done => if nameB q.1.data.toList = false then 5 else if done.any (fun p => decide (p.1 = q.1)) = true then 6 else if q.2 < 0 ∨ 3 < q.2 then 7 else prtGo r (done ++ [q])
def prtE (l : List Prt) : Int := if 8 < l.length then 2 else prtGo l []
def ndE (nc : Nat) (done : List Nd) (x : Nd) : Int :=
  if nameB x.name.data.toList = false then 5
  else if done.any (fun p => decide (p.name = x.name)) = true then 6
  else if labE x.label ≠ 0 then labE x.label
  else if x.w < 1 ∨ 1048576 < x.w ∨ x.h < 1 ∨ 1048576 < x.h ∨ x.c < -1 ∨ (nc : Int) ≤ x.c then 3
  else prtE x.ports
def ndsE (nc : Nat) : List Nd → List Nd → Int
  | [], _ => 0
  | x :: r, done => if ndE nc done x ≠ 0 then ndE nc done x else ndsE nc r (done ++ [x])
def depT (C : List (ByteArray × Int)) : Nat → Int → Nat
  | 0, _ => 0
  | f + 1, c => if c < 0 then 0 else 1 + depT C f ((C[c.toNat]?.map Prod.snd).getD (-1))
def clE (N : List Nd) (C : List (ByteArray × Int)) (i : Nat) (x : ByteArray × Int) : Int :=
  if nameB x.1.data.toList = false then 5
  else if N.any (fun p => decide (p.name = x.1)) = true ∨ (C.take i).any (fun p => decide (p.1 = x.1)) = true then 6
  else if x.2 < -1 ∨ (i : Int) ≤ x.2 then 3
  else if 6 < depT C (i + 1) i then 2 else 0
def clsE (N : List Nd) (C : List (ByteArray × Int)) : Nat → List (ByteArray × Int) → Int
  | _, [] => 0
  | i, x :: r => if clE N C i x ≠ 0 then clE N C i x else clsE N C (i + 1) r
def portsOf (N : List Nd) (v : Int) : Nat := ((N[v.toNat]?.map Nd.ports).getD []).length
def edE (N : List Nd) (x : Ed) : Int :=
  if x.a < 0 ∨ x.b < 0 ∨ (N.length : Int) ≤ x.a ∨ (N.length : Int) ≤ x.b ∨ x.ap < -1 ∨ x.bp < -1 ∨ (portsOf N x.a : Int) ≤ x.ap ∨ (portsOf N x.b : Int) ≤ x.bp then 3
  else if labE x.label ≠ 0 then labE x.label
  else if x.wt < 1 ∨ 1000 < x.wt ∨ x.len < 1 ∨ 64 < x.len then 7 else 0
def edsE (N : List Nd) : List Ed → Int
  | [] => 0
  | x :: r => if edE N x ≠ 0 then edE N x else edsE N r
def grE (g : Gr) : Int :=
  if 64 < g.N.length ∨ 256 < g.E.length ∨ 16 < g.C.length then 2
  else if nameB g.name.data.toList = false then 5
  else if ndsE g.C.length g.N [] ≠ 0 then ndsE g.C.length g.N []
  else if clsE g.N g.C 0 g.C ≠ 0 then clsE g.N g.C 0 g.C
  else edsE g.N g.E
def buildT (name : ByteArray) (dir : Bool) (body : List Stm) : Except Int Gr :=
  if validE name body ≠ 0 then .error (validE name body)
  else match blkL ⟨-1, [], []⟩ ⟨[], [], [], []⟩ body with
    | .error e => .error e
    | .ok S => match finEs (finNs S.N S.A) S.K with
      | none => .error 5
      | some E => if grE ⟨name, dir, finNs S.N S.A, E, S.C⟩ ≠ 0 then .error (grE ⟨name, dir, finNs S.N S.A, E, S.C⟩) else .ok ⟨name, dir, finNs S.N S.A, E, S.C⟩
mutual
def setsS : Stm → List Stm
  | .mk k n rs al b => (if k = 4 then [.mk k n rs al b] else []) ++ setsL b
def setsL : List Stm → List Stm
  | [] => []
  | x :: r => setsS x ++ setsL r
end
def optE : List Stm → Int
  | [] => 0
  | x :: r => if chkS x ≠ 0 then chkS x else optE r
def keyed (x : Stm) : Two := (x.name, (x.attrs.headD (⟨#[]⟩, ⟨#[]⟩)).2)
structure Op5 where
  mode : Int
  ns : Int
  rs : Int
  mg : Int
  rd : Int
def kMode : ByteArray := ⟨#[109, 111, 100, 101]⟩
def kNs : ByteArray := ⟨#[110, 111, 100, 101, 115, 101, 112]⟩
def kRs : ByteArray := ⟨#[114, 97, 110, 107, 115, 101, 112]⟩
def kMg : ByteArray := ⟨#[109, 97, 114, 103, 105, 110]⟩
def kRd : ByteArray := ⟨#[114, 111, 117, 110, 100, 115]⟩
def optsT (l : List Two) : Op5 := ⟨if (getT l kMode).2 = true then modeN (getT l kMode).1 else 0, numK 4 l kNs, numK 4 l kRs, numK 4 l kMg, numK 4 l kRd⟩
def optionsT (name : ByteArray) (body : List Stm) : Except Int Op5 :=
  if validE name body ≠ 0 then .error (validE name body)
  else if optE (setsL body) ≠ 0 then .error (optE (setsL body)) else .ok (optsT ((setsL body).map keyed))
end Go.Proofs.YtnancphlkbfglaaGreatDoor.Nm

namespace Go.Proofs.YtnancphlkbfglaaGreatDoor.At
open Go.RowKit Go.Sort Go.Lib Go.Shelf Fx Lx
def atrC (p : Atr) : List Value := [.string p.1, .string p.2]
def atrsC (L : List Atr) : List Value := L.flatMap atrC
theorem atrsC_snoc (L : List Atr) (t : Atr) : atrsC (L ++ [t]) = atrsC L ++ atrC t := by unfold atrsC; simp
theorem atrsC_append (L M : List Atr) : atrsC (L ++ M) = atrsC L ++ atrsC M := by unfold atrsC; simp
theorem atrsC_len (L : List Atr) : (atrsC L).length = L.length * 2 := by
  induction L with
  | nil => rfl
  | cons t r ih =>
    have e : atrsC (t :: r) = atrC t ++ atrsC r := rfl
    rw [e, List.length_append, ih, List.length_cons, show (atrC t).length = 2 from rfl]; omega
theorem atrsC_at : ∀ (L : List Atr) (k : Nat) (h : k < L.length), (atrsC L)[k * 2]? = some (.string L[k].1) ∧ (atrsC L)[k * 2 + 1]? = some (.string L[k].2)
  | [], k, h => by simp at h
  | t :: r, 0, _ => ⟨rfl, rfl⟩
  | t :: r, k + 1, h => by
    have ih := atrsC_at r k (by simpa using h)
    have e : atrsC (t :: r) = atrC t ++ atrsC r := rfl
    have hl : (atrC t).length = 2 := rfl
    rw [e, List.getElem?_append_right (by omega), List.getElem?_append_right (by omega), hl]
    rw [show (k + 1) * 2 - 2 = k * 2 by omega, show (k + 1) * 2 + 1 - 2 = k * 2 + 1 by omega]
    exact ih
theorem atrsC_one (L : List Atr) : ∀ u ∈ atrsC L, u.oneCell' = true := by
  intro u hu
  unfold atrsC at hu
  obtain ⟨p, _, hp⟩ := List.mem_flatMap.1 hu
  simp [atrC] at hp
  rcases hp with rfl | rfl <;> rfl
theorem heap_ext {w w' : World} {b : Nat} {o : Obj} (h : w.heap[b]? = some o) (x : Ext w w') : w'.heap[b]? = some o :=
  (x.block b (Array.getElem?_eq_some_iff.1 h).1).trans h
def NzA (w : World) (a : Option Addr) (c : Nat) : Prop := (a = none → c = 0) ∧ ∀ q, a = some q → ∃ cs, w.heap[q.block]? = some (.cells cs 109 (0, 0))
theorem NzA.ext {w w' : World} {a : Option Addr} {c : Nat} (h : NzA w a c) (x : Ext w w') : NzA w' a c := ⟨h.1, fun q e => by
  obtain ⟨cs, hb⟩ := h.2 q e
  exact ⟨cs, heap_ext hb x⟩⟩
theorem NzA.none (w : World) : NzA w none 0 := ⟨fun _ => rfl, fun q e => by cases e⟩
theorem own_atrs {w : World} {B : Nat} {v : Value} {L : List Atr} (h : w.ownsRow B 109 2 v L.length (atrsC L)) : ∃ a c, v = .slice a L.length c ∧ AtrIn w a L ∧ NzA w a c := by
  rcases h.2 with ⟨h1, h2⟩ | ⟨g, cap, cur, hv, _, hg, _⟩
  · have : L = [] := List.eq_nil_of_length_eq_zero h2
    subst this
    exact ⟨_, _, h1, (fun k hk => absurd hk (by simp)), NzA.none _⟩
  · refine ⟨_, cap, hv, (fun k hk => ⟨g, 0, rfl, ?_, ?_⟩), (fun e => by cases e), (fun q e => by cases e; exact ⟨cur, hg⟩)⟩
    all_goals
      have hc := fun j u hu => h.cells (g := g) (by rw [hv]; rfl) j u hu
      have hat := atrsC_at L k hk
    · have h0 := hc _ _ hat.1
      rw [add_at] at h0; exact h0
    · have h0 := hc _ _ hat.2
      rw [add_at] at h0; exact h0
theorem AtrIn.news {w : World} {g o : Nat} {L : List Atr} (h : AtrIn w (some ⟨g, o, none⟩) L) : ∀ j u, (atrsC L)[j]? = some u → w.cell? ((⟨g, o, none⟩ : Addr).add j) = some u := fun j u hu => by
  have hadd : (⟨g, o, none⟩ : Addr).add j = ⟨g, o + j, none⟩ := by unfold Addr.add; split <;> simp_all
  rw [hadd]
  have hj : j < (atrsC L).length := by
    rcases Nat.lt_or_ge j (atrsC L).length with h1 | h1
    · exact h1
    · rw [List.getElem?_eq_none h1] at hu; cases hu
  rw [atrsC_len] at hj
  have hk : j / 2 < L.length := by omega
  obtain ⟨g', o', e, c0, c1⟩ := h (j / 2) hk
  injection e with e; injection e with e1 e2 _
  subst e1; subst e2
  have hat := atrsC_at L (j / 2) hk
  rcases Nat.mod_two_eq_zero_or_one j with hm | hm
  · have ej : j = j / 2 * 2 := by omega
    rw [← ej] at c0 hat
    rw [hat.1] at hu
    rw [c0]; exact hu
  · have ej : j = j / 2 * 2 + 1 := by omega
    have hat2 := hat.2
    rw [← ej] at hat2
    rw [hat2] at hu
    rw [show o + j = o + j / 2 * 2 + 1 by omega, c1]; exact hu
def AtrRes (L : List Atr) (e : Ending) (w : World) : Prop := ∃ a c, e = .returned (.slice a L.length c) ∧ AtrIn w a L ∧ NzA w a c
theorem info_atr : (Tryz.prog.info? 109).map (fun i => (i.zero, i.size, i.bytes)) = some (some (.agg #[.string ⟨#[]⟩, .string ⟨#[]⟩]), 2, 32) := by kernel_rfl
end Go.Proofs.YtnancphlkbfglaaGreatDoor.At
namespace Go.Proofs.YtnancphlkbfglaaGreatDoor.At
open Go.RowKit Go.Sort Go.Lib Go.Shelf Fx Lx
theorem geq_str (t : TypeId) (a b : ByteArray) : binOp .geq t (.string a) (.string b) = pure (.bool !(Op.bytesLess a.toList b.toList)) := by simp [binOp, Op.stringOp]
theorem putS_ways (a q : Atr) (O : List Atr) (d : Bool) :
    (d = true ∧ q.1 = a.1 ∧ putS a (O, d) q = (O, true)) ∨ (d = true ∧ q.1 ≠ a.1 ∧ putS a (O, d) q = (O ++ [q], true)) ∨
    (d = false ∧ ltK q.1 a.1 = true ∧ q.1 ≠ a.1 ∧ putS a (O, d) q = (O ++ [q], false)) ∨
    (d = false ∧ ltK q.1 a.1 = false ∧ q.1 = a.1 ∧ putS a (O, d) q = (O ++ [a], true)) ∨
    (d = false ∧ ltK q.1 a.1 = false ∧ q.1 ≠ a.1 ∧ putS a (O, d) q = (O ++ [a] ++ [q], true)) := by
  cases d
  · cases hl : ltK q.1 a.1
    · by_cases he : q.1 = a.1
      · exact .inr (.inr (.inr (.inl ⟨rfl, rfl, he, by simp [putS, he, ltK_irrefl]⟩)))
      · exact .inr (.inr (.inr (.inr ⟨rfl, rfl, he, by simp [putS, he, hl]⟩)))
    · have he := ltK_ne hl
      exact .inr (.inr (.inl ⟨rfl, rfl, he, by simp [putS, he, hl]⟩))
  · by_cases he : q.1 = a.1
    · exact .inl ⟨rfl, he, by simp [putS, he]⟩
    · exact .inr (.inl ⟨rfl, he, by simp [putS, he]⟩)
theorem box_atr (w : World) (k v : ByteArray) : ∀ w1, Ext (w.alloc (.cells #[.string k, .string v] 109)) w1 → w1.cell? ⟨w.heap.size, 0, none⟩ = some (.string k) ∧ w1.cell? ⟨w.heap.size, 1, none⟩ = some (.string v) := fun w1 x => by
  have hb := heap_alloc_new w (.cells #[.string k, .string v] 109)
  exact ⟨x.cell (by rw [Lib.cell_of_heap hb]; rfl), x.cell (by rw [Lib.cell_of_heap hb]; rfl)⟩
theorem own_grow {w0 w w' : World} {B : Nat} {v : Value} {n : Nat} {xs : List Value} {T : TypeId} {s : Nat} (x : Ext w0 w) (h : w.ownsRow B T s v n xs) (hB : w0.heap.size ≤ B) (hg : w.grownBy w' v.ownBlock) : Ext w0 w' :=
  Below.grown x hg x.size (fun k hk => Nat.le_trans hB (h.lt k hk).1)
set_option maxHeartbeats 4000000 in
set_option maxRecDepth 100000 in
theorem put_any (b : Option Addr) (L : List Atr) (cap : Nat) (k v : ByteArray) (w : World) (h : AtrIn w b L) (hL : L.length ≤ 1000000) :
    Calls Tryz.prog 93 #[.slice b L.length cap, .agg #[.string k, .string v]] w fun e w' => AtrRes (putT (k, v) L) e w' ∧ Ext w w' := by
  obtain ⟨w1, hw1⟩ : ∃ w1, w1 = w.alloc (.cells #[.string k, .string v] 109) := ⟨_, rfl⟩
  have hs1 : w1.heap.size = w.heap.size + 1 := by rw [hw1]; simp
  have ho0 : (w1.alloc (.cells #[] 109)).ownsRow w1.heap.size 109 2 (.slice (some ⟨w1.heap.size, 0, none⟩) 0 0) 0 [] := World.ownsRow_made w1 #[] 0 (Nat.le_refl _) (by unfold maxLen; omega) rfl
  have hx0 : Ext w1 (w1.alloc (.cells #[] 109)) := (Ext.refl _).alloc _
  have hxw : Ext w w1 := by rw [hw1]; exact (Ext.refl _).alloc _
  have hbx : ∀ w2, Ext w1 w2 → w2.cell? ⟨w.heap.size, 0, none⟩ = some (.string k) ∧ w2.cell? ⟨w.heap.size, 1, none⟩ = some (.string v) := by rw [hw1]; exact box_atr w k v
  obtain ⟨N, hN⟩ : ∃ N, N = L.length := ⟨_, rfl⟩
  rw [← hN] at hL ⊢
  have HN := Lib.hid hN
  have HI := Lib.hid (h.ext hxw)
  have HO := Lib.hid ho0
  have HBX := Lib.hid hbx
  have HXW := Lib.hid hxw
  have HX0 := Lib.hid hx0
  have HW1 := Lib.hid hw1
  have HS1 := Lib.hid hs1
  clear hN h ho0 hbx hxw hx0 hs1
  obtain ⟨i0, hi, hz0, hz1, hz2⟩ := info_parts info_atr
  obtain ⟨B, hB⟩ : ∃ B, B = w.heap.size := ⟨_, rfl⟩
  have HBB := Lib.hid hB
  rw [← hB] at HBX HS1
  clear hw1
  go_enter Tryz.func93, Tryz.ntmps93
  go_wp2_with fail
  rw [← hB, ← HW1.out, ← HS1.out]
  clear hB
  go_loopw [5, 6, 7] (fun out dn i' wr => ∃ (j : Nat) (O : List Atr) (d : Bool) (g oc : Nat), j ≤ N ∧ i' = .int .i64 j ∧ dn = .bool d ∧ out = .slice (some ⟨g, 0, none⟩) O.length oc ∧ wr.ownsRow w1.heap.size 109 2 (.slice (some ⟨g, 0, none⟩) O.length oc) O.length (atrsC O) ∧ Ext w1 wr ∧ Hid (putF (k, v) (L.take j) = (O, d)) ∧ O.length ≤ 2 * j)
    (fun _ _ i' _ => N - (RowKit.intOf i').toNat)
  case atStart => exact ⟨0, [], false, w1.heap.size, 0, by omega, rfl, rfl, rfl, HO.out, HX0.out, Lib.hid rfl, by simp⟩
  case round =>
    obtain ⟨j, O, d, g, oc, hj, rfl, rfl, rfl, hown, hx, ha, hol⟩ := hrel
    clear HO HX0
    by_cases hlt : j < N
    · have hjl : j < L.length := by rw [← HN.out]; exact hlt
      have hst : putF (k, v) (L.take (j + 1)) = putS (k, v) (O, d) L[j] := by
        rw [List.take_succ_eq_append_getElem hjl, putF_snoc, ha.out]
      obtain ⟨gl, ol, hbe, -, -⟩ := (HI.out.ext hx) j hjl
      subst hbe
      have HC : Hid (∀ w2, Ext w1 w2 → w2.cell? ⟨gl, ol + j * 2, none⟩ = some (.string L[j].1) ∧ w2.cell? ⟨gl, ol + j * 2 + 1, none⟩ = some (.string L[j].2)) := Lib.hid (fun w2 x => by
        obtain ⟨g', o', e, c0, c1⟩ := (HI.out.ext x) j hjl
        injection e with e; injection e with e1 e2 _; subst e1; subst e2
        exact ⟨c0, c1⟩)
      have hw := putS_ways (k, v) L[j] O d
      obtain ⟨n, hn⟩ : ∃ n, n = L[j].1 := ⟨_, rfl⟩
      obtain ⟨dv, hdv⟩ : ∃ dv, dv = L[j].2 := ⟨_, rfl⟩
      have hq : L[j] = (n, dv) := by rw [hn, hdv]
      rw [hq] at hst hw HC
      dsimp only at hw HC
      have HST := Lib.hid hst
      have HW := Lib.hid hw
      have HA := Lib.hid ha.out
      clear ha hst hw hn hdv hq
      have HX := Lib.hid hx
      have HOW := Lib.hid hown
      clear hx hown
      rcases HW.out with ⟨rfl, he, hr⟩ | ⟨rfl, he, hr⟩ | ⟨rfl, hl, he, hr⟩ | ⟨rfl, hl, he, hr⟩ | ⟨rfl, hl, he, hr⟩
      · have g1 : (n.toList == k.toList) = true := by rw [beqs]; exact decide_eq_true he
        have hf := Lib.hid (HST.out.trans hr)
        obtain ⟨c0, c1⟩ := HC.out _ HX.out
        obtain ⟨b0, b1⟩ := HBX.out _ HX.out
        clear he hr HW HST HA
        go_wp2
        go_quiet (fail)
        go_wp2
        go_quiet (fail)
        go_wp2
        go_roundw
        case rel => exact ⟨j + 1, O, true, g, oc, by omega, by go_num, rfl, rfl, (own_ext HOW.out ((Ext.refl _).drewN _)), HX.out.drewN _, hf, by omega⟩
        case measure => simp [RowKit.intOf]; omega
      · have g1 : (n.toList == k.toList) = false := by rw [beqs]; exact decide_eq_false he
        have hf := Lib.hid (HST.out.trans hr)
        obtain ⟨c0, c1⟩ := HC.out _ HX.out
        obtain ⟨b0, b1⟩ := HBX.out _ HX.out
        clear he hr HW HST HA
        go_wp2
        go_quiet (fail)
        go_wp2
        go_quiet (fail)
        go_wp2_with (at_builtin; refine wpList_append_lies _ rfl _ _ 54 rfl w1.heap.size 109 i0 _ 2 32 Tryz.underlying54 hi hz0 hz1 hz2 rfl (by decide) _ _ _ rfl ((own_ext HOW.out ((Ext.refl _).drewN _)).alloc _) _ 1 1 (atrC (n, dv)) rfl rfl ?c1 ?c2 (by decide) ?c3 ?c4 ?c5 _ rfl ?_)
        case c1 => exact fun j u hj => cell_new1 _ (atrC (n, dv)) 109 j u hj
        case c2 => intro u hu; simp [atrC] at hu; rcases hu with rfl | rfl <;> rfl
        case c3 => unfold maxLen; (try simp); omega
        case c4 => (try simp); omega
        case c5 => have h := HX.out.size; (try simp); omega
        intro g4 cap4 w4 hown' hgrow _ _
        have HX4 : Hid (Ext w1 w4) := Lib.hid (own_grow ((HX.out.drewN _).alloc _) ((own_ext HOW.out ((Ext.refl _).drewN _)).alloc _) (Nat.le_refl _) hgrow)
        have HO4 : Hid (w4.ownsRow w1.heap.size 109 2 (.slice (some ⟨g4, 0, none⟩) (O.length + 1) cap4) (O.length + 1) (atrsC (O ++ [(n, dv)]))) := Lib.hid (by rw [atrsC_snoc]; exact hown')
        clear hown' hgrow
        obtain ⟨c0, c1⟩ := HC.out _ HX4.out
        obtain ⟨b0, b1⟩ := HBX.out _ HX4.out
        go_wp2
        go_roundw
        case rel => exact ⟨j + 1, O ++ [(n, dv)], true, g4, cap4, by omega, by go_num, rfl, by rw [(show (O ++ [(n, dv)]).length = O.length + 1 by simp)], by rw [(show (O ++ [(n, dv)]).length = O.length + 1 by simp)]; exact HO4.out, HX4.out, hf, by simp; omega⟩
        case measure => simp [RowKit.intOf]; omega
      · have g1 : (n.toList == k.toList) = false := by rw [beqs]; exact decide_eq_false he
        have g2 : ∀ t, binOp .geq t (.string n) (.string k) = pure (.bool (!true)) := fun t => by rw [geq_str, ltK_less]; exact congrArg (fun z => (pure (Value.bool (!z)) : Sem Value)) hl
        have hf := Lib.hid (HST.out.trans hr)
        obtain ⟨c0, c1⟩ := HC.out _ HX.out
        obtain ⟨b0, b1⟩ := HBX.out _ HX.out
        clear he hr HW HST HA hl
        go_wp2
        go_quiet (fail)
        go_wp2
        go_quiet (fail)
        go_wp2_with (at_builtin; refine wpList_append_lies _ rfl _ _ 54 rfl w1.heap.size 109 i0 _ 2 32 Tryz.underlying54 hi hz0 hz1 hz2 rfl (by decide) _ _ _ rfl ((own_ext HOW.out ((Ext.refl _).drewN _)).alloc _) _ 1 1 (atrC (n, dv)) rfl rfl ?c1 ?c2 (by decide) ?c3 ?c4 ?c5 _ rfl ?_)
        case c1 => exact fun j u hj => cell_new1 _ (atrC (n, dv)) 109 j u hj
        case c2 => intro u hu; simp [atrC] at hu; rcases hu with rfl | rfl <;> rfl
        case c3 => unfold maxLen; (try simp); omega
        case c4 => (try simp); omega
        case c5 => have h := HX.out.size; (try simp); omega
        intro g4 cap4 w4 hown' hgrow _ _
        have HX4 : Hid (Ext w1 w4) := Lib.hid (own_grow ((HX.out.drewN _).alloc _) ((own_ext HOW.out ((Ext.refl _).drewN _)).alloc _) (Nat.le_refl _) hgrow)
        have HO4 : Hid (w4.ownsRow w1.heap.size 109 2 (.slice (some ⟨g4, 0, none⟩) (O.length + 1) cap4) (O.length + 1) (atrsC (O ++ [(n, dv)]))) := Lib.hid (by rw [atrsC_snoc]; exact hown')
        clear hown' hgrow
        obtain ⟨c0, c1⟩ := HC.out _ HX4.out
        obtain ⟨b0, b1⟩ := HBX.out _ HX4.out
        go_wp2
        go_roundw
        case rel => exact ⟨j + 1, O ++ [(n, dv)], false, g4, cap4, by omega, by go_num, rfl, by rw [(show (O ++ [(n, dv)]).length = O.length + 1 by simp)], by rw [(show (O ++ [(n, dv)]).length = O.length + 1 by simp)]; exact HO4.out, HX4.out, hf, by simp; omega⟩
        case measure => simp [RowKit.intOf]; omega
      · have g1 : (n.toList == k.toList) = true := by rw [beqs]; exact decide_eq_true he
        have g2 : ∀ t, binOp .geq t (.string n) (.string k) = pure (.bool (!false)) := fun t => by rw [geq_str, ltK_less]; exact congrArg (fun z => (pure (Value.bool (!z)) : Sem Value)) hl
        have hf := Lib.hid (HST.out.trans hr)
        obtain ⟨c0, c1⟩ := HC.out _ HX.out
        obtain ⟨b0, b1⟩ := HBX.out _ HX.out
        clear he hr HW HST HA hl
        go_wp2
        go_quiet (fail)
        go_wp2_with (at_builtin; refine wpList_append_lies _ rfl _ _ 54 rfl w1.heap.size 109 i0 _ 2 32 Tryz.underlying54 hi hz0 hz1 hz2 rfl (by decide) _ _ _ rfl ((own_ext HOW.out ((Ext.refl _).drewN _)).alloc _) _ 1 1 (atrC (k, v)) rfl rfl ?c1 ?c2 (by decide) ?c3 ?c4 ?c5 _ rfl ?_)
        case c1 => exact fun j u hj => cell_new1 _ (atrC (k, v)) 109 j u hj
        case c2 => intro u hu; simp [atrC] at hu; rcases hu with rfl | rfl <;> rfl
        case c3 => unfold maxLen; (try simp); omega
        case c4 => (try simp); omega
        case c5 => have h := HX.out.size; (try simp); omega
        intro g3 cap3 w3 hown' hgrow _ _
        have HX3 : Hid (Ext w1 w3) := Lib.hid (own_grow ((HX.out.drewN _).alloc _) ((own_ext HOW.out ((Ext.refl _).drewN _)).alloc _) (Nat.le_refl _) hgrow)
        have HO3 : Hid (w3.ownsRow w1.heap.size 109 2 (.slice (some ⟨g3, 0, none⟩) (O.length + 1) cap3) (O.length + 1) (atrsC (O ++ [(k, v)]))) := Lib.hid (by rw [atrsC_snoc]; exact hown')
        clear hown' hgrow
        obtain ⟨c0, c1⟩ := HC.out _ HX3.out
        obtain ⟨b0, b1⟩ := HBX.out _ HX3.out
        go_wp2
        go_quiet (fail)
        go_wp2
        go_roundw
        case rel => exact ⟨j + 1, O ++ [(k, v)], true, g3, cap3, by omega, by go_num, rfl, by rw [(show (O ++ [(k, v)]).length = O.length + 1 by simp)], by rw [(show (O ++ [(k, v)]).length = O.length + 1 by simp)]; exact (own_ext HO3.out ((Ext.refl _).drewN _)), HX3.out.drewN _, hf, by simp; omega⟩
        case measure => simp [RowKit.intOf]; omega
      · have g1 : (n.toList == k.toList) = false := by rw [beqs]; exact decide_eq_false he
        have g2 : ∀ t, binOp .geq t (.string n) (.string k) = pure (.bool (!false)) := fun t => by rw [geq_str, ltK_less]; exact congrArg (fun z => (pure (Value.bool (!z)) : Sem Value)) hl
        have hf := Lib.hid (HST.out.trans hr)
        obtain ⟨c0, c1⟩ := HC.out _ HX.out
        obtain ⟨b0, b1⟩ := HBX.out _ HX.out
        clear he hr HW HST HA hl
        go_wp2
        go_quiet (fail)
        go_wp2_with (at_builtin; refine wpList_append_lies _ rfl _ _ 54 rfl w1.heap.size 109 i0 _ 2 32 Tryz.underlying54 hi hz0 hz1 hz2 rfl (by decide) _ _ _ rfl ((own_ext HOW.out ((Ext.refl _).drewN _)).alloc _) _ 1 1 (atrC (k, v)) rfl rfl ?c1 ?c2 (by decide) ?c3 ?c4 ?c5 _ rfl ?_)
        case c1 => exact fun j u hj => cell_new1 _ (atrC (k, v)) 109 j u hj
        case c2 => intro u hu; simp [atrC] at hu; rcases hu with rfl | rfl <;> rfl
        case c3 => unfold maxLen; (try simp); omega
        case c4 => (try simp); omega
        case c5 => have h := HX.out.size; (try simp); omega
        intro g3 cap3 w3 hown' hgrow _ _
        have HX3 : Hid (Ext w1 w3) := Lib.hid (own_grow ((HX.out.drewN _).alloc _) ((own_ext HOW.out ((Ext.refl _).drewN _)).alloc _) (Nat.le_refl _) hgrow)
        have HO3 : Hid (w3.ownsRow w1.heap.size 109 2 (.slice (some ⟨g3, 0, none⟩) (O.length + 1) cap3) (O.length + 1) (atrsC (O ++ [(k, v)]))) := Lib.hid (by rw [atrsC_snoc]; exact hown')
        clear hown' hgrow
        obtain ⟨c0, c1⟩ := HC.out _ HX3.out
        obtain ⟨b0, b1⟩ := HBX.out _ HX3.out
        go_wp2
        go_quiet (fail)
        go_wp2_with (at_builtin; refine wpList_append_lies _ rfl _ _ 54 rfl w1.heap.size 109 i0 _ 2 32 Tryz.underlying54 hi hz0 hz1 hz2 rfl (by decide) _ _ _ rfl ((own_ext HO3.out ((Ext.refl _).drewN _)).alloc _) _ 1 1 (atrC (n, dv)) rfl rfl ?c1 ?c2 (by decide) ?c3 ?c4 ?c5 _ rfl ?_)
        case c1 => exact fun j u hj => cell_new1 _ (atrC (n, dv)) 109 j u hj
        case c2 => intro u hu; simp [atrC] at hu; rcases hu with rfl | rfl <;> rfl
        case c3 => unfold maxLen; (try simp); omega
        case c4 => (try simp); omega
        case c5 => have h := HX3.out.size; (try simp); omega
        intro g4 cap4 w4 hown' hgrow _ _
        have HX4 : Hid (Ext w1 w4) := Lib.hid (own_grow ((HX3.out.drewN _).alloc _) ((own_ext HO3.out ((Ext.refl _).drewN _)).alloc _) (Nat.le_refl _) hgrow)
        have HO4 : Hid (w4.ownsRow w1.heap.size 109 2 (.slice (some ⟨g4, 0, none⟩) (O.length + 1 + 1) cap4) (O.length + 1 + 1) (atrsC ((O ++ [(k, v)]) ++ [(n, dv)]))) := Lib.hid (by rw [atrsC_snoc]; exact hown')
        clear hown' hgrow
        obtain ⟨c0, c1⟩ := HC.out _ HX4.out
        obtain ⟨b0, b1⟩ := HBX.out _ HX4.out
        go_wp2
        go_roundw
        case rel => exact ⟨j + 1, O ++ [(k, v)] ++ [(n, dv)], true, g4, cap4, by omega, by go_num, rfl, by rw [(show (O ++ [(k, v)] ++ [(n, dv)]).length = O.length + 1 + 1 by simp)], by rw [(show (O ++ [(k, v)] ++ [(n, dv)]).length = O.length + 1 + 1 by simp)]; exact HO4.out, HX4.out, hf, by simp; omega⟩
        case measure => simp [RowKit.intOf]; omega
    · have hjn : j = N := by omega
      have hst : putF (k, v) L = (O, d) := by rw [← ha.out, List.take_of_length_le (by rw [← HN.out]; omega)]
      have HST := Lib.hid hst
      have HX := Lib.hid hx
      have HOW := Lib.hid hown
      clear ha hst hx hown
      cases d
      · have hp : putT (k, v) L = O ++ [(k, v)] := by unfold putT; rw [HST.out]; rfl
        have HP := Lib.hid hp
        obtain ⟨b0, b1⟩ := HBX.out _ HX.out
        clear hp HST
        go_wp2_with (at_builtin; refine wpList_append_lies _ rfl _ _ 54 rfl w1.heap.size 109 i0 _ 2 32 Tryz.underlying54 hi hz0 hz1 hz2 rfl (by decide) _ _ _ rfl (HOW.out.alloc _) _ 1 1 (atrC (k, v)) rfl rfl ?c1 ?c2 (by decide) ?c3 ?c4 ?c5 _ rfl ?_)
        case c1 => exact fun j u hj => cell_new1 _ (atrC (k, v)) 109 j u hj
        case c2 => intro u hu; simp [atrC] at hu; rcases hu with rfl | rfl <;> rfl
        case c3 => unfold maxLen; (try simp); omega
        case c4 => (try simp); omega
        case c5 => have h := HX.out.size; (try simp); omega
        intro g3 cap3 w3 hown' hgrow _ _
        have HX3 : Hid (Ext w1 w3) := Lib.hid (own_grow ((HX.out).alloc _) (HOW.out.alloc _) (Nat.le_refl _) hgrow)
        have HO3 : Hid (w3.ownsRow w1.heap.size 109 2 (.slice (some ⟨g3, 0, none⟩) (O.length + 1) cap3) (O.length + 1) (atrsC (O ++ [(k, v)]))) := Lib.hid (by rw [atrsC_snoc]; exact hown')
        clear hown' hgrow
        go_wp2
        go_returns
        obtain ⟨a5, c5, e5, i5, n5⟩ := own_atrs (L := O ++ [(k, v)]) (by rw [List.length_append]; exact HO3.out)
        rw [HP.out]
        exact ⟨⟨a5, c5, by rw [← e5]; simp, i5, n5⟩, HXW.out.trans HX3.out⟩
      · have hp : putT (k, v) L = O := by unfold putT; rw [HST.out]; rfl
        have HP := Lib.hid hp
        clear hp HST
        go_wp2
        go_returns
        obtain ⟨a5, c5, e5, i5, n5⟩ := own_atrs HOW.out
        rw [HP.out]
        exact ⟨⟨a5, c5, congrArg _ e5, i5, n5⟩, HXW.out.trans HX.out⟩
end Go.Proofs.YtnancphlkbfglaaGreatDoor.At
namespace Go.Proofs.YtnancphlkbfglaaGreatDoor.At
open Go.RowKit Go.Sort Go.Lib Go.Shelf Fx Lx
theorem insT_len (a : Atr) : ∀ L : List Atr, (insT a L).length ≤ L.length + 1
  | [] => by simp [insT]
  | q :: r => by
    have ih := insT_len a r
    unfold insT
    by_cases h1 : ltK q.1 a.1 = true
    · rw [if_pos h1]; simp; omega
    · rw [if_neg h1]
      by_cases h2 : q.1 = a.1
      · rw [if_pos h2]; simp
      · rw [if_neg h2]; simp
theorem mrgT_len : ∀ L : List Atr, (mrgT L).length ≤ L.length :=
  list_snoc_ind (by simp [mrgT]) (fun L a h => by
    rw [mrgT_snoc, List.length_append]
    have := insT_len a (mrgT L)
    simp; omega)
theorem mrgT_put (L : List Atr) (k v : ByteArray) : putT (k, v) (mrgT L) = mrgT (L ++ [(k, v)]) := by rw [putT_ins _ _ (mrgT_asc L), mrgT_snoc]
set_option maxHeartbeats 2000000 in
set_option maxRecDepth 100000 in
theorem mrgR_any (a b : Option Addr) (La Lb : List Atr) (ca cb : Nat) (w : World) (ha : AtrIn w a La) (hb : AtrIn w b Lb) (hA : La.length ≤ 20000) (hB : Lb.length ≤ 20000) :
    Calls Tryz.prog 46 #[.slice a La.length ca, .slice b Lb.length cb] w fun e w' => AtrRes (mrgT (La ++ Lb)) e w' ∧ Ext w w' := by
  obtain ⟨N, hN⟩ : ∃ N, N = La.length := ⟨_, rfl⟩
  obtain ⟨M, hM⟩ : ∃ M, M = Lb.length := ⟨_, rfl⟩
  obtain ⟨R, hR⟩ : ∃ R, R = mrgT (La ++ Lb) := ⟨_, rfl⟩
  rw [← hR]
  rw [← hN] at hA ⊢
  rw [← hM] at hB ⊢
  have HN := Lib.hid hN; have HM := Lib.hid hM; have HR := Lib.hid hR
  have HA := Lib.hid ha; have HBB := Lib.hid hb
  have HPU := Lib.hid (fun b L cap k v w h hL => put_any b L cap k v w h hL)
  have hx0 : Ext w (w.alloc (.cells #[] 109)) := (Ext.refl _).alloc _
  have HX0 := Lib.hid hx0
  clear hN hM hR ha hb hx0
  go_enter Tryz.func46, Tryz.ntmps46
  go_wp2_with fail
  go_loopw [5, 6] (fun out i' wr => ∃ (k : Nat) (O : List Atr) (x : Option Addr) (c : Nat), k ≤ N ∧ i' = .int .i64 k ∧ out = .slice x O.length c ∧ Hid (AtrIn wr x O ∧ NzA wr x c ∧ O = mrgT (La.take k)) ∧ Ext w wr)
    (fun _ i' _ => N - (RowKit.intOf i').toNat)
  case atStart => exact ⟨0, [], some ⟨w.heap.size, 0, none⟩, 0, by omega, rfl, rfl, Lib.hid ⟨fun k h => absurd h (by simp), ⟨(fun e => by cases e), (fun q e => by cases e; exact ⟨_, World.alloc_heap_new _ _⟩)⟩, rfl⟩, HX0.out⟩
  case round =>
    obtain ⟨k, O, x, c, hk, rfl, rfl, ho, hx⟩ := hrel
    clear HX0
    by_cases hlt : k < N
    · have hkl : k < La.length := by rw [← HN.out]; exact hlt
      obtain ⟨g, o, rfl, c0, c1⟩ := (HA.out.ext hx) k hkl
      have hpu := HPU.out x O c La[k].1 La[k].2 wr ho.out.1 (by
        have := mrgT_len (La.take k); rw [ho.out.2.2]; simp at this; omega)
      have hst : putT (La[k].1, La[k].2) O = mrgT (La.take (k + 1)) := by
        rw [ho.out.2.2, mrgT_put, List.take_succ_eq_append_getElem hkl]
      obtain ⟨O2, hO2⟩ : ∃ O2, O2 = putT (La[k].1, La[k].2) O := ⟨_, rfl⟩
      rw [← hO2] at hpu hst
      generalize La[k].1 = n at c0 hpu
      generalize La[k].2 = d at c1 hpu
      have HP := Lib.hid hpu
      have HS := Lib.hid hst
      clear hpu hst hO2 ho
      go_wp2_with (go_at_call 93; refine HP.out.mono ?_; rintro e w2 ⟨⟨y, c2, rfl, hi2, hn2⟩, x2⟩; have HI2 := Lib.hid hi2; clear hi2)
      go_roundw
      case rel => exact ⟨k + 1, O2, y, c2, by omega, by go_num, rfl, Lib.hid ⟨HI2.out, hn2, HS.out⟩, hx.trans x2⟩
      case measure => simp [RowKit.intOf]; omega
    · have hkn : k = N := by omega
      have hs : O = mrgT (La ++ Lb.take 0) := by rw [ho.out.2.2, List.take_of_length_le (by rw [← HN.out]; omega)]; simp
      have HO := Lib.hid (And.intro ho.out.1 (And.intro ho.out.2.1 hs))
      have HX := Lib.hid hx
      have hOl : O.length ≤ N := by have := mrgT_len (La.take k); rw [← ho.out.2.2] at this; simp at this; omega
      clear ho hs hx hkn
      go_wp2_with fail
      go_loopw [5, 7] (fun out i' wr => ∃ (k : Nat) (O : List Atr) (x : Option Addr) (c : Nat), k ≤ M ∧ i' = .int .i64 k ∧ out = .slice x O.length c ∧ Hid (AtrIn wr x O ∧ NzA wr x c ∧ O = mrgT (La ++ Lb.take k)) ∧ Ext w wr)
        (fun _ i' _ => M - (RowKit.intOf i').toNat)
      case atStart => exact ⟨0, O, x, c, by omega, rfl, rfl, HO, HX.out⟩
      case round =>
        clear HO HX
        obtain ⟨k, O, x, c, hk, rfl, rfl, ho, hx⟩ := hrel
        by_cases hlt : k < M
        · have hkl : k < Lb.length := by rw [← HM.out]; exact hlt
          obtain ⟨g, o, rfl, c0, c1⟩ := (HBB.out.ext hx) k hkl
          have hpu := HPU.out x O c Lb[k].1 Lb[k].2 _ ho.out.1 (by
            have := mrgT_len (La ++ Lb.take k); rw [ho.out.2.2]; simp at this; have := HN.out; omega)
          have hst : putT (Lb[k].1, Lb[k].2) O = mrgT (La ++ Lb.take (k + 1)) := by
            rw [ho.out.2.2, mrgT_put, List.take_succ_eq_append_getElem hkl, List.append_assoc]
          obtain ⟨O2, hO2⟩ : ∃ O2, O2 = putT (Lb[k].1, Lb[k].2) O := ⟨_, rfl⟩
          rw [← hO2] at hpu hst
          generalize Lb[k].1 = n at c0 hpu
          generalize Lb[k].2 = d at c1 hpu
          have HP := Lib.hid hpu
          have HS := Lib.hid hst
          clear hpu hst hO2 ho
          go_wp2_with (go_at_call 93; refine HP.out.mono ?_; rintro e w2 ⟨⟨y, c2, rfl, hi2, hn2⟩, x2⟩; have HI2 := Lib.hid hi2; clear hi2)
          go_roundw
          case rel => exact ⟨k + 1, O2, y, c2, by omega, by go_num, rfl, Lib.hid ⟨HI2.out, hn2, HS.out⟩, hx.trans x2⟩
          case measure => simp [RowKit.intOf]; omega
        · have hs : R = O := by rw [HR.out, ho.out.2.2, List.take_of_length_le (by rw [← HM.out]; omega)]
          have HS := Lib.hid hs
          have HO := Lib.hid (And.intro ho.out.1 ho.out.2.1)
          clear ho hs
          go_wp2
          go_returns
          rw [HS.out]
          exact ⟨⟨x, c, rfl, HO.out.1, HO.out.2⟩, hx⟩
end Go.Proofs.YtnancphlkbfglaaGreatDoor.At
namespace Go.Proofs.YtnancphlkbfglaaGreatDoor.At
open Go.RowKit Go.Sort Go.Lib Go.Shelf Fx Lx
theorem grow_nil (n : Nat) (hn : n ≤ 100000) (w : World) :
    Calls Tryz.prog 134 #[.slice none 0 0, .int .i64 n] w fun e w' => (∃ v, e = .returned v ∧ w'.ownsRow w.heap.size 109 2 v 0 []) ∧ Ext w w' := by
  rcases Nat.eq_zero_or_pos n with h0 | h0
  · subst h0
    have h := Any8.slices_Grow_room Tryz.growAtr none 0 0 0 w (by omega) (by omega) (by omega) (by omega)
    change Calls Tryz.prog 134 _ _ _ at h
    refine h.mono ?_
    rintro e w' ⟨rfl, rfl⟩
    exact ⟨⟨_, rfl, World.ownsRow_nil _ _ _ _⟩, Ext.refl _⟩
  · obtain ⟨i0, hi, hz0, hz1, hz2⟩ := info_parts info_atr
    have h := Any8.slices_Grow_grow Tryz.growAtr i0 _ hi hz0 (by omega) none 0 0 n [] w (by omega) (by omega) (by rw [hz2]; omega) (by omega) (by simp) (fun _ => rfl) (fun a e => by cases e)
    change Calls Tryz.prog 134 _ _ _ at h
    refine h.mono ?_
    rintro e w' ⟨rfl, rfl⟩
    have hge := grownCap_ge w (0 + n) 0 109
    have hle := grownCap_le_maxLen w (0 + n) 0 109 (by unfold maxLen; omega)
    refine ⟨⟨_, rfl, ?_⟩, ((Ext.refl _).drew).alloc _⟩
    refine World.ownsRow_made w.drew _ _ (Nat.le_refl _) hle ?_
    have hzs : (Value.agg #[.string ⟨#[]⟩, .string ⟨#[]⟩]).cells.size = 2 := rfl
    simp only [Array.size_append, size_zeroCells, hzs]
    show 0 + (0 + n - 0) * 2 + (grownCap w (0 + n) 0 109 - (0 + n)) * 2 = grownCap w (0 + n) 0 109 * 2
    omega
theorem run_append_none {P : Program} {w : World} (base : Nat) (t ty e : TypeId) (i : TypeInfo) (size : Nat) (ht : P.underlying t = some (.slice e)) (hi : P.info? e = some i)
    (v : Value) (n c : Nat) (xs : List Value) (hown : w.ownsRow base e size v n xs) :
    (Builtin.append_ #[t, t] ty #[v, .slice none 0 c]).run P w = .ok v w := by
  rcases hown.2 with ⟨rfl, rfl⟩ | ⟨g, cap, cur, rfl, _, _, hnc, _⟩
  · simp [Builtin.append_, run_underlying ht, sizeOf, typeInfo, hi, Builtin.lenOf, Builtin.firstCells]
  · simp [Builtin.append_, run_underlying ht, sizeOf, typeInfo, hi, Builtin.lenOf, Builtin.firstCells, hnc, storeCells]
theorem app_all (w : World) (B : Nat) (v : Value) (n : Nat) (xs : List Value) (hown : w.ownsRow B 109 2 v n xs) (x : Option Addr) (L : List Atr) (c : Nat) (hx : AtrIn w x L) (hn : n ≤ 100000) (hL : L.length ≤ 100000) (hB : B ≤ w.heap.size) :
    ∃ v' w', (Builtin.append_ #[54, 54] 54 #[v, .slice x L.length c]).run Tryz.prog w = .ok v' w' ∧ w'.ownsRow B 109 2 v' (n + L.length) (xs ++ atrsC L) ∧ w.grownBy w' v.ownBlock := by
  obtain ⟨i0, hi, hz0, hz1, hz2⟩ := info_parts info_atr
  cases x with
  | none =>
    have hl : L = [] := by
      cases L with
      | nil => rfl
      | cons p r => obtain ⟨g, o, e, _⟩ := hx 0 (by simp); cases e
    subst hl
    refine ⟨v, w, run_append_none (P := Tryz.prog) B 54 54 109 i0 2 Tryz.underlying54 hi v n c xs hown, ?_, ⟨rfl, rfl, rfl, Nat.le_refl _, fun _ _ _ => rfl⟩⟩
    simp only [List.length_nil, Nat.add_zero, atrsC, List.flatMap_nil, List.append_nil]
    exact hown
  | some a =>
    obtain ⟨g, o, sp⟩ := a
    rcases Nat.eq_zero_or_pos L.length with h0 | h0
    · have hl : L = [] := List.eq_nil_of_length_eq_zero h0
      subst hl
      obtain ⟨v', w', r1, r2, r3, _⟩ := run_append_own_at (P := Tryz.prog) w B 54 54 109 i0 _ 2 32 Tryz.underlying54 hi hz0 hz1 hz2 rfl (by decide) v n xs hown ⟨g, o, sp⟩ 0 c [] rfl (fun j u h => by simp at h) (fun u h => by cases h) (by unfold maxLen; omega) (by omega) hB
      exact ⟨v', w', r1, r2, r3⟩
    · obtain ⟨g', o', e, _, _⟩ := hx 0 h0
      injection e with e; injection e with e1 e2 e3
      subst e1; subst e2; subst e3
      obtain ⟨v', w', r1, r2, r3, _⟩ := run_append_own_at (P := Tryz.prog) w B 54 54 109 i0 _ 2 32 Tryz.underlying54 hi hz0 hz1 hz2 rfl (by decide) v n xs hown ⟨g, o, none⟩ L.length c (atrsC L) (atrsC_len L) hx.news (atrsC_one L) (by unfold maxLen; omega) (by omega) hB
      exact ⟨v', w', r1, r2, r3⟩
set_option maxHeartbeats 2000000 in
set_option maxRecDepth 100000 in
theorem concat_any (g : Nat) (a b : Option Addr) (La Lb : List Atr) (ca cb : Nat) (w : World) (hc0 : w.cell? ⟨g, 0, none⟩ = some (.slice a La.length ca)) (hc1 : w.cell? ⟨g, 1, none⟩ = some (.slice b Lb.length cb)) (ha : AtrIn w a La) (hb : AtrIn w b Lb)
    (hA : La.length ≤ 20000) (hB : Lb.length ≤ 20000) :
    Calls Tryz.prog 101 #[.slice (some ⟨g, 0, none⟩) 2 2] w fun e w' => AtrRes (La ++ Lb) e w' ∧ Ext w w' := by
  have hap1 := fun w1 v (y : Ext w w1) (ho : w1.ownsRow w.heap.size 109 2 v 0 []) => app_all w1 w.heap.size v 0 [] ho a La ca (ha.ext y) (by omega) (by omega) y.size
  have hap2 := fun w1 v (y : Ext w w1) (ho : w1.ownsRow w.heap.size 109 2 v (0 + La.length) ([] ++ atrsC La)) => app_all w1 w.heap.size v _ _ ho b Lb cb (hb.ext y) (by omega) (by omega) y.size
  obtain ⟨L, hL⟩ : ∃ L, L = La ++ Lb := ⟨_, rfl⟩
  have hLl : L.length = 0 + La.length + Lb.length := by rw [hL]; simp
  have hLc : atrsC L = [] ++ atrsC La ++ atrsC Lb := by rw [hL, atrsC_append]; rfl
  rw [← hL]
  have HLL := Lib.hid hLl
  have HLC := Lib.hid hLc
  generalize La.length = N at hc0 hA hap1 hap2 HLL
  generalize Lb.length = M at hc1 hB hap2 HLL
  have hgr : ∀ w, Calls Tryz.prog 134 #[.slice none 0 0, .int .i64 ((N : Int) + (M : Int))] w fun e w' => (∃ v, e = .returned v ∧ w'.ownsRow w.heap.size 109 2 v 0 []) ∧ Ext w w' := fun w => by
    have h := grow_nil (N + M) (by omega) w
    rwa [Int.natCast_add] at h
  have HG := Lib.hid hgr
  have HA1 := Lib.hid hap1
  have HA2 := Lib.hid hap2
  have hcl := fun w1 (y : Ext w w1) => And.intro (y.cell hc0) (y.cell hc1)
  have HCL := Lib.hid hcl
  clear hgr hap1 hap2 hL hLl hLc ha hb hcl
  go_enter Tryz.func101, Tryz.ntmps101
  go_wp2_with fail
  refine wp_loop_rounds 3 ?_
  rw [rounds_succ]
  go_wp2_with fail
  rw [rounds_succ]
  go_wp2_with fail
  rw [rounds_succ]
  go_wp2_with fail
  refine (HG.out _).mono ?_
  rintro e w1 ⟨⟨v, rfl, ho⟩, x1⟩
  obtain ⟨d0, d1⟩ := HCL.out w1 x1
  obtain ⟨v1, w2, r1, ho1, hg1⟩ := HA1.out w1 v x1 ho
  have x2 : Ext w w2 := own_grow x1 ho (Nat.le_refl _) hg1
  obtain ⟨e0, e1⟩ := HCL.out w2 x2
  obtain ⟨v2, w3, r2, ho2, hg2⟩ := HA2.out w2 v1 x2 ho1
  have x3 : Ext w w3 := own_grow x2 ho1 (Nat.le_refl _) hg2
  have HO2 := Lib.hid ho2
  clear ho ho1 ho2 hg1 hg2
  go_wp2_with fail
  refine wp_loop_rounds 3 ?_
  rw [rounds_succ]
  go_wp2_with (at_builtin; refine Lib.wpList_append_run _ rfl _ _ _ _ rfl _ _ rfl rfl _ _ r1 ?_)
  rw [rounds_succ]
  go_wp2_with (at_builtin; refine Lib.wpList_append_run _ rfl _ _ _ _ rfl _ _ rfl rfl _ _ r2 ?_)
  rw [rounds_succ]
  go_wp2_with fail
  go_returns
  obtain ⟨p, q, rfl, hi, hn⟩ := own_atrs (L := L) (by rw [HLL.out, HLC.out]; exact HO2.out)
  exact ⟨⟨p, q, rfl, hi, hn⟩, x3⟩
end Go.Proofs.YtnancphlkbfglaaGreatDoor.At

namespace Go.Proofs.YtnancphlkbfglaaGreatDoor.Nm
open Go.Lib Fx Lx Tr At
mutual
def cntS : Stm → Nat
  | .mk _ _ _ _ b => cntL b + 1
def cntL : List Stm → Nat
  | [] => 0
  | x :: r => cntS x + cntL r
end
theorem cntS_body (x : Stm) : cntS x = cntL x.body + 1 := by cases x; rw [cntS]; rfl
theorem cntL_cons (x : Stm) (r : List Stm) : cntL (x :: r) = cntS x + cntL r := by rw [cntL]
theorem cntL_nil : cntL [] = 0 := by rw [cntL]
mutual
theorem cntS_flat (lev : Nat) : ∀ x : Stm, (flatS lev x).length = cntS x
  | .mk k n r a b => by rw [flatS, cntS, List.length_cons, cntL_flat _ b]
theorem cntL_flat (lev : Nat) : ∀ L : List Stm, (flatL lev L).length = cntL L
  | [] => by rw [flatL, cntL]; rfl
  | x :: r => by rw [flatL, cntL, List.length_append, cntS_flat lev x, cntL_flat lev r]
end
def SmA (k : Nat) (L : List Two) : Prop := L.length ≤ 20 * k ∧ ∀ q ∈ L, q.1.size ≤ 64 ∧ q.2.size ≤ 64
theorem SmA.mono {k l : Nat} {L : List Two} (h : SmA k L) (hl : k ≤ l) : SmA l L := ⟨Nat.le_trans h.1 (by omega), h.2⟩
theorem SmA.nil (k : Nat) : SmA k [] := ⟨by simp, fun q h => by cases h⟩
theorem mrgT_mem {L : List Two} {q : Two} (h : q ∈ mrgT L) : q ∈ L := by
  revert q
  refine list_snoc_ind (p := fun L : List Two => ∀ {q : Two}, q ∈ mrgT L → q ∈ L) (fun {q} h => by simp [mrgT] at h) (fun L a ih {q} h => ?_) L
  rw [mrgT_snoc] at h
  have key : ∀ M : List Two, q ∈ insT a M → q = a ∨ q ∈ M := by
    intro M
    induction M with
    | nil => intro h; simp [insT] at h; exact .inl h
    | cons y M ihM =>
      intro h
      unfold insT at h
      split at h
      · rcases List.mem_cons.1 h with h | h
        · exact .inr (by rw [h]; simp)
        · rcases ihM h with h | h
          · exact .inl h
          · exact .inr (by simp [h])
      · split at h
        · rcases List.mem_cons.1 h with h | h
          · exact .inl h
          · exact .inr (by simp [h])
        · rcases List.mem_cons.1 h with h | h
          · exact .inl h
          · exact .inr h
  rcases key _ h with h | h
  · simp [h]
  · exact List.mem_append_left _ (ih h)
theorem SmA.mrg {k : Nat} {L M : List Two} (h : SmA k L) (hM : M.length ≤ 20) (hm : ∀ q ∈ M, q.1.size ≤ 64 ∧ q.2.size ≤ 64) : SmA (k + 1) (mrgT (L ++ M)) := by
  refine ⟨?_, fun q hq => ?_⟩
  · have h1 := mrgT_len (L ++ M)
    have h2 := h.1
    rw [List.length_append] at h1
    omega
  · rcases List.mem_append.1 (mrgT_mem hq) with h1 | h1
    · exact h.2 q h1
    · exact hm q h1
structure Sml (m k : Nat) (S : St) : Prop where
  n : S.N.length ≤ m
  a : S.A.length = S.N.length
  c : S.C.length ≤ k
  l : S.K.length ≤ m
  at' : ∀ L ∈ S.A, SmA k L
  kt : ∀ x ∈ S.K, SmA k x.at' ∧ x.a < S.N.length ∧ x.b < S.N.length ∧ x.ap.size ≤ 64 ∧ x.bp.size ≤ 64
  nn : ∀ q ∈ S.N, q.1.size ≤ 64 ∧ -1 ≤ q.2 ∧ q.2 ≤ k
  cc : ∀ q ∈ S.C, q.1.size ≤ 64 ∧ -1 ≤ q.2 ∧ q.2 ≤ k
theorem Sml.mono {m k m' k' : Nat} {S : St} (h : Sml m k S) (hm : m ≤ m') (hk : k ≤ k') : Sml m' k' S :=
  ⟨Nat.le_trans h.n hm, h.a, Nat.le_trans h.c hk, Nat.le_trans h.l hm, fun L hL => (h.at' L hL).mono hk, fun x hx => ⟨(h.kt x hx).1.mono hk, (h.kt x hx).2⟩, fun q hq => ⟨(h.nn q hq).1, (h.nn q hq).2.1, by have := (h.nn q hq).2.2; omega⟩, fun q hq => ⟨(h.cc q hq).1, (h.cc q hq).2.1, by have := (h.cc q hq).2.2; omega⟩⟩
theorem Sml.nil : Sml 0 0 ⟨[], [], [], []⟩ := ⟨by simp, rfl, by simp, by simp, fun L h => (by cases h), fun L h => (by cases h), fun L h => (by cases h), fun L h => (by cases h)⟩
def SmP (k : Nat) (p : Pl) : Prop := -1 ≤ p.c ∧ p.c ≤ k ∧ SmA k p.n ∧ SmA k p.e
theorem SmP.mono {k l : Nat} {p : Pl} (h : SmP k p) (hl : k ≤ l) : SmP l p := ⟨h.1, by have := h.2.1; omega, h.2.2.1.mono hl, h.2.2.2.mono hl⟩
theorem idxGo_lt {n : ByteArray} : ∀ (L : List (ByteArray × Int)) (k v : Nat), idxGo n k L = some v → k ≤ v ∧ v < k + L.length
  | [], k, v, h => by simp [idxGo] at h
  | q :: r, k, v, h => by
    unfold idxGo at h
    split at h
    · injection h with h; subst h; simp
    · have := idxGo_lt r (k + 1) v h
      simp; omega
theorem idx_lt {S : St} {n : ByteArray} {v : Nat} (h : S.idx n = some v) : v < S.N.length := by
  have := idxGo_lt S.N 0 v h; omega
theorem Sml.ment {m k : Nat} {S : St} (h : Sml m k S) {n : ByteArray} {p : Pl} (hp : SmP k p) (hn : n.size ≤ 64) {v : Nat} {S' : St} (he : ment n p S = .ok (v, S')) : Sml (m + 1) k S' ∧ v < S'.N.length ∧ S'.C = S.C ∧ S'.K = S.K ∧ S.N.length ≤ S'.N.length := by
  unfold Nm.ment at he
  split at he
  · cases he
  · split at he
    · rename_i u hu
      injection he with he; injection he with h1 h2; subst h1; subst h2
      exact ⟨h.mono (by omega) (Nat.le_refl _), idx_lt hu, rfl, rfl, Nat.le_refl _⟩
    · injection he with he; injection he with h1 h2; subst h1; subst h2
      refine ⟨⟨?_, ?_, h.c, ?_, fun L hL => ?_, fun x hx => ?_, fun q hq => ?_, h.cc⟩, by simp, rfl, rfl, by simp⟩
      · have := h.n; simp; omega
      · have := h.a; simp [this]
      · have := h.l; show S.K.length ≤ m + 1; omega
      · rcases List.mem_append.1 hL with hL | hL
        · exact h.at' L hL
        · rw [List.mem_singleton.1 hL]; exact hp.2.2.1
      · obtain ⟨h1, h2, h3, h4⟩ := h.kt x hx
        exact ⟨h1, by simp; omega, by simp; omega, h4⟩
      · rcases List.mem_append.1 hq with hq | hq
        · exact h.nn q hq
        · rw [List.mem_singleton.1 hq]; exact ⟨hn, hp.1, hp.2.1⟩
theorem Sml.chain {k : Nat} {own : List Two} {p : Pl} (hp : SmP k p) (ho : SmA k own) : ∀ (rs : List Two) (m : Nat) (last : Option (Nat × ByteArray)) (S S' : St), Sml m k S → (∀ r ∈ rs, r.1.size ≤ 64 ∧ r.2.size ≤ 64) → (∀ l, last = some l → l.1 < S.N.length ∧ l.2.size ≤ 64) → chainT own p rs last S = .ok S' → Sml (m + rs.length) k S'
  | [], m, last, S, S', h, _, _, he => by
    unfold chainT at he
    injection he with he; subst he
    exact h
  | r :: rs, m, last, S, S', h, hr, hl, he => by
    unfold chainT at he
    split at he
    · cases he
    · rename_i v S2 hm
      obtain ⟨h1, h2, h3, h4, h5⟩ := h.ment hp (hr r (by simp)).1 hm
      rw [List.length_cons, ← Nat.add_assoc, Nat.add_right_comm]
      refine Sml.chain hp ho rs (m + 1) _ _ S' ?_ (fun x hx => hr x (by simp [hx])) (fun l e => ?_) he
      · cases hl2 : last with
        | none => exact h1
        | some l =>
          obtain ⟨g1, g2⟩ := hl l hl2
          refine ⟨h1.n, h1.a, h1.c, ?_, h1.at', fun x hx => ?_, h1.nn, h1.cc⟩
          · have := h.l
            show (S2.K ++ _).length ≤ _
            rw [h4]; simp; omega
          · rcases List.mem_append.1 hx with hx | hx
            · exact h1.kt x hx
            · rw [List.mem_singleton.1 hx]
              exact ⟨ho, by show l.1 < S2.N.length; omega, h2, g2, (hr r (by simp)).2⟩
      · injection e with e; subst e
        refine ⟨?_, (hr r (by simp)).2⟩
        cases last <;> exact h2
def okW (x : Stm) : Prop := (∀ r ∈ x.refs, r.1.size ≤ 64 ∧ r.2.size ≤ 64) ∧ x.refs.length ≤ 10 ∧ x.attrs.length ≤ 20 ∧ (∀ q ∈ x.attrs, q.1.size ≤ 64 ∧ q.2.size ≤ 64) ∧ x.name.size ≤ 64 ∧ formB x = true
mutual
def okWS : Stm → Prop
  | .mk k n r a b => okW (.mk k n r a b) ∧ okWL b
def okWL : List Stm → Prop
  | [] => True
  | x :: r => okWS x ∧ okWL r
end
theorem okWS_eq (x : Stm) : okWS x ↔ okW x ∧ okWL x.body := by cases x; rw [okWS]; rfl
theorem okWL_cons (x : Stm) (r : List Stm) : okWL (x :: r) ↔ okWS x ∧ okWL r := by rw [okWL]
mutual
theorem okWS_flat (lev : Nat) : ∀ x : Stm, (∀ q ∈ flatS lev x, okW q.1) → okWS x
  | .mk k n r a b, h => by
    rw [flatS] at h
    rw [okWS]
    exact ⟨h _ List.mem_cons_self, okWL_flat _ b fun q hq => h q (List.mem_cons_of_mem _ hq)⟩
theorem okWL_flat (lev : Nat) : ∀ L : List Stm, (∀ q ∈ flatL lev L, okW q.1) → okWL L
  | [], _ => by rw [okWL]; trivial
  | x :: r, h => by
    rw [flatL] at h
    rw [okWL]
    exact ⟨okWS_flat lev x fun q hq => h q (List.mem_append_left _ hq), okWL_flat lev r fun q hq => h q (List.mem_append_right _ hq)⟩
end
mutual
theorem Sml.stm : ∀ (x : Stm) (k : Nat) (p p' : Pl) (S S' : St), okWS x → Sml (10 * k) k S → SmP k p → blkS p S x = .ok (p', S') → Sml (10 * (k + cntS x)) (k + cntS x) S' ∧ SmP (k + cntS x) p'
  | .mk kd n rs al b, k, p, p', S, S', ho, h, hp, he => by
    rw [okWS] at ho
    obtain ⟨⟨hr, hrl, hal, ha, hnm, -⟩, hb⟩ := ho
    simp only [Stm.refs, Stm.attrs, Stm.name] at hr hrl hal ha hnm
    rw [cntS]
    unfold blkS at he
    split at he
    · cases he
    split at he
    · split at he
      · cases he
      · rename_i v S2 hm
        injection he with he; injection he with h1 h2; subst h1; subst h2
        obtain ⟨g1, g2, g3, g4, g5⟩ := h.ment hp hnm hm
        refine ⟨?_, hp.mono (by omega)⟩
        have g6 := g1.mono (m' := 10 * (k + (cntL b + 1))) (k' := k + (cntL b + 1)) (by omega) (by omega)
        refine ⟨g6.n, by have := g6.a; simpa using this, g6.c, g6.l, fun L hL => ?_, g6.kt, g6.nn, g6.cc⟩
        rcases List.mem_or_eq_of_mem_set hL with hL | hL
        · exact g6.at' L hL
        · rw [hL]
          have hv : v < S2.A.length := by rw [g1.a]; exact g2
          rw [List.getD_eq_getElem?_getD, List.getElem?_eq_getElem hv]
          exact ((g1.at' _ (List.getElem_mem hv)).mrg hal ha).mono (by omega)
    split at he
    · split at he
      · cases he
      · rename_i S2 hm
        injection he with he; injection he with h1 h2; subst h1; subst h2
        have g := Sml.chain (hp.mono (Nat.le_succ k)) (hp.2.2.2.mrg hal ha) rs (10 * k) none S _ (h.mono (Nat.le_refl _) (by omega)) hr (fun l e => by cases e) hm
        exact ⟨g.mono (by omega) (by omega), hp.mono (by omega)⟩
    split at he
    · split at he
      · injection he with he; injection he with h1 h2; subst h1; subst h2
        exact ⟨h.mono (by omega) (by omega), hp.1, by have := hp.2.1; show p.c ≤ _; omega, (hp.2.2.1.mrg hal ha).mono (by omega), hp.2.2.2.mono (by omega)⟩
      · injection he with he; injection he with h1 h2; subst h1; subst h2
        exact ⟨h.mono (by omega) (by omega), hp.1, by have := hp.2.1; show p.c ≤ _; omega, hp.2.2.1.mono (by omega), (hp.2.2.2.mrg hal ha).mono (by omega)⟩
    split at he
    · split at he
      · cases he
      · split at he
        · cases he
        · rename_i S2 hm
          injection he with he; injection he with h1 h2; subst h1; subst h2
          have h3 : Sml (10 * (k + 1)) (k + 1) { S with C := S.C ++ [(n, p.c)] } := by
            have h4 := h.mono (m' := 10 * (k + 1)) (k' := k + 1) (by omega) (by omega)
            refine ⟨h4.n, h4.a, ?_, h4.l, h4.at', h4.kt, h4.nn, fun q hq => ?_⟩
            · have := h.c; simp; omega
            · rcases List.mem_append.1 hq with hq | hq
              · exact h4.cc q hq
              · rw [List.mem_singleton.1 hq]; exact ⟨hnm, hp.1, by have := hp.2.1; show p.c ≤ _; omega⟩
          have h5 : SmP (k + 1) { p with c := S.C.length } := ⟨by show (-1 : Int) ≤ (S.C.length : Int); omega, by have := h.c; show (S.C.length : Int) ≤ _; omega, hp.2.2.1.mono (by omega), hp.2.2.2.mono (by omega)⟩
          have h6 := Sml.stms b (k + 1) _ _ _ hb h3 h5 hm
          rw [show k + (cntL b + 1) = k + 1 + cntL b by omega]
          exact ⟨h6, hp.mono (by omega)⟩
    · injection he with he; injection he with h1 h2; subst h1; subst h2
      exact ⟨h.mono (by omega) (by omega), hp.mono (by omega)⟩
theorem Sml.stms : ∀ (L : List Stm) (k : Nat) (p : Pl) (S S' : St), okWL L → Sml (10 * k) k S → SmP k p → blkL p S L = .ok S' → Sml (10 * (k + cntL L)) (k + cntL L) S'
  | [], k, p, S, S', _, h, _, he => by
    unfold blkL at he
    injection he with he; subst he
    rw [cntL]; exact h
  | x :: r, k, p, S, S', ho, h, hp, he => by
    rw [okWL] at ho
    unfold blkL at he
    split at he
    · cases he
    · rename_i p2 S2 hm
      obtain ⟨g1, g2⟩ := Sml.stm x k p p2 S S2 ho.1 h hp hm
      rw [cntL, ← Nat.add_assoc]
      exact Sml.stms r _ p2 S2 S' ho.2 g1 g2 he
end
end Go.Proofs.YtnancphlkbfglaaGreatDoor.Nm

namespace Go.Proofs.YtnancphlkbfglaaGreatDoor.Nm
open Go.RowKit Go.Lib Fx Lx At
def NdIn (w : World) (a : Option Addr) (L : List Nd) : Prop :=
  ∀ k (h : k < L.length), ∃ g o p c, a = some ⟨g, o, none⟩ ∧ w.cell? ⟨g, o + k * 6, none⟩ = some (.string L[k].name) ∧ w.cell? ⟨g, o + k * 6 + 1, none⟩ = some (.string L[k].label) ∧
    w.cell? ⟨g, o + k * 6 + 2, none⟩ = some (.int .i64 L[k].w) ∧ w.cell? ⟨g, o + k * 6 + 3, none⟩ = some (.int .i64 L[k].h) ∧ w.cell? ⟨g, o + k * 6 + 4, none⟩ = some (.int .i64 L[k].c) ∧
    w.cell? ⟨g, o + k * 6 + 5, none⟩ = some (.slice p L[k].ports.length c) ∧ PrtIn w p L[k].ports
def EdIn (w : World) (a : Option Addr) (L : List Ed) : Prop :=
  ∀ k (h : k < L.length), ∃ g o, a = some ⟨g, o, none⟩ ∧ w.cell? ⟨g, o + k * 7, none⟩ = some (.int .i64 L[k].a) ∧ w.cell? ⟨g, o + k * 7 + 1, none⟩ = some (.int .i64 L[k].b) ∧
    w.cell? ⟨g, o + k * 7 + 2, none⟩ = some (.int .i64 L[k].ap) ∧ w.cell? ⟨g, o + k * 7 + 3, none⟩ = some (.int .i64 L[k].bp) ∧ w.cell? ⟨g, o + k * 7 + 4, none⟩ = some (.string L[k].label) ∧
    w.cell? ⟨g, o + k * 7 + 5, none⟩ = some (.int .i64 L[k].wt) ∧ w.cell? ⟨g, o + k * 7 + 6, none⟩ = some (.int .i64 L[k].len)
def ClIn (w : World) (a : Option Addr) (L : List (ByteArray × Int)) : Prop :=
  ∀ k (h : k < L.length), ∃ g o, a = some ⟨g, o, none⟩ ∧ w.cell? ⟨g, o + k * 2, none⟩ = some (.string L[k].1) ∧ w.cell? ⟨g, o + k * 2 + 1, none⟩ = some (.int .i64 L[k].2)
theorem NdIn.ext {w w' : World} {a : Option Addr} {L : List Nd} (h : NdIn w a L) (x : Ext w w') : NdIn w' a L := fun k hk => by
  obtain ⟨g, o, p, c, ha, h0, h1, h2, h3, h4, h5, h6⟩ := h k hk
  exact ⟨g, o, p, c, ha, x.cell h0, x.cell h1, x.cell h2, x.cell h3, x.cell h4, x.cell h5, h6.ext x⟩
theorem EdIn.ext {w w' : World} {a : Option Addr} {L : List Ed} (h : EdIn w a L) (x : Ext w w') : EdIn w' a L := fun k hk => by
  obtain ⟨g, o, ha, h0, h1, h2, h3, h4, h5, h6⟩ := h k hk
  exact ⟨g, o, ha, x.cell h0, x.cell h1, x.cell h2, x.cell h3, x.cell h4, x.cell h5, x.cell h6⟩
theorem ClIn.ext {w w' : World} {a : Option Addr} {L : List (ByteArray × Int)} (h : ClIn w a L) (x : Ext w w') : ClIn w' a L := fun k hk => by
  obtain ⟨g, o, ha, h0, h1⟩ := h k hk
  exact ⟨g, o, ha, x.cell h0, x.cell h1⟩
def GrIn (w : World) (v : Value) (g : Gr) : Prop :=
  ∃ n nc e ec c cc, v = .agg #[.string g.name, .bool g.dir, .slice n g.N.length nc, .slice e g.E.length ec, .slice c g.C.length cc] ∧ NdIn w n g.N ∧ EdIn w e g.E ∧ ClIn w c g.C
theorem GrIn.ext {w w' : World} {v : Value} {g : Gr} (h : GrIn w v g) (x : Ext w w') : GrIn w' v g := by
  obtain ⟨n, nc, e, ec, c, cc, hv, h1, h2, h3⟩ := h
  exact ⟨n, nc, e, ec, c, cc, hv, h1.ext x, h2.ext x, h3.ext x⟩
end Go.Proofs.YtnancphlkbfglaaGreatDoor.Nm
