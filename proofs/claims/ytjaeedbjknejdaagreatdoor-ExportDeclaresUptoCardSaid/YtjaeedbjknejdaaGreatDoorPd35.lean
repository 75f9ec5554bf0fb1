/- Packed texts: QuoOnce, QuoBuild, QuoRep, QuoRepl, LexPlain, QuoDoc -/
import Derived.Test.YtjaeedbjknejdaaGreatDoorPd29
import Derived.Tactics
import Derived.Tactics2
import Derived.Defers
import Derived.Laws.Pointers
import Derived.Laws.LoneSync
import Derived.RegionTactic
import Derived.RegionCalls
import Derived.ChangeAlike
import Derived.Lib.SlBytesConst
import Derived.Deep.WholeRow
import Derived.WalkSpells
import Derived.WalkLawsBesides
import Derived.Lib.OwnKind
import Derived.Maps.AppendAt
import Derived.Laws.CopyOwn
import Derived.Deep.OwnRows
set_option linter.unusedVariables false
set_option linter.unusedSimpArgs false
set_option maxHeartbeats 16000000
set_option maxRecDepth 100000
namespace Go.Proofs.YtjaeedbjknejdaaGreatDoor.Qo
open Go.RowKit
theorem disable (w:World):(callFunc 317 #[]).run Tryz.prog w=.ok (.value (.tuple #[])) w:=run_call_mark0 Tryz.func317 (by kernel_rfl) (by kernel_rfl) (by kernel_rfl) .disable (by kernel_rfl) w
theorem enable (w:World):(callFunc 319 #[]).run Tryz.prog w=.ok (.value (.tuple #[])) w:=run_call_mark0 Tryz.func319 (by kernel_rfl) (by kernel_rfl) (by kernel_rfl) .enable (by kernel_rfl) w
theorem acquire (a:Addr)(w:World):(callFunc 320 #[.pointer (some a)]).run Tryz.prog w=.ok (.value (.tuple #[])) w:=run_call_marked Tryz.func320 (by kernel_rfl) (by kernel_rfl) (by kernel_rfl) .acquire (by kernel_rfl) a w
theorem releaseMerge (a:Addr)(w:World):(callFunc 322 #[.pointer (some a)]).run Tryz.prog w=.ok (.value (.tuple #[])) w:=run_call_marked Tryz.func322 (by kernel_rfl) (by kernel_rfl) (by kernel_rfl) .releaseMerge (by kernel_rfl) a w
theorem store_deferred (a:Addr)(x:Value)(u:FrameMode)(w:World)(hc:w.cell? a=some x)(hz:w.frozen? a=false):
  CallsD Tryz.prog 308 #[.pointer (some a),.bool true] u w fun e u' w'=>u'=u/\(e=.returned (.tuple #[])/\w'=w.drew.setCell a (.int .u32 1)):=by
 have hc':w.drew.cell? a=some x:=by go_simp
 have hz':w.drew.frozen? a=false:=by go_simp
 have hst:=run_call_store (P:=Tryz.prog) Tryz.func313 (by kernel_rfl) (by kernel_rfl) (by kernel_rfl) (by kernel_rfl) (k:=.u32) (y:=1) hc' hz'
 go_enter_d Tryz.func308,Tryz.ntmps308
 go_wp2
 go_region_calls
 all_goals (go_end0;exact⟨rfl,rfl⟩)
theorem unlock_held (a:Addr)(w:World)(hc:w.cell? a=some (.int .i32 1))(hz:w.frozen? a=false):
  Calls Tryz.prog 312 #[.pointer (some a)] w fun e w'=>e=.returned (.tuple #[])/\w'=w.setCell a (.int .i32 0):=by
 have hd:=disable;have he:=enable;have hr:=releaseMerge;have hadd:=run_call_add (P:=Tryz.prog) Tryz.func323 (by kernel_rfl) (by kernel_rfl) (by kernel_rfl) .i32 (by kernel_rfl) (y := -1) (s:=0) hc hz (by simp[go_sem];rfl);have hcv:=run_convert_to_unsafe (P:=Tryz.prog) (src:=386) (dst:=308) Tryz.underlying386 Tryz.underlying308 (by kernel_rfl) hc;go_enter Tryz.func312,Tryz.ntmps312;go_wp2
 go_end0
 exact⟨rfl,rfl⟩
theorem unlock_deferred (a:Addr)(u:FrameMode)(w:World)(hc:w.cell? a=some (.int .i32 1))(hz:w.frozen? a=false):
  CallsD Tryz.prog 307 #[.pointer (some a)] u w fun e u' w'=>u'=u/\(e=.returned (.tuple #[])/\w'=w.setCell a (.int .i32 0)):=by
 go_enter_d Tryz.func307,Tryz.ntmps307
 go_wp2_with (go_at_call 312;refine(unlock_held a _ hc hz).mono ?_;rintro e w' ⟨rfl,rfl⟩)
 go_end0
 exact⟨rfl,rfl⟩
theorem lock_inner (a:Addr)(w:World)(hc:w.cell? a=some (.int .i32 0))(hz:w.frozen? a=false):
  Calls Tryz.prog 311 #[.pointer (some a)] w fun e w'=>e=.returned (.tuple #[])/\w'=w.setCell a (.int .i32 1):=by
 have hd:=disable;have he:=enable;have ha:=acquire;have hcas:=run_call_cas_hit (P:=Tryz.prog) Tryz.func318 (by kernel_rfl) (by kernel_rfl) (by kernel_rfl) .i32 (by kernel_rfl) (y:=1) hc hz;have hc':(w.setCell a (.int .i32 1)).cell? a=some (.int .i32 1):=World.cell?_setCell_same w a _ hc;have hcv:=run_convert_to_unsafe (P:=Tryz.prog) (src:=386) (dst:=308) Tryz.underlying386 Tryz.underlying308 (by kernel_rfl) hc';go_enter Tryz.func311,Tryz.ntmps311;go_wp2
 first | go_end0 | (simp only[Exit.inBlock,Exit.then];refine bodyPost_ret (results_none rfl _ _ _) rfl ?_) | refine bodyPost_ret (results_none rfl _ _ _) rfl ?_
 exact⟨rfl,rfl⟩
theorem lock_free (a:Addr)(w:World)(hc:w.cell? a=some (.int .i32 0))(hz:w.frozen? a=false):
  Calls Tryz.prog 306 #[.pointer (some a)] w fun e w'=>e=.returned (.tuple #[])/\w'=w.setCell a (.int .i32 1):=by
 go_enter Tryz.func306,Tryz.ntmps306;go_wp2_with (go_at_call 311;refine(lock_inner a _ hc hz).mono ?_;rintro e w' ⟨rfl,rfl⟩)
 go_end0
 exact⟨rfl,rfl⟩
def DoneOf (b:Nat)(Q:World->Prop)(w':World):Prop:=∃ wq,Q wq/\w'=(wq.drew.setCell ⟨b,0,none⟩ (.int .u32 1)).setCell ⟨b,1,none⟩ (.int .i32 0)
theorem slow_any (b:Nat)(r:Value)(w:World)(Q:World->Prop)
  (h0:w.cell? ⟨b,0,none⟩=some (.int .u32 0)) (h1:w.cell? ⟨b,1,none⟩=some (.int .i32 0)) (f0:w.frozen? ⟨b,0,none⟩=false) (f1:w.frozen? ⟨b,1,none⟩=false)
  (hf:Calls Tryz.prog 301 #[r] (w.setCell ⟨b,1,none⟩ (.int .i32 1)) fun e w'=>e=.returned (.tuple #[])/\Q w')
  (hQ:∀ w',Q w'->w'.cell? ⟨b,0,none⟩=some (.int .u32 0)/\w'.cell? ⟨b,1,none⟩=some (.int .i32 1)/\w'.frozen? ⟨b,0,none⟩=false/\w'.frozen? ⟨b,1,none⟩=false) :
  Calls Tryz.prog 303 #[.pointer (some ⟨b,0,none⟩),.func (.func 301) #[r] #[]] w fun e w'=>e=.returned (.tuple #[])/\DoneOf b Q w':=by
 have hl:=run_call_load (P:=Tryz.prog) Tryz.func305 (by kernel_rfl) (by kernel_rfl) (by kernel_rfl) .u32 (by kernel_rfl) (w:=w.setCell ⟨b,1,none⟩ (.int .i32 1)) (a:=⟨b,0,none⟩) (x:=0) ((World.cell?_setCell_other _ ⟨b,1,none⟩ ⟨b,0,none⟩ _ (by simp)).trans h0);have hnot:∀ (x:Bool) (w:World),(Op.unary .not (.bool x)).run Tryz.prog w=.ok (.bool (!x)) w:=fun _ _=>rfl
 have HQ:=Lib.hid hQ;clear hQ
 go_enter_defers Tryz.func303,Tryz.ntmps303
 go_wp2_with (first | (go_at_call 306;refine(lock_free ⟨b,1,none⟩ _ (by go_simp) (by go_simp)).mono ?_;rintro e w' ⟨rfl,rfl⟩) | (go_at_call 302;go_in));refine hf.mono ?_;rintro e w' ⟨rfl,hq⟩;obtain⟨q0,q1,g0,g1⟩:=HQ.out w' hq;have HQ2:=Lib.hid hq;clear hq hf;go_wp2;refine leaves_cons (f:=308) (args:=#[.pointer (some ⟨b,0,none⟩),.bool true]) (by simp) (by simp[go_sem]) ?_;refine(store_deferred ⟨b,0,none⟩ (.int .u32 0) .returning _ q0 g0).mono ?_;rintro e u' w'' ⟨rfl,rfl,rfl⟩;refine leaves_cons (f:=307) (args:=#[.pointer (some ⟨b,1,none⟩)]) (by simp[settle]) (by simp[go_sem]) ?_;refine(unlock_deferred ⟨b,1,none⟩ _ _ ?_ (by simp[g1])).mono ?_
 ·refine(World.cell?_setCell_other _ ⟨b,0,none⟩ ⟨b,1,none⟩ _ (by simp)).trans ?_;rw[World.cell?_drew];exact q1
 rintro e u' w'' ⟨rfl,rfl,rfl⟩;simp[Leaves,settle,results,Tryz.results303];exact⟨_,HQ2.out,rfl⟩
theorem do_first (b:Nat)(r:Value)(w:World)(Q:World->Prop)
  (h0:w.cell? ⟨b,0,none⟩=some (.int .u32 0)) (h1:w.cell? ⟨b,1,none⟩=some (.int .i32 0)) (f0:w.frozen? ⟨b,0,none⟩=false) (f1:w.frozen? ⟨b,1,none⟩=false)
  (hf:Calls Tryz.prog 301 #[r] (w.setCell ⟨b,1,none⟩ (.int .i32 1)) fun e w'=>e=.returned (.tuple #[])/\Q w')
  (hQ:∀ w',Q w'->w'.cell? ⟨b,0,none⟩=some (.int .u32 0)/\w'.cell? ⟨b,1,none⟩=some (.int .i32 1)/\w'.frozen? ⟨b,0,none⟩=false/\w'.frozen? ⟨b,1,none⟩=false) :
  Calls Tryz.prog 300 #[.pointer (some ⟨b,0,none⟩),.func (.func 301) #[r] #[]] w fun e w'=>e=.returned (.tuple #[])/\DoneOf b Q w':=by
 have hs:=slow_any b r w Q h0 h1 f0 f1 hf hQ;clear hf hQ;have hl:=run_call_load (P:=Tryz.prog) Tryz.func305 (by kernel_rfl) (by kernel_rfl) (by kernel_rfl) .u32 (by kernel_rfl) h0;have hnot:∀ (x:Bool) (w:World),(Op.unary .not (.bool x)).run Tryz.prog w=.ok (.bool (!x)) w:=fun _ _=>rfl
 go_enter Tryz.func300,Tryz.ntmps300;go_wp2_with (first | (go_at_call 303;refine hs.mono ?_;rintro e w' ⟨rfl,hq⟩) | (go_at_call 302;go_in))
 go_end0
 exact⟨rfl,hq⟩
end Go.Proofs.YtjaeedbjknejdaaGreatDoor.Qo

namespace Go.Proofs.YtjaeedbjknejdaaGreatDoor.Qo
open Go.RowKit Go.Lib Fx
def repC (s34 s92 v:Value):Array Value:=(((Array.replicate 256 (.slice none 0 0)).setIfInBounds 34 s34).setIfInBounds 92 s92).push v
theorem repC_size (a b c:Value):(repC a b c).size=257:=by simp[repC]
theorem build_run (a:Addr)(w:World):(Instr.build 370 #[(1,.slice (some a) 0 2)]).run Tryz.prog w=.ok (.agg (repC (.slice none 0 0) (.slice none 0 0) (.slice (some a) 0 2))) w:=by kernel_rfl
theorem zero_run (w:World):(zeroValue 370).run Tryz.prog w=.ok (.agg (repC (.slice none 0 0) (.slice none 0 0) (.slice none 0 0))) w:=by kernel_rfl
theorem rep_info : (Tryz.prog.info? 370).map (·.size)=some 257:=by kernel_rfl
theorem make2 (w:World):(Instr.makeSlice 43 (.int .i64 0) (.int .i64 2)).run Tryz.prog w=.ok (.slice (some ⟨w.heap.size,0,none⟩) 0 2) (w.alloc (.cells #[.string ⟨#[]⟩,.string ⟨#[]⟩] 9)):=by kernel_rfl
theorem repC_cells (a b c:Value)(ha:a.oneCell'=true)(hb:b.oneCell'=true)(hc:c.oneCell'=true):(repC a b c).all (·.oneCell')=true:=by
 rw[Array.all_eq_true];intro i hi;have hi':i < ((((Array.replicate 256 (Value.slice none 0 0)).setIfInBounds 34 a).setIfInBounds 92 b).push c).size:=hi;show((((Array.replicate 256 (Value.slice none 0 0)).setIfInBounds 34 a).setIfInBounds 92 b).push c)[i].oneCell'=true;rw[Array.getElem_push];split
 ·rw[Array.getElem_setIfInBounds];split
  ·exact hb
  ·rw[Array.getElem_setIfInBounds];split
   ·exact ha
   ·rw[Array.getElem_replicate];rfl
   simp at *;omega
  simp at *;omega
 exact hc
theorem repC_256 (a b c c':Value):(repC a b c).setIfInBounds 256 c'=repC a b c':=by kernel_rfl
theorem repC_34 (a b c a':Value):(repC a b c).setIfInBounds 34 a'=repC a' b c:=by kernel_rfl
theorem repC_92 (a b c b':Value):(repC a b c).setIfInBounds 92 b'=repC a b' c:=by kernel_rfl
theorem repC_at256 (a b c:Value):(repC a b c)[256]? = some c:=by kernel_rfl
theorem repC_at34 (a b c:Value):(repC a b c)[34]? = some a:=by kernel_rfl
theorem repC_at92 (a b c:Value):(repC a b c)[92]? = some b:=by kernel_rfl
theorem repC_else (a b c:Value)(i:Nat)(hi:i < 256)(h1:i ≠ 34)(h2:i ≠ 92):(repC a b c)[i]? = some (.slice none 0 0):=by
 have hi':i < ((((Array.replicate 256 (Value.slice none 0 0)).setIfInBounds 34 a).setIfInBounds 92 b).push c).size:=by simp;omega
 show((((Array.replicate 256 (Value.slice none 0 0)).setIfInBounds 34 a).setIfInBounds 92 b).push c)[i]? = _;rw[Array.getElem?_eq_getElem hi',Array.getElem_push_lt (by simpa using hi),Array.getElem_setIfInBounds_ne (by simpa using hi) (fun e=>h2 e.symm),Array.getElem_setIfInBounds_ne (by simpa using hi) (fun e=>h1 e.symm),Array.getElem_replicate]
def BytesAt (w:World)(s:Value)(l:List UInt8):Prop :=
 ∃ (p c:Nat) (C:Array Value) (fz:Nat × Nat),s=.slice (some ⟨p,0,none⟩) l.length c/\w.heap[p]? = some (.cells C 5 fz)/\∀ (j:Nat) (b:UInt8),l[j]? = some b->C[j]? = some (Value.int .u8 b.toNat)
theorem BytesAt.kept {w w':World}{s:Value}{l:List UInt8}(h:BytesAt w s l)(hk:∀ (p:Nat) (C:Array Value) (fz:Nat × Nat),w.heap[p]? = some (.cells C 5 fz)->w'.heap[p]? = some (.cells C 5 fz)):BytesAt w' s l:=by
 obtain⟨p,c,C,fz,hs,hh,hc⟩:=h;exact⟨p,c,C,fz,hs,hk p C fz hh,hc⟩
structure RB (B k:Nat)(s34 s92 v:Value)(xs:List Value)(w:World):Prop where
 blk:w.heap[k]? = some (.cells (repC s34 s92 v) 370 (0,0))
 own:w.ownsRow B 9 1 v xs.length xs
theorem ownsRow_type {w:World}{B:Nat}{e:TypeId}{size:Nat}{v:Value}{n:Nat}{xs:List Value}(h:w.ownsRow B e size v n xs):∀ g,v.ownBlock=some g->∃ c fz,w.heap[g]? = some (.cells c e fz):=ownsRow_kind h
theorem RB.ne {B k:Nat}{s34 s92 v:Value}{xs:List Value}{w:World}(h:RB B k s34 s92 v xs w):v.ownBlock ≠ some k:=by
 have hb:=h.blk;rcases h.own.2 with⟨rfl,_⟩ | ⟨g',cap,cur,rfl,_,hh,_⟩
 ·simp[Value.ownBlock]
 intro he;have e:g'=k:=by simpa [Value.ownBlock] using he
 subst e;rw[hh] at hb;injection hb with hb;injection hb with _ ht;exact absurd ht (by decide)
theorem cell_of_blk {w:World}{k:Nat}{C:Array Value}{T:TypeId}{fz:Nat × Nat}(h:w.heap[k]? = some (.cells C T fz))(i:Nat):w.cell? ⟨k,i,none⟩=C[i]? := by rw[Lib.cell_of_heap h]
theorem frozen_of_blk {w:World}{k:Nat}{C:Array Value}{T:TypeId}(h:w.heap[k]? = some (.cells C T (0,0)))(i:Nat):w.frozen? ⟨k,i,none⟩=false:=Lib.frozen_of_heap h i
theorem info_str : (Tryz.prog.info? 9).map (fun i=>(i.zero,i.size,i.bytes))=some (some (.string ⟨#[]⟩),1,16):=by kernel_rfl
def strsV (l:List (List UInt8)):List Value:=l.map fun s=>.string ⟨s.toArray⟩
def RepAt (w:World)(k:Nat):Prop:=∃ B s34 s92 v,RB B k s34 s92 v (strsV [[34],[92]]) w/\BytesAt w s34 [92,34]/\BytesAt w s92 [92,92]
theorem round_world {B k q cp n i:Nat}{C:Array Value}{T:TypeId}{s:Value}{xs:List Value}{w2:World}(O:Obj)(hb:w2.heap[k]? = some (.cells C T (0,0)))(hT:T ≠ 9)
  (hown:w2.ownsRow B 9 1 (.slice (some ⟨q,0,none⟩) n cp) n xs) (h0:0 < n) :
  ((((w2.setCell ⟨k,256,none⟩ (.slice (some ⟨q,0,none⟩) n cp)).setCell ⟨k,i,none⟩ s).alloc O).drew).heap[k]? = some (.cells ((C.setIfInBounds 256 (.slice (some ⟨q,0,none⟩) n cp)).setIfInBounds i s) T (0,0)) /\
  ((((w2.setCell ⟨k,256,none⟩ (.slice (some ⟨q,0,none⟩) n cp)).setCell ⟨k,i,none⟩ s).alloc O).drew).ownsRow B 9 1 (.slice (some ⟨q,0,none⟩) n cp) n xs /\
  ((((w2.setCell ⟨k,256,none⟩ (.slice (some ⟨q,0,none⟩) n cp)).setCell ⟨k,i,none⟩ s).alloc O).drew).heap[w2.heap.size]? = some O /\
  ∀ p,p ≠ k->p < w2.heap.size->((((w2.setCell ⟨k,256,none⟩ (.slice (some ⟨q,0,none⟩) n cp)).setCell ⟨k,i,none⟩ s).alloc O).drew).heap[p]? = w2.heap[p]? := by
 have hk:=(Array.getElem?_eq_some_iff.1 hb).1
 have hne:(Value.slice (some ⟨q,0,none⟩) n cp).ownBlock ≠ some k:=by
  rcases hown.2 with⟨h1,_⟩ | ⟨g',cap,cur,h1,_,hh,_⟩
  ·cases h1
  intro he;have e1:q=k:=by simpa [Value.ownBlock] using he
  have e2:q=g':=by injection h1 with h1;injection h1 with h1;injection h1
  subst e2;subst e1;rw[hh] at hb;injection hb with hb;injection hb with _ ht;exact hT ht.symm
 refine⟨?_,?_,?_,?_⟩
 ·rw[heap_drew,Lib.alloc_old _ _ _ (by simpa [World.setCell] using hk),heap_setCell_same _ k i _ T s (heap_setCell_same w2 k 256 C T _ hb)]
 ·exact(ownsRow_setCell_other (a:=⟨k,i,none⟩) (ownsRow_setCell_other (a:=⟨k,256,none⟩) hown hne _) hne _).alloc _
 ·rw[heap_drew];have h:=heap_alloc_new ((w2.setCell ⟨k,256,none⟩ (.slice (some ⟨q,0,none⟩) n cp)).setCell ⟨k,i,none⟩ s) O;have e:((w2.setCell ⟨k,256,none⟩ (.slice (some ⟨q,0,none⟩) n cp)).setCell ⟨k,i,none⟩ s).heap.size=w2.heap.size:=by simp[World.setCell]
  rw[e] at h;exact h
 intro p hp hlt;rw[heap_drew,Lib.alloc_old _ _ _ (by simpa [World.setCell] using hlt),heap_setCell_other _ ⟨k,i,none⟩ p _ hp,heap_setCell_other _ ⟨k,256,none⟩ p _ hp]
theorem bytesRow_at (s:ByteArray)(cap j:Nat)(b:UInt8)(h:s.data.toList[j]? = some b):(bytesRow s cap)[j]? = some (Value.int .u8 b.toNat):=by
 unfold bytesRow
 have hj:j < s.data.size:=by
  have:=(List.getElem?_eq_some_iff.1 h).1
  simpa using this
 rw[Array.getElem?_append_left (by simpa using hj)];rw[Array.getElem?_map];have:s.data[j]? = some b:=by simpa using h
 rw[this];rfl
theorem build_any (rb g cap:Nat)(w:World)(h4:w.cell? ⟨rb,4,none⟩=some (.slice (some ⟨g,0,none⟩) 4 cap))
  (g0:w.cell? ⟨g,0,none⟩=some (.string ⟨#[92]⟩)) (g1:w.cell? ⟨g,1,none⟩=some (.string ⟨#[92,92]⟩)) (g2:w.cell? ⟨g,2,none⟩=some (.string ⟨#[34]⟩)) (g3:w.cell? ⟨g,3,none⟩=some (.string ⟨#[92,34]⟩)) :
  Calls Tryz.prog 304 #[.pointer (some ⟨rb,0,none⟩)] w fun e w'=>(∃ k,e=.returned (.iface 371 (.pointer (some ⟨k,0,none⟩)))/\w.heap.size<=k/\RepAt w' k)/\Ext w w':=by
 have hmk:=make2;have hbr:=build_run;have hzr:=zero_run
 have hst:∀ v:Value,v.oneCell'=true->(storeCells ⟨w.heap.size+1,0,none⟩ ((repC (.slice none 0 0) (.slice none 0 0) (.slice none 0 0)).toList.set 256 v)).run Tryz.prog
   ((w.alloc (.cells #[.string ⟨#[]⟩,.string ⟨#[]⟩] 9)).alloc (.cells (repC (.slice none 0 0) (.slice none 0 0) (.slice none 0 0)) 370))=.ok ()
   ((w.alloc (.cells #[.string ⟨#[]⟩,.string ⟨#[]⟩] 9)).alloc (.cells (repC (.slice none 0 0) (.slice none 0 0) v) 370)):=fun v hv=>by
  have h:=run_storeCells_new (P:=Tryz.prog) (w.alloc (.cells #[.string ⟨#[]⟩,.string ⟨#[]⟩] 9)) 370 (repC (.slice none 0 0) (.slice none 0 0) (.slice none 0 0)) (repC (.slice none 0 0) (.slice none 0 0) v) (by rw[rep_info,repC_size]) (by rw[repC_size,repC_size]) (repC_cells _ _ _ rfl rfl hv);rw[World.size_alloc] at h;exact h
 have hst1:=hst (.slice (some ⟨w.heap.size,0,none⟩) 0 2) rfl;clear hst;obtain⟨i0,hi,hz0,hz1,hz2⟩:=info_parts info_str;go_enter Tryz.func304,Tryz.ntmps304;go_wp2_with fail;refine wp_loop_rounds 3 ?_;rw[rounds_succ];go_wp2_with fail;rw[rounds_succ];go_wp2_with fail;rw[rounds_succ];go_wp2_with fail
 go_loopw [12] (fun i' wr=>(∃ v,i'=.int .i64 2/\RB w.heap.size (w.heap.size+1) (.slice none 0 0) (.slice none 0 0) v [] wr/\Ext w wr) \/
   (∃ s34 v,i'=.int .i64 0/\RB w.heap.size (w.heap.size+1) s34 (.slice none 0 0) v (strsV [[34]]) wr/\BytesAt wr s34 [92,34]/\Ext w wr) \/
   (∃ s34 s92 v,i'=.int .i64 (-2)/\RB w.heap.size (w.heap.size+1) s34 s92 v (strsV [[34],[92]]) wr/\BytesAt wr s34 [92,34]/\BytesAt wr s92 [92,92]/\Ext w wr))
  (fun i' _=>(RowKit.intOf i'+2).toNat)
 case atStart =>
  refine .inl ⟨.slice (some ⟨w.heap.size,0,none⟩) 0 2,rfl,⟨?_,?_⟩,((Ext.refl _).alloc _).alloc _⟩
  ·have h:=heap_alloc_new (w.alloc (.cells #[.string ⟨#[]⟩,.string ⟨#[]⟩] 9)) (.cells (repC (.slice none 0 0) (.slice none 0 0) (.slice (some ⟨w.heap.size,0,none⟩) 0 2)) 370);rw[World.size_alloc] at h;exact h
  refine⟨rfl,.inr ⟨w.heap.size,2,#[.string ⟨#[]⟩,.string ⟨#[]⟩],rfl,Nat.le_refl _,?_,?_⟩⟩
  ·exact heap_alloc2_old w _ _
  simp[maxLen]
 clear hst1 hmk hbr hzr;rcases hrel with⟨v,rfl,hr,hx⟩ | ⟨s34,v,rfl,hr,hb34,hx⟩ | ⟨s34,s92,v,rfl,hr,hb34,hb92,hx⟩
 ·have r2:=hx.cell g2;have r3:=hx.cell g3;have k34:=(cell_of_blk hr.blk 34).trans (repC_at34 _ _ _);have k256:=(cell_of_blk hr.blk 256).trans (repC_at256 _ _ _);have hsz:=(Array.getElem?_eq_some_iff.1 hr.blk).1
  have hcb:(convert 148 9 (.slice (some ⟨wr.heap.size,0,none⟩) 1 1)).run Tryz.prog (wr.alloc (.cells #[.int .u8 34] 5))=.ok (.string ⟨#[34]⟩) (wr.alloc (.cells #[.int .u8 34] 5)):=run_convert_bytes_back (P:=Tryz.prog) (wr.alloc (.cells #[.int .u8 34] 5)) 148 9 5 ⟨wr.heap.size,0,none⟩ 1 [34] Tryz.underlying148 Tryz.underlying5 Tryz.underlying9 (fun j hj=>by
   simp at hj;subst hj;simp[Addr.add])
  have e34:((⟨#[34]⟩:ByteArray)[0]'(by decide)).toNat=34:=rfl;have hen:=fun w=>Lib.run_eql_slice_nil (P:=Tryz.prog) w 148 5 none 0 0 0 0 Tryz.underlying148
  have hne:=hr.ne;have hown:=hr.own;have HB:=hid hr.blk;have hxs:=hx.size;clear hr;go_wp2_with (at_builtin;refine wpList_append_own _ rfl _ _ 43 rfl w.heap.size 9 i0 (.string ⟨#[]⟩) 1 16 Tryz.underlying43 hi hz0 hz1 hz2 rfl (by decide) _ _ _ rfl ((hown.alloc _).alloc _) ⟨wr.heap.size+1,0,none⟩ 1 1 [.string ⟨#[34]⟩] rfl rfl ?c1 ?c2 ?c3 ?c4 ?c5 ?_)
  case c1 =>
   intro j u hj
   match j,hj with
   | 0,hj=>simp at hj;subst hj;simp[Addr.add]
  case c2=>intro u hu;simp at hu;subst hu;rfl
  case c3=>unfold maxLen;simp[strsV]
  case c4=>simp[strsV]
  case c5=>simp;omega
  intro v' w2 hown' hgrow _
  have hb2:w2.heap[w.heap.size+1]? = some (.cells (repC (.slice none 0 0) (.slice none 0 0) v) 370 (0,0)):=by
   rw[hgrow.block _ (by simp;omega) (fun e=>hne e.symm),Lib.alloc_old _ _ _ (by simp;omega),Lib.alloc_old _ _ _ hsz];exact HB.out
  have hx2:Ext w w2:=Below.grown ((hx.alloc _).alloc _) hgrow (by simp;omega) (fun k hk=>(hown.lt k hk).1);have d34:=(cell_of_blk hb2 34).trans (repC_at34 _ _ _);have d256:=(cell_of_blk hb2 256).trans (repC_at256 _ _ _);have f34:=frozen_of_blk hb2 34;have f256:=frozen_of_blk hb2 256;have hlt2:=(Array.getElem?_eq_some_iff.1 hb2).1
  obtain⟨q,cp,rfl⟩:∃ q cp,v'=.slice (some ⟨q,0,none⟩) 1 cp:=by
   rcases hown'.2 with⟨_,h0⟩ | ⟨q,cp,cur,hv,_⟩
   ·simp[strsV] at h0
   exact⟨q,cp,by simpa [strsV] using hv⟩
  have HO:=hid hown';have HB2:=hid hb2;have HG:=hid hgrow;clear hown' hb2 hgrow;have hsb:=fun w=>run_bytes_of_string (P:=Tryz.prog) w 9 148 5 ⟨#[92,34]⟩ Tryz.underlying9 Tryz.underlying148 Tryz.underlying5
  go_wp2_with fail
  go_roundw
  case rel =>
   obtain⟨q1,q2,q3,q4⟩:=round_world (i:=34) (s:=.slice (some ⟨w2.heap.size,0,none⟩) 2 (grownCap (w2.setCell ⟨w.heap.size+1,256,none⟩ (.slice (some ⟨q,0,none⟩) 1 cp)) 2 0 5)) _ HB2.out (by decide) HO.out (by decide);rw[repC_256,repC_34] at q1;exact .inr (.inl ⟨_,_,rfl,⟨q1,q2⟩,⟨_,_,_,_,rfl,q3,fun j b hb=>bytesRow_at _ _ _ _ hb⟩,(((hx2.setCell (p:=⟨w.heap.size+1,256,none⟩) (by simp) _).setCell (p:=⟨w.heap.size+1,34,none⟩) (by simp) _).alloc _).drew⟩)
  case measure=>simp[RowKit.intOf]
 ·have r2:=hx.cell g0;have r3:=hx.cell g1;have k34:=(cell_of_blk hr.blk 92).trans (repC_at92 _ _ _);have k256:=(cell_of_blk hr.blk 256).trans (repC_at256 _ _ _);have hsz:=(Array.getElem?_eq_some_iff.1 hr.blk).1
  have hcb:(convert 148 9 (.slice (some ⟨wr.heap.size,0,none⟩) 1 1)).run Tryz.prog (wr.alloc (.cells #[.int .u8 92] 5))=.ok (.string ⟨#[92]⟩) (wr.alloc (.cells #[.int .u8 92] 5)):=run_convert_bytes_back (P:=Tryz.prog) (wr.alloc (.cells #[.int .u8 92] 5)) 148 9 5 ⟨wr.heap.size,0,none⟩ 1 [92] Tryz.underlying148 Tryz.underlying5 Tryz.underlying9 (fun j hj=>by
   simp at hj;subst hj;simp[Addr.add])
  have e34:((⟨#[92]⟩:ByteArray)[0]'(by decide)).toNat=92:=rfl;have hen:=fun w=>Lib.run_eql_slice_nil (P:=Tryz.prog) w 148 5 none 0 0 0 0 Tryz.underlying148
  have hne:=hr.ne;have hown:=hr.own;have HOW:=hid hr.own;have HB34:=hid hb34;clear hb34;have HB:=hid hr.blk;have hxs:=hx.size;clear hr;go_wp2_with (at_builtin;refine wpList_append_own _ rfl _ _ 43 rfl w.heap.size 9 i0 (.string ⟨#[]⟩) 1 16 Tryz.underlying43 hi hz0 hz1 hz2 rfl (by decide) _ _ _ rfl ((hown.alloc _).alloc _) ⟨wr.heap.size+1,0,none⟩ 1 1 [.string ⟨#[92]⟩] rfl rfl ?c1 ?c2 ?c3 ?c4 ?c5 ?_)
  case c1 =>
   intro j u hj
   match j,hj with
   | 0,hj=>simp at hj;subst hj;simp[Addr.add]
  case c2=>intro u hu;simp at hu;subst hu;rfl
  case c3=>unfold maxLen;simp[strsV]
  case c4=>simp[strsV]
  case c5=>simp;omega
  intro v' w2 hown' hgrow _
  have hb2:w2.heap[w.heap.size+1]? = some (.cells (repC s34 (.slice none 0 0) v) 370 (0,0)):=by
   rw[hgrow.block _ (by simp;omega) (fun e=>hne e.symm),Lib.alloc_old _ _ _ (by simp;omega),Lib.alloc_old _ _ _ hsz];exact HB.out
  have hx2:Ext w w2:=Below.grown ((hx.alloc _).alloc _) hgrow (by simp;omega) (fun k hk=>(hown.lt k hk).1);have d34:=(cell_of_blk hb2 92).trans (repC_at92 _ _ _);have d256:=(cell_of_blk hb2 256).trans (repC_at256 _ _ _);have f34:=frozen_of_blk hb2 92;have f256:=frozen_of_blk hb2 256;have hlt2:=(Array.getElem?_eq_some_iff.1 hb2).1
  obtain⟨q,cp,rfl⟩:∃ q cp,v'=.slice (some ⟨q,0,none⟩) 2 cp:=by
   rcases hown'.2 with⟨_,h0⟩ | ⟨q,cp,cur,hv,_⟩
   ·simp[strsV] at h0
   exact⟨q,cp,by simpa [strsV] using hv⟩
  have HO:=hid hown';have HB2:=hid hb2;have HG:=hid hgrow;clear hown' hb2 hgrow;have hsb:=fun w=>run_bytes_of_string (P:=Tryz.prog) w 9 148 5 ⟨#[92,92]⟩ Tryz.underlying9 Tryz.underlying148 Tryz.underlying5
  go_wp2_with fail
  go_roundw
  case rel =>
   obtain⟨q1,q2,q3,q4⟩:=round_world (i:=92) (s:=.slice (some ⟨w2.heap.size,0,none⟩) 2 (grownCap (w2.setCell ⟨w.heap.size+1,256,none⟩ (.slice (some ⟨q,0,none⟩) 2 cp)) 2 0 5)) _ HB2.out (by decide) HO.out (by decide);rw[repC_256,repC_92] at q1;refine .inr (.inr ⟨_,_,_,rfl,⟨q1,q2⟩,?_,⟨_,_,_,_,rfl,q3,fun j b hb=>bytesRow_at _ _ _ _ hb⟩,(((hx2.setCell (p:=⟨w.heap.size+1,256,none⟩) (by simp) _).setCell (p:=⟨w.heap.size+1,92,none⟩) (by simp) _).alloc _).drew⟩)
   exact HB34.out.kept fun p C fz hp=>by
    have hlp:=(Array.getElem?_eq_some_iff.1 hp).1
    have e1:w2.heap[p]? = wr.heap[p]? := by
     rw[HG.out.block p (by simp;omega) (fun e=>?_),Lib.alloc_old _ _ _ (by simp;omega),Lib.alloc_old _ _ _ hlp];obtain⟨c,f,hc⟩:=ownsRow_type HOW.out _ e.symm;rw[hp] at hc;injection hc with hc;injection hc with _ ht;exact absurd ht (by decide)
    rw[q4 p (fun e=>?_) (by have:=HG.out.size;simp at this;omega),e1]
    ·exact hp
    subst e;rw[HB.out] at hp;injection hp with hp;injection hp with _ ht;exact absurd ht (by decide)
  case measure=>simp[RowKit.intOf]
 have HR:=hid (show RepAt wr (w.heap.size+1) from⟨_,_,_,_,hr,hb34,hb92⟩);clear hr hb34 hb92;go_wp2_with fail;go_ret;exact⟨⟨_,rfl,by omega,HR.out⟩,hx⟩
end Go.Proofs.YtjaeedbjknejdaaGreatDoor.Qo

namespace Go.Proofs.YtjaeedbjknejdaaGreatDoor.Qo
open Go.RowKit Go.Lib Fx
theorem RepAt.kept {w w':World}{k:Nat}(h:RepAt w k)(hs:w.heap.size<=w'.heap.size)(hk:∀ (p:Nat) (C:Array Value) (T:TypeId) (fz:Nat × Nat),T=5\/T=9\/T=370->w.heap[p]? = some (.cells C T fz)->w'.heap[p]? = some (.cells C T fz)):RepAt w' k:=by
 obtain⟨B,s34,s92,v,hr,h34,h92⟩:=h;refine⟨B,s34,s92,v,⟨hk _ _ _ _ (.inr (.inr rfl)) hr.blk,?_⟩,h34.kept fun p C fz hp=>hk _ _ _ _ (.inl rfl) hp,h92.kept fun p C fz hp=>hk _ _ _ _ (.inl rfl) hp⟩;have ho:=hr.own;refine⟨ho.1,?_⟩;rcases ho.2 with h1 | ⟨g,cap,cur,hv,hb,hg,r⟩
 ·exact .inl h1
 exact .inr ⟨g,cap,cur,hv,hb,hk _ _ _ _ (.inr (.inl rfl)) hg,r⟩
def Built (B rb:Nat)(w w':World):Prop:=∃ k,w'.heap[rb]? = some (.cells #[.int .u32 0,.int .i32 1,.int .u32 0,.iface 371 (.pointer (some ⟨k,0,none⟩)),.slice none 0 0] 354 (0,0))/\RepAt w' k/\Below B w w'
theorem buildOnce_any (B rb g cap:Nat)(w:World)(hB:B<=rb)(hb:w.heap[rb]? = some (.cells #[.int .u32 0,.int .i32 1,.int .u32 0,.nilIface,.slice (some ⟨g,0,none⟩) 4 cap] 354 (0,0)))
  (g0:w.cell? ⟨g,0,none⟩=some (.string ⟨#[92]⟩)) (g1:w.cell? ⟨g,1,none⟩=some (.string ⟨#[92,92]⟩)) (g2:w.cell? ⟨g,2,none⟩=some (.string ⟨#[34]⟩)) (g3:w.cell? ⟨g,3,none⟩=some (.string ⟨#[92,34]⟩)) :
  Calls Tryz.prog 301 #[.pointer (some ⟨rb,0,none⟩)] w fun e w'=>e=.returned (.tuple #[])/\Built B rb w w':=by
 have c4:w.cell? ⟨rb,4,none⟩=some (.slice (some ⟨g,0,none⟩) 4 cap):=cell_of_blk hb 4;have hlt:=(Array.getElem?_eq_some_iff.1 hb).1;have HBd:=hid (build_any rb g cap w c4 g0 g1 g2 g3);have HB:=hid hb;clear g0 g1 g2 g3 c4 hb;go_enter Tryz.func301,Tryz.ntmps301;go_wp2_with fail;refine HBd.out.mono ?_;rintro e w1 ⟨⟨k,rfl,hk,hr⟩,hx⟩;have hb1:w1.heap[rb]? = some (.cells #[.int .u32 0,.int .i32 1,.int .u32 0,.nilIface,.slice (some ⟨g,0,none⟩) 4 cap] 354 (0,0)):=(hx.block rb hlt).trans HB.out;have d3:w1.cell? ⟨rb,3,none⟩=some .nilIface:=cell_of_blk hb1 3;have d4:w1.cell? ⟨rb,4,none⟩=some (.slice (some ⟨g,0,none⟩) 4 cap):=cell_of_blk hb1 4;have f3:=frozen_of_blk hb1 3;have f4:=frozen_of_blk hb1 4;have HR:=hid hr;have HB1:=hid hb1;clear hb1 hr HBd;go_wp2_with fail
 go_end0
 refine⟨rfl,k,?_,?_,?_⟩
 ·exact heap_setCell_same _ rb 4 _ 354 (.slice none 0 0) (heap_setCell_same w1 rb 3 _ 354 _ HB1.out)
 ·refine HR.out.kept (by simp[World.setCell]) fun p C T fz hT hp=>?_
  have hne:p ≠ rb:=by
   rintro rfl;rw[HB1.out] at hp;injection hp with hp;injection hp with _ ht;rcases hT with rfl | rfl | rfl <;> exact absurd ht (by decide)
  rw[heap_setCell_other _ ⟨rb,4,none⟩ p _ hne,heap_setCell_other _ ⟨rb,3,none⟩ p _ hne];exact hp
 exact((hx.mono (by omega)).setCell (p:=⟨rb,3,none⟩) hB _).setCell (p:=⟨rb,4,none⟩) hB _
def oldnew : List Value:=[.string ⟨#[92]⟩,.string ⟨#[92,92]⟩,.string ⟨#[34]⟩,.string ⟨#[92,34]⟩]
theorem newReplacer_any (w:World):
  Calls Tryz.prog 295 #[.slice (some ⟨w.heap.size,0,none⟩) 4 4] (w.alloc (.cells oldnew.toArray 9)) fun e w'=>∃ rb g cap,e=.returned (.pointer (some ⟨rb,0,none⟩))/\w.heap.size<=rb /\
   w'.heap[rb]? = some (.cells #[.int .u32 0,.int .i32 0,.int .u32 0,.nilIface,.slice (some ⟨g,0,none⟩) 4 cap] 354 (0,0)) /\
   (∀ j u,oldnew[j]? = some u->w'.cell? ⟨g,j,none⟩=some u)/\g ≠ rb/\Ext w w':=by
 obtain⟨i0,hi,hz0,hz1,hz2⟩:=info_parts info_str;have hb0:=heap_alloc_new w (.cells oldnew.toArray 9);obtain⟨w0,hw0⟩:∃ w0,w0=w.alloc (.cells oldnew.toArray 9):=⟨_,rfl⟩;have hx0:Ext w w0:=by rw[hw0];exact(Ext.refl _).alloc _
 rw[<-hw0] at hb0 ⊢;have hs0:w0.heap.size=w.heap.size+1:=by rw[hw0];simp
 have HB:=hid hb0;have HS:=hid hs0;clear hw0 hb0 hs0;go_enter Tryz.func295,Tryz.ntmps295;go_wp2_with (at_builtin;refine wpList_append_own _ rfl _ _ 43 rfl w.heap.size 9 i0 (.string ⟨#[]⟩) 1 16 Tryz.underlying43 hi hz0 hz1 hz2 rfl (by decide) _ 0 [] rfl (World.ownsRow_nil _ _ _ _) ⟨w.heap.size,0,none⟩ 4 4 oldnew rfl rfl ?c1 ?c2 ?c3 ?c4 ?c5 ?_)
 case c1 =>
  intro j u hj;have e:(⟨w.heap.size,0,none⟩:Addr).add j=⟨w.heap.size,j,none⟩:=by simp[Addr.add];exact fun h=>h.symm
  rw[e,cell_of_blk HB.out]
  simpa using hj
 case c2=>intro u hu;simp[oldnew] at hu;rcases hu with rfl | rfl | rfl | rfl <;> rfl
 case c3=>simp[maxLen]
 case c4=>simp
 case c5=>have:=HS.out;omega
 intro v' w2 hown' hgrow _
 obtain⟨q,cp,rfl⟩:∃ q cp,v'=.slice (some ⟨q,0,none⟩) 4 cp:=by
  rcases hown'.2 with⟨_,h0⟩ | ⟨q,cp,cur,hv,_⟩
  ·simp at h0
  exact⟨q,cp,by simpa using hv⟩
 have HO:=hid hown';have HG:=hid hgrow;clear hown' hgrow;go_wp2_with fail;go_ret;have hx2:Ext w w2:=Below.grown hx0 HG.out (by have:=HS.out;omega) (fun k hk=>by cases hk);refine⟨w2.heap.size,q,cp,rfl,by have:=hx2.size;omega,?_,?_,?_,hx2.alloc _⟩
 ·exact heap_alloc_new w2 _
 ·intro j u hj;have hc:=HO.out.cells (g:=q) rfl j u (by simpa using hj);have e:(⟨q,0,none⟩:Addr).add j=⟨q,j,none⟩:=by simp[Addr.add];exact fun h=>h.symm
  rw[e] at hc;rw[World.cell?_alloc_past _ _ _ (HO.out.lt q rfl).2];exact hc
 have:=(HO.out.lt q rfl).2;omega
end Go.Proofs.YtjaeedbjknejdaaGreatDoor.Qo

namespace Go.Proofs.YtjaeedbjknejdaaGreatDoor.Qo
open Go.RowKit Go.Lib Fx Lx
def ex (l:List UInt8):Nat:=l.countP (fun b=>b == 34 || b == 92)
theorem ex_cons (b:UInt8)(r:List UInt8):ex (b::r)=ex r+if b=34\/b=92 then 1 else 0:=by
 unfold ex;rw[List.countP_cons];congr 1;by_cases h:b=34\/b=92 <;> simp[h]
theorem ex_snoc (l:List UInt8)(b:UInt8):ex (l++[b])=ex l+if b=34\/b=92 then 1 else 0:=by
 unfold ex;rw[List.countP_append];congr 1;by_cases h:b=34\/b=92 <;> simp[h]
theorem ex_le (l:List UInt8):ex l<=l.length:=List.countP_le_length
theorem ex_count (l:List UInt8):ex l=l.count 34+l.count 92:=by
 induction l with
 | nil=>rfl
 | cons b r ih =>
  rw[ex_cons,ih,List.count_cons,List.count_cons];by_cases h1:b=34
  ·subst h1;simp;omega
  ·by_cases h2:b=92
   ·subst h2;simp;omega
   simp[h1,h2]
theorem escL_len (l:List UInt8):(escL l).length=l.length+ex l:=by
 induction l with
 | nil=>rfl
 | cons b r ih =>
  have e:escL (b::r)=escB b++escL r:=rfl;rw[e,List.length_append,ih,ex_cons,List.length_cons];unfold escB;by_cases h:b=34\/b=92
  ·rw[if_pos h,if_pos h];simp;omega
  ·rw[if_neg h,if_neg h];simp;omega
theorem escL_id (l:List UInt8)(h:ex l=0):escL l=l:=by
 induction l with
 | nil=>rfl
 | cons b r ih =>
  have e:escL (b::r)=escB b++escL r:=rfl;rw[ex_cons] at h;have hb:¬ (b=34\/b=92):=fun hb=>by rw[if_pos hb] at h;omega
  rw[e,ih (by omega)];unfold escB;rw[if_neg hb];rfl
theorem escL_snoc (l:List UInt8)(b:UInt8):escL (l++[b])=escL l++escB b:=by unfold escL;simp
theorem take_at (s:ByteArray)(k:Nat)(h:k < s.size):s.data.toList.take (k+1)=s.data.toList.take k++[s[k]]:=by
 rw[List.take_succ_eq_append_getElem (by rw[<-size_len];exact h)];rfl
theorem ex_take_le (l:List UInt8)(k:Nat):ex (l.take k)<=ex l:=by
 have h:ex l=ex (l.take k)+ex (l.drop k):=by unfold ex;rw[<-List.countP_append,List.take_append_drop]
 omega
theorem RepAt.at_ {w:World}{k:Nat}(h:RepAt w k):∃ s34 s92 v,(∀ i,i < 256->w.cell? ⟨k,i,none⟩=some (if i=34 then s34 else if i=92 then s92 else .slice none 0 0)) /\
  (∃ p c,s34=.slice (some ⟨p,0,none⟩) 2 c/\w.cell? ⟨p,0,none⟩=some (.int .u8 92)/\w.cell? ⟨p,1,none⟩=some (.int .u8 34)) /\
  (∃ p c,s92=.slice (some ⟨p,0,none⟩) 2 c/\w.cell? ⟨p,0,none⟩=some (.int .u8 92)/\w.cell? ⟨p,1,none⟩=some (.int .u8 92)) /\
  w.cell? ⟨k,256,none⟩=some v/\∃ t c,v=.slice (some ⟨t,0,none⟩) 2 c/\w.cell? ⟨t,0,none⟩=some (.string ⟨#[34]⟩)/\w.cell? ⟨t,1,none⟩=some (.string ⟨#[92]⟩):=by
 obtain⟨B,s34,s92,v,hr,⟨p1,c1,C1,z1,h1,h2,h3⟩,⟨p2,c2,C2,z2,g1,g2,g3⟩⟩:=h;refine⟨s34,s92,v,?_,?_,?_,?_,?_⟩
 ·intro i hi;rw[cell_of_blk hr.blk];by_cases h34:i=34
  ·subst h34;rw[if_pos rfl];exact repC_at34 _ _ _
  by_cases h92:i=92
  ·subst h92;rw[if_neg (by decide),if_pos rfl];exact repC_at92 _ _ _
  rw[if_neg h34,if_neg h92];exact repC_else _ _ _ _ hi h34 h92
 ·exact⟨p1,c1,h1,by rw[cell_of_blk h2];exact h3 0 92 rfl,by rw[cell_of_blk h2];exact h3 1 34 rfl⟩
 ·exact⟨p2,c2,g1,by rw[cell_of_blk g2];exact g3 0 92 rfl,by rw[cell_of_blk g2];exact g3 1 92 rfl⟩
 ·rw[cell_of_blk hr.blk];exact repC_at256 _ _ _
 rcases hr.own.2 with⟨_,h0⟩ | ⟨g,cap,cur,hv,_⟩
 ·simp[strsV] at h0
 have hc:=hr.own.cells (g:=g) (by rw[hv];rfl);refine⟨g,cap,by rw[hv];rfl,?_,?_⟩
 ·simpa [Addr.add] using hc 0 _ rfl
 simpa [Addr.add] using hc 1 _ rfl
theorem info_u8 : (Tryz.prog.info? 5).map (fun i=>(i.zero,i.size,i.bytes))=some (some (.int .u8 0),1,1):=by kernel_rfl
def bufC (l:List UInt8)(m i:Nat):List Value:=((escL (l.take i)).map fun b=>Value.int .u8 b.toNat)++List.replicate (m - (escL (l.take i)).length) (.int .u8 0)
theorem escL_take_le (l:List UInt8)(i:Nat):(escL (l.take i)).length<=(escL l).length:=by
 rw[escL_len,escL_len];have:=ex_take_le l i;have:=List.length_take_le i l;simp only[List.length_take];omega
theorem bufC_len (l:List UInt8)(m i:Nat)(hm:m=(escL l).length):(bufC l m i).length=m:=by
 have:=escL_take_le l i;unfold bufC;simp;omega
theorem bufC_splice (l:List UInt8)(m i:Nat)(b:UInt8)(h:l.take (i+1)=l.take i++[b])(hm:m=(escL l).length):
  splice (bufC l m i) (escL (l.take i)).length ((escB b).map fun b=>Value.int .u8 b.toNat)=bufC l m (i+1):=by
 have h1:=escL_take_le l (i+1);have e:escL (l.take (i+1))=escL (l.take i)++escB b:=by rw[h,escL_snoc]
 unfold splice;rw[show bufC l m (i+1)=((escL (l.take i)++escB b).map fun b=>Value.int .u8 b.toNat)++List.replicate (m - (escL (l.take i)++escB b).length) (.int .u8 0) by unfold bufC;rw[e]];rw[e] at h1;unfold bufC;rw[List.take_append_of_le_length (by simp),List.take_of_length_le (by simp),List.map_append,List.append_assoc]
 congr 2
 simp only[List.length_map,List.length_append] at h1 ⊢;rw[List.drop_append,List.drop_eq_nil_of_le (by simp),List.nil_append,List.drop_replicate]
 congr 1
 simp;omega
theorem bufC_set (l:List UInt8)(m i:Nat)(b:UInt8)(h:l.take (i+1)=l.take i++[b])(hm:m=(escL l).length)(hb:¬ (b=34\/b=92))(hq:(escL (l.take i)).length < m):
  (bufC l m i).toArray.setIfInBounds (escL (l.take i)).length (.int .u8 b.toNat)=(bufC l m (i+1)).toArray:=by
 have hs:=bufC_splice l m i b h hm;rw[<-hs,show escB b=[b] from if_neg hb];have hl:=bufC_len l m i hm;unfold splice;rw[List.setIfInBounds_toArray,List.set_eq_take_append_cons_drop,if_pos (by rw[hl];exact hq)];simp
theorem two_at {w:World}{p:Nat}{a b:Value}(h0:w.cell? ⟨p,0,none⟩=some a)(h1:w.cell? ⟨p,1,none⟩=some b):∀ j v,[a,b][j]? = some v->w.cell? ((⟨p,0,none⟩:Addr).add j)=some v
 | 0,v,h=>by simp at h;subst h;simpa [Addr.add] using h0
 | 1,v,h=>by simp at h;subst h;simpa [Addr.add] using h1
 | n+2,v,h=>by simp at h
theorem bufC_zero (l:List UInt8)(m:Nat):madeCells #[.int .u8 0] m=(bufC l m 0).toArray:=by
 unfold bufC madeCells;apply Array.ext
 ·simp[escL]
 intro i h1 h2;simp[escL,Nat.mod_one]
theorem int_eq {k:IntKind}{a b:Int}(h:a=b):Value.int k a=.int k b:=by rw[h]
theorem repl_big (k:Nat)(s:ByteArray)(w:World)(h1:16<=s.size)(h2:s.size<=32)(hr:RepAt w k):
  Calls Tryz.prog 361 #[.pointer (some ⟨k,0,none⟩),.string s] w fun e w'=>e=.returned (.string ⟨(escL s.data.toList).toArray⟩)/\Ext w w':=by
 have HR:=Lib.hid hr;have hc34:=fun w=>Tryz.strings_Count_one s 34 w
 have hc92:=fun w=>Tryz.strings_Count_one s 92 w
 obtain⟨n34,hn34⟩:∃ n,n=Lib.countByte s.data.toList 34:=⟨_,rfl⟩;obtain⟨n92,hn92⟩:∃ n,n=Lib.countByte s.data.toList 92:=⟨_,rfl⟩;rw[<-hn34] at hc34;rw[<-hn92] at hc92;have hex:ex s.data.toList=n34+n92:=by rw[ex_count,hn34,hn92];rfl
 have hle:n34+n92<=s.size:=by rw[<-hex,size_len];exact ex_le _
 have HC34:=Lib.hid hc34;have HC92:=Lib.hid hc92;have HEX:=Lib.hid hex;clear hn34 hn92 hc34 hc92 hex;obtain⟨s34,s92,v,hc,⟨p1,c1,rfl,a0,a1⟩,⟨p2,c2,rfl,b0,b1⟩,hv,t,ct,rfl,t0,t1⟩:=hr.at_;have HF:=Lib.hid hc;have HT0:=Lib.hid t0;have HT1:=Lib.hid t1;have HA0:=Lib.hid a0;have HA1:=Lib.hid a1;have HB0:=Lib.hid b0;have HB1:=Lib.hid b1;clear hc a0 a1 b0 b1 t0 t1 hr;have h16:decide ((16:Int)<=(s.size:Int))=true:=by simp;omega
 go_enter Tryz.func361,Tryz.ntmps361;go_wp2_with fail
 go_loopw [5,6,32] (fun ns an ix wr=>∃ (n:Nat) (bb:Bool),((ix=.int .i64 0/\n=0)\/(ix=.int .i64 1/\n=n34)\/(ix=.int .i64 2/\n=n34+n92))/\ns=.int .i64 ((s.size:Int)+(n:Int))/\an=.bool bb/\Hid (bb=decide (0 < n))/\Ext w wr) (fun _ _ ix _=>2 - (RowKit.intOf ix).toNat)
 case atStart=>exact⟨0,false,.inl ⟨rfl,rfl⟩,by simp,rfl,Lib.hid (by simp),Ext.refl _⟩
 obtain⟨n,bb,hcase,rfl,rfl,hbb,hx⟩:=hrel;rcases hcase with⟨rfl,hn⟩ | ⟨rfl,hn⟩ | ⟨rfl,hn⟩
 ·have k34:=hx.cell (HF.out 34 (by decide));simp only[if_true,reduceIte,Nat.reduceEqDiff] at k34;have t0':=hx.cell HT0.out;have e34:((⟨#[34]⟩:ByteArray)[0]'(by decide)).toNat=34:=rfl;have HN:=Lib.hid hn;have hnb:n+n34<=s.size:=by omega
  clear hn;rcases Nat.eq_zero_or_pos n34 with hz | hz
  ·have hnz:((n34:Int) != 0)=false:=by simp;omega
   have HZ:=Lib.hid hz;clear hz;go_wp2_with fail;refine(HC34.out _).mono ?_;rintro e w1 ⟨rfl,rfl⟩;go_wp2
   go_roundw
   case rel=>exact⟨n34,bb,.inr (.inl ⟨rfl,rfl⟩),int_eq (by have:=HZ.out;have:=HN.out;omega),rfl,Lib.hid (by have:=HZ.out;have:=HN.out;rw[hbb.out,show n34=n by omega]),hx⟩
   case measure=>simp[RowKit.intOf]
  have hnz:((n34:Int) != 0)=true:=by simp;omega
  go_wp2_with fail;refine(HC34.out _).mono ?_;rintro e w1 ⟨rfl,rfl⟩;go_wp2_with fail
  go_region
  all_goals
   go_wp2
   go_roundw
   case rel=>exact⟨n34,true,.inr (.inl ⟨rfl,rfl⟩),int_eq (by have:=HN.out;omega),rfl,Lib.hid (by simp;omega),hx.drew⟩
   case measure=>simp[RowKit.intOf]
 ·have k34:=hx.cell (HF.out 92 (by decide));simp only[if_true,reduceIte,Nat.reduceEqDiff] at k34;have t0':=hx.cell HT1.out;have e34:((⟨#[92]⟩:ByteArray)[0]'(by decide)).toNat=92:=rfl;have HN:=Lib.hid hn;have hnb:n+n92<=s.size:=by omega
  clear hn;rcases Nat.eq_zero_or_pos n92 with hz | hz
  ·have hnz:((n92:Int) != 0)=false:=by simp;omega
   have HZ:=Lib.hid hz;clear hz;go_wp2_with fail;refine(HC92.out _).mono ?_;rintro e w1 ⟨rfl,rfl⟩;go_wp2
   go_roundw
   case rel=>exact⟨n34+n92,bb,.inr (.inr ⟨rfl,rfl⟩),int_eq (by have:=HZ.out;have:=HN.out;omega),rfl,Lib.hid (by have:=HZ.out;have:=HN.out;rw[hbb.out,show n34+n92=n by omega]),hx⟩
   case measure=>simp[RowKit.intOf]
  have hnz:((n92:Int) != 0)=true:=by simp;omega
  go_wp2_with fail;refine(HC92.out _).mono ?_;rintro e w1 ⟨rfl,rfl⟩;go_wp2_with fail
  go_region
  all_goals
   go_wp2
   go_roundw
   case rel=>exact⟨n34+n92,true,.inr (.inr ⟨rfl,rfl⟩),int_eq (by have:=HN.out;omega),rfl,Lib.hid (by simp;omega),hx.drew⟩
   case measure=>simp[RowKit.intOf]
 obtain⟨m,hm⟩:∃ m,m=(escL s.data.toList).length:=⟨_,rfl⟩;have hmx:m=s.size+(n34+n92):=by rw[hm,escL_len,<- size_len,HEX.out]
 have hms:(s.size:Int)+(n:Int)=(m:Int):=by omega
 rw[hms];have HN:=Lib.hid hn;clear hms hn;have HM:=Lib.hid hm;have HMX:=Lib.hid hmx;have hm64:m<=64:=by omega
 clear hm hmx;cases bb
 ·have hz:(n34+n92)=0:=by have hb:=hbb.out;have:=HN.out;simp at hb;omega
  have hid:escL s.data.toList=s.data.toList:=escL_id _ (by rw[HEX.out];exact hz);have HID:=Lib.hid hid;clear hid hz hbb;go_wp2_with fail;go_ret;exact⟨ret_val (by rw[HID.out];rfl),hx⟩
 clear hbb;obtain⟨wo,rfl⟩:∃ wo:World,wo=wr:=⟨_,rfl⟩;have hmk:=run_make_row' (P:=Tryz.prog) 148 5 (.int .u8 0) 1 Tryz.underlying148 info_u8 rfl .i64 .i64 m (by omega) (by omega);go_wp2_with fail
 go_loopw [13,14] (fun jj ii W=>∃ i q:Nat,i<=s.size/\ii=.int .i64 i/\jj=.int .i64 q/\Hid (q=(escL (s.data.toList.take i)).length)/\Hid (W.heap[wo.heap.size]? = some (.cells (bufC s.data.toList m i).toArray 5 (0,0)))/\Ext w W) (fun _ ii _=>s.size - (RowKit.intOf ii).toNat)
 case atStart =>
  refine⟨0,0,by omega,rfl,rfl,Lib.hid rfl,Lib.hid ?_,hx.alloc _⟩;rw[<-bufC_zero];exact heap_alloc_new wo _
 obtain⟨i,q,hi,rfl,rfl,hq,hW,hxW⟩:=hrel;clear hmk;have hnn:=fun w a n c=>run_neq_slice_nil_any (P:=Tryz.prog) w 148 5 a n c 0 0 Tryz.underlying148
 by_cases hlt:i < s.size
 ·have hsn:=take_at s i hlt;have hb256:s[i].toNat < 256:=UInt8.toNat_lt _;have hle1:=escL_take_le s.data.toList (i+1);rw[hsn,escL_snoc,List.length_append,<- hq.out,<- HM.out] at hle1;by_cases c34:s[i].toNat=34
  ·have hbb:s[i]=34:=UInt8.toNat_inj.1 c34;have kc:=hxW.cell (HF.out 34 (by decide));simp only[if_true,reduceIte,Nat.reduceEqDiff] at kc;rw[hbb] at hsn hle1;have a0:=hxW.cell HA0.out;have a1:=hxW.cell HA1.out;rw[show escB 34=[92,34] from rfl] at hle1;simp only[List.length_cons,List.length_nil] at hle1;have hqm:q < m:=by omega
   have hqle:q<=m:=by omega
   have hqne:¬ m=q:=by omega
   have hwr:IntKind.i64.wrap ((q:Int)+2)=(q:Int)+2:=by rw[IntKind.wrap_i64];omega
   have HSN:=Lib.hid hsn;have HMIN:=Lib.hid (show Nat.min 2 (m - q)=2 from Nat.min_eq_left (by omega));clear hsn hbb;go_wp2_with fail
   go_region_law (refine step_copy_splice rfl (.tmp 105) (.tmp 111) 148 148 rfl 5 Tryz.underlying148 (by kernel_rfl) (some ⟨wo.heap.size,q,none⟩) (some ⟨p1,0,none⟩) (m - q) (m - q) 2 c1 (by simp[Act.eval,Act.put]) (by simp[Act.eval,Act.put]) wo.heap.size q (bufC s.data.toList m i) 5 hW.out [.int .u8 92,.int .u8 34] (by rw[HMIN.out];rfl) (fun _=>⟨rfl,_,rfl,two_at a0 a1⟩) (by rw[bufC_len _ _ _ HM.out];simp;omega) (by simp[Value.oneCell']) w.heap.size w hxW.drew hx.size ?_;intro w4 hg4 hx4)
   all_goals
    go_wp2
    go_roundw
    case rel =>
     have e1:escL (s.data.toList.take (i+1))=escL (s.data.toList.take i)++[92,34]:=by rw[HSN.out,escL_snoc];rfl
     refine⟨i+1,q+2,by omega,by go_num,by go_num,Lib.hid (by rw[e1,List.length_append,<- hq.out];rfl),Lib.hid ?_,hx4⟩;have hs:=bufC_splice s.data.toList m i 34 HSN.out HM.out;rw[<-hq.out] at hs;rw[<-hs];exact hg4.out
    case measure=>simp[RowKit.intOf];omega
  by_cases c92:s[i].toNat=92
  ·have hbb:s[i]=92:=UInt8.toNat_inj.1 c92;have kc:=hxW.cell (HF.out 92 (by decide));simp only[if_true,reduceIte,Nat.reduceEqDiff] at kc;rw[hbb] at hsn hle1;have a0:=hxW.cell HB0.out;have a1:=hxW.cell HB1.out;rw[show escB 92=[92,92] from rfl] at hle1;simp only[List.length_cons,List.length_nil] at hle1;have hqm:q < m:=by omega
   have hqle:q<=m:=by omega
   have hqne:¬ m=q:=by omega
   have hwr:IntKind.i64.wrap ((q:Int)+2)=(q:Int)+2:=by rw[IntKind.wrap_i64];omega
   have HSN:=Lib.hid hsn;have HMIN:=Lib.hid (show Nat.min 2 (m - q)=2 from Nat.min_eq_left (by omega));clear hsn hbb;go_wp2_with fail
   go_region_law (refine step_copy_splice rfl (.tmp 105) (.tmp 111) 148 148 rfl 5 Tryz.underlying148 (by kernel_rfl) (some ⟨wo.heap.size,q,none⟩) (some ⟨p2,0,none⟩) (m - q) (m - q) 2 c2 (by simp[Act.eval,Act.put]) (by simp[Act.eval,Act.put]) wo.heap.size q (bufC s.data.toList m i) 5 hW.out [.int .u8 92,.int .u8 92] (by rw[HMIN.out];rfl) (fun _=>⟨rfl,_,rfl,two_at a0 a1⟩) (by rw[bufC_len _ _ _ HM.out];simp;omega) (by simp[Value.oneCell']) w.heap.size w hxW.drew hx.size ?_;intro w4 hg4 hx4)
   all_goals
    go_wp2
    go_roundw
    case rel =>
     have e1:escL (s.data.toList.take (i+1))=escL (s.data.toList.take i)++[92,92]:=by rw[HSN.out,escL_snoc];rfl
     refine⟨i+1,q+2,by omega,by go_num,by go_num,Lib.hid (by rw[e1,List.length_append,<- hq.out];rfl),Lib.hid ?_,hx4⟩;have hs:=bufC_splice s.data.toList m i 92 HSN.out HM.out;rw[<-hq.out] at hs;rw[<-hs];exact hg4.out
    case measure=>simp[RowKit.intOf];omega
  have hes:¬ (s[i]=34\/s[i]=92):=fun h=>h.elim (fun e=>c34 (by rw[e];rfl)) (fun e=>c92 (by rw[e];rfl))
  have kc:=hxW.cell (HF.out s[i].toNat hb256);rw[if_neg c34,if_neg c92] at kc;rw[show escB s[i]=[s[i]] from if_neg hes] at hle1;simp only[List.length_cons,List.length_nil] at hle1;have hqm:q < m:=by omega
  have HSN:=Lib.hid hsn;have HES:=Lib.hid hes
  have kq:wr.cell? ⟨wo.heap.size,q,none⟩=some (.int .u8 0):=by
   rw[cell_of_blk hW.out,hq.out];unfold bufC;rw[List.getElem?_toArray,List.getElem?_append_right (by simp),List.length_map,Nat.sub_self,List.getElem?_replicate,if_pos (by rw[<-hq.out];omega)]
  have kf:=frozen_of_blk hW.out q;clear hsn hes c34 c92;go_wp2_with fail
  go_roundw
  case rel =>
   have e1:escL (s.data.toList.take (i+1))=escL (s.data.toList.take i)++[s[i]]:=by rw[HSN.out,escL_snoc,show escB s[i]=[s[i]] from if_neg HES.out]
   refine⟨i+1,q+1,by omega,by go_num,by go_num,Lib.hid (by rw[e1,List.length_append,<- hq.out];rfl),Lib.hid ?_,hxW.setCell (p:=⟨wo.heap.size,q,none⟩) hx.size _⟩;have hs:=bufC_set s.data.toList m i s[i] HSN.out HM.out HES.out (by rw[<-hq.out];exact hqm);rw[<-hq.out] at hs;rw[<-hs];exact heap_setCell_same wr _ q _ _ _ hW.out
  case measure=>simp[RowKit.intOf];omega
 obtain rfl:i=s.size:=by omega
 have hfull:bufC s.data.toList m s.size=(escL s.data.toList).map fun b=>Value.int .u8 b.toNat:=by
  unfold bufC;rw[List.take_of_length_le (by rw[<-size_len];exact Nat.le_refl _),<- HM.out,Nat.sub_self];simp
 have hcv:=run_convert_bytes_back (P:=Tryz.prog) wr 148 9 5 ⟨wo.heap.size,0,none⟩ m (escL s.data.toList) Tryz.underlying148 Tryz.underlying5 Tryz.underlying9 (fun j hj=>by
  have e:(⟨wo.heap.size,0,none⟩:Addr).add j=⟨wo.heap.size,j,none⟩:=by simp[Addr.add];exact fun h=>h.symm
  rw[e,cell_of_blk hW.out,hfull,List.getElem?_toArray,List.getElem?_map,List.getElem?_eq_getElem hj];rfl)
 rw[<-HM.out] at hcv;clear hnn;go_wp2_with fail;go_ret;exact⟨rfl,hxW⟩
theorem repl_little (k:Nat)(s:ByteArray)(w:World)(h1:s.size < 16)(hr:RepAt w k):
  Calls Tryz.prog 361 #[.pointer (some ⟨k,0,none⟩),.string s] w fun e w'=>e=.returned (.string ⟨(escL s.data.toList).toArray⟩)/\Ext w w':=by
 obtain⟨s34,s92,v,hc,⟨p1,c1,rfl,a0,a1⟩,⟨p2,c2,rfl,b0,b1⟩,hv,t,ct,rfl,t0,t1⟩:=hr.at_;have HF:=Lib.hid hc;have HA0:=Lib.hid a0;have HA1:=Lib.hid a1;have HB0:=Lib.hid b0;have HB1:=Lib.hid b1;clear hc a0 a1 b0 b1 t0 t1 hr;have h16:decide ((16:Int)<=(s.size:Int))=false:=by simp;omega
 go_enter Tryz.func361,Tryz.ntmps361;go_wp2_with fail
 go_loopw [5,6,10] (fun ns an ix wr=>∃ (i n:Nat) (bb:Bool),i<=s.size/\ix=.int .i64 i/\n<=i/\Hid (n=ex (s.data.toList.take i))/\ns=.int .i64 ((s.size:Int)+(n:Int))/\an=.bool bb/\Hid (bb=decide (0 < n))/\Ext w wr) (fun _ _ ix _=>s.size - (RowKit.intOf ix).toNat)
 case atStart=>exact⟨0,0,false,by omega,rfl,by omega,Lib.hid rfl,by simp,rfl,Lib.hid (by simp),Ext.refl _⟩
 obtain⟨i,n,bb,hi,rfl,hni,hn,rfl,rfl,hbb,hx⟩:=hrel;by_cases hlt:i < s.size
 ·have hnn:=fun w a n c=>run_neq_slice_nil_any (P:=Tryz.prog) w 148 5 a n c 0 0 Tryz.underlying148
  have hsn:=take_at s i hlt;have hb256:s[i].toNat < 256:=UInt8.toNat_lt _;by_cases c34:s[i].toNat=34
  ·have hbb':s[i]=34:=UInt8.toNat_inj.1 c34;have kc:=hx.cell (HF.out 34 (by decide));simp only[if_true,reduceIte,Nat.reduceEqDiff] at kc;have hex1:=ex_snoc (s.data.toList.take i) 34;rw[<-hbb',<- hsn,hbb',if_pos (by simp),<- hn.out] at hex1;have HX1:=Lib.hid hex1;clear hsn hex1 hbb';go_wp2_with fail
   go_roundw
   case rel=>exact⟨i+1,n+1,true,by omega,by go_num,by omega,Lib.hid HX1.out.symm,by go_num,rfl,Lib.hid (by simp),hx⟩
   case measure=>simp[RowKit.intOf];omega
  by_cases c92:s[i].toNat=92
  ·have hbb':s[i]=92:=UInt8.toNat_inj.1 c92;have kc:=hx.cell (HF.out 92 (by decide));simp only[if_true,reduceIte,Nat.reduceEqDiff] at kc;have hex1:=ex_snoc (s.data.toList.take i) 92;rw[<-hbb',<- hsn,hbb',if_pos (by simp),<- hn.out] at hex1;have HX1:=Lib.hid hex1;clear hsn hex1 hbb';go_wp2_with fail
   go_roundw
   case rel=>exact⟨i+1,n+1,true,by omega,by go_num,by omega,Lib.hid HX1.out.symm,by go_num,rfl,Lib.hid (by simp),hx⟩
   case measure=>simp[RowKit.intOf];omega
  have hes:¬ (s[i]=34\/s[i]=92):=fun h=>h.elim (fun e=>c34 (by rw[e];rfl)) (fun e=>c92 (by rw[e];rfl))
  have kc:=hx.cell (HF.out s[i].toNat hb256);rw[if_neg c34,if_neg c92] at kc;have hex1:=ex_snoc (s.data.toList.take i) s[i];rw[<-hsn,if_neg hes,<- hn.out] at hex1;have HX1:=Lib.hid hex1;clear hsn hex1 hes c34 c92;go_wp2_with fail
  go_roundw
  case rel=>exact⟨i+1,n,bb,by omega,by go_num,by omega,Lib.hid HX1.out.symm,rfl,rfl,hbb,hx⟩
  case measure=>simp[RowKit.intOf];omega
 obtain rfl:i=s.size:=by omega
 have HEX:Hid (ex s.data.toList=n):=Lib.hid (by rw[hn.out,List.take_of_length_le (by rw[<-size_len];exact Nat.le_refl _)]);clear hn;obtain⟨m,hm⟩:∃ m,m=(escL s.data.toList).length:=⟨_,rfl⟩;have hmx:m=s.size+n:=by rw[hm,escL_len,<- size_len,HEX.out]
 have hms:(s.size:Int)+(n:Int)=(m:Int):=by omega
 rw[hms];clear hms;have HM:=Lib.hid hm;have HMX:=Lib.hid hmx;have hm64:m<=64:=by omega
 clear hm hmx;cases bb
 ·have hz:n=0:=by have hb:=hbb.out;simp at hb;omega
  have hid:escL s.data.toList=s.data.toList:=escL_id _ (by rw[HEX.out];exact hz);have HID:=Lib.hid hid;clear hid hz hbb;go_wp2_with fail;go_ret;exact⟨ret_val (by rw[HID.out];rfl),hx⟩
 clear hbb;obtain⟨wo,rfl⟩:∃ wo:World,wo=wr:=⟨_,rfl⟩;have hmk:=run_make_row' (P:=Tryz.prog) 148 5 (.int .u8 0) 1 Tryz.underlying148 info_u8 rfl .i64 .i64 m (by omega) (by omega);go_wp2_with fail
 go_loopw [13,14] (fun jj ii W=>∃ i q:Nat,i<=s.size/\ii=.int .i64 i/\jj=.int .i64 q/\Hid (q=(escL (s.data.toList.take i)).length)/\Hid (W.heap[wo.heap.size]? = some (.cells (bufC s.data.toList m i).toArray 5 (0,0)))/\Ext w W) (fun _ ii _=>s.size - (RowKit.intOf ii).toNat)
 case atStart =>
  refine⟨0,0,by omega,rfl,rfl,Lib.hid rfl,Lib.hid ?_,hx.alloc _⟩;rw[<-bufC_zero];exact heap_alloc_new wo _
 obtain⟨i,q,hi,rfl,rfl,hq,hW,hxW⟩:=hrel;clear hmk;have hnn:=fun w a n c=>run_neq_slice_nil_any (P:=Tryz.prog) w 148 5 a n c 0 0 Tryz.underlying148
 by_cases hlt:i < s.size
 ·have hsn:=take_at s i hlt;have hb256:s[i].toNat < 256:=UInt8.toNat_lt _;have hle1:=escL_take_le s.data.toList (i+1);rw[hsn,escL_snoc,List.length_append,<- hq.out,<- HM.out] at hle1;by_cases c34:s[i].toNat=34
  ·have hbb:s[i]=34:=UInt8.toNat_inj.1 c34;have kc:=hxW.cell (HF.out 34 (by decide));simp only[if_true,reduceIte,Nat.reduceEqDiff] at kc;rw[hbb] at hsn hle1;have a0:=hxW.cell HA0.out;have a1:=hxW.cell HA1.out;rw[show escB 34=[92,34] from rfl] at hle1;simp only[List.length_cons,List.length_nil] at hle1;have hqm:q < m:=by omega
   have hqle:q<=m:=by omega
   have hqne:¬ m=q:=by omega
   have hwr:IntKind.i64.wrap ((q:Int)+2)=(q:Int)+2:=by rw[IntKind.wrap_i64];omega
   have HSN:=Lib.hid hsn;have HMIN:=Lib.hid (show Nat.min 2 (m - q)=2 from Nat.min_eq_left (by omega));clear hsn hbb;go_wp2_with fail
   go_region_law (refine step_copy_splice rfl (.tmp 105) (.tmp 111) 148 148 rfl 5 Tryz.underlying148 (by kernel_rfl) (some ⟨wo.heap.size,q,none⟩) (some ⟨p1,0,none⟩) (m - q) (m - q) 2 c1 (by simp[Act.eval,Act.put]) (by simp[Act.eval,Act.put]) wo.heap.size q (bufC s.data.toList m i) 5 hW.out [.int .u8 92,.int .u8 34] (by rw[HMIN.out];rfl) (fun _=>⟨rfl,_,rfl,two_at a0 a1⟩) (by rw[bufC_len _ _ _ HM.out];simp;omega) (by simp[Value.oneCell']) w.heap.size w hxW.drew hx.size ?_;intro w4 hg4 hx4)
   all_goals
    go_wp2
    go_roundw
    case rel =>
     have e1:escL (s.data.toList.take (i+1))=escL (s.data.toList.take i)++[92,34]:=by rw[HSN.out,escL_snoc];rfl
     refine⟨i+1,q+2,by omega,by go_num,by go_num,Lib.hid (by rw[e1,List.length_append,<- hq.out];rfl),Lib.hid ?_,hx4⟩;have hs:=bufC_splice s.data.toList m i 34 HSN.out HM.out;rw[<-hq.out] at hs;rw[<-hs];exact hg4.out
    case measure=>simp[RowKit.intOf];omega
  by_cases c92:s[i].toNat=92
  ·have hbb:s[i]=92:=UInt8.toNat_inj.1 c92;have kc:=hxW.cell (HF.out 92 (by decide));simp only[if_true,reduceIte,Nat.reduceEqDiff] at kc;rw[hbb] at hsn hle1;have a0:=hxW.cell HB0.out;have a1:=hxW.cell HB1.out;rw[show escB 92=[92,92] from rfl] at hle1;simp only[List.length_cons,List.length_nil] at hle1;have hqm:q < m:=by omega
   have hqle:q<=m:=by omega
   have hqne:¬ m=q:=by omega
   have hwr:IntKind.i64.wrap ((q:Int)+2)=(q:Int)+2:=by rw[IntKind.wrap_i64];omega
   have HSN:=Lib.hid hsn;have HMIN:=Lib.hid (show Nat.min 2 (m - q)=2 from Nat.min_eq_left (by omega));clear hsn hbb;go_wp2_with fail
   go_region_law (refine step_copy_splice rfl (.tmp 105) (.tmp 111) 148 148 rfl 5 Tryz.underlying148 (by kernel_rfl) (some ⟨wo.heap.size,q,none⟩) (some ⟨p2,0,none⟩) (m - q) (m - q) 2 c2 (by simp[Act.eval,Act.put]) (by simp[Act.eval,Act.put]) wo.heap.size q (bufC s.data.toList m i) 5 hW.out [.int .u8 92,.int .u8 92] (by rw[HMIN.out];rfl) (fun _=>⟨rfl,_,rfl,two_at a0 a1⟩) (by rw[bufC_len _ _ _ HM.out];simp;omega) (by simp[Value.oneCell']) w.heap.size w hxW.drew hx.size ?_;intro w4 hg4 hx4)
   all_goals
    go_wp2
    go_roundw
    case rel =>
     have e1:escL (s.data.toList.take (i+1))=escL (s.data.toList.take i)++[92,92]:=by rw[HSN.out,escL_snoc];rfl
     refine⟨i+1,q+2,by omega,by go_num,by go_num,Lib.hid (by rw[e1,List.length_append,<- hq.out];rfl),Lib.hid ?_,hx4⟩;have hs:=bufC_splice s.data.toList m i 92 HSN.out HM.out;rw[<-hq.out] at hs;rw[<-hs];exact hg4.out
    case measure=>simp[RowKit.intOf];omega
  have hes:¬ (s[i]=34\/s[i]=92):=fun h=>h.elim (fun e=>c34 (by rw[e];rfl)) (fun e=>c92 (by rw[e];rfl))
  have kc:=hxW.cell (HF.out s[i].toNat hb256);rw[if_neg c34,if_neg c92] at kc;rw[show escB s[i]=[s[i]] from if_neg hes] at hle1;simp only[List.length_cons,List.length_nil] at hle1;have hqm:q < m:=by omega
  have HSN:=Lib.hid hsn;have HES:=Lib.hid hes
  have kq:wr.cell? ⟨wo.heap.size,q,none⟩=some (.int .u8 0):=by
   rw[cell_of_blk hW.out,hq.out];unfold bufC;rw[List.getElem?_toArray,List.getElem?_append_right (by simp),List.length_map,Nat.sub_self,List.getElem?_replicate,if_pos (by rw[<-hq.out];omega)]
  have kf:=frozen_of_blk hW.out q;clear hsn hes c34 c92;go_wp2_with fail
  go_roundw
  case rel =>
   have e1:escL (s.data.toList.take (i+1))=escL (s.data.toList.take i)++[s[i]]:=by rw[HSN.out,escL_snoc,show escB s[i]=[s[i]] from if_neg HES.out]
   refine⟨i+1,q+1,by omega,by go_num,by go_num,Lib.hid (by rw[e1,List.length_append,<- hq.out];rfl),Lib.hid ?_,hxW.setCell (p:=⟨wo.heap.size,q,none⟩) hx.size _⟩;have hs:=bufC_set s.data.toList m i s[i] HSN.out HM.out HES.out (by rw[<-hq.out];exact hqm);rw[<-hq.out] at hs;rw[<-hs];exact heap_setCell_same wr _ q _ _ _ hW.out
  case measure=>simp[RowKit.intOf];omega
 obtain rfl:i=s.size:=by omega
 have hfull:bufC s.data.toList m s.size=(escL s.data.toList).map fun b=>Value.int .u8 b.toNat:=by
  unfold bufC;rw[List.take_of_length_le (by rw[<-size_len];exact Nat.le_refl _),<- HM.out,Nat.sub_self];simp
 have hcv:=run_convert_bytes_back (P:=Tryz.prog) wr 148 9 5 ⟨wo.heap.size,0,none⟩ m (escL s.data.toList) Tryz.underlying148 Tryz.underlying5 Tryz.underlying9 (fun j hj=>by
  have e:(⟨wo.heap.size,0,none⟩:Addr).add j=⟨wo.heap.size,j,none⟩:=by simp[Addr.add];exact fun h=>h.symm
  rw[e,cell_of_blk hW.out,hfull,List.getElem?_toArray,List.getElem?_map,List.getElem?_eq_getElem hj];rfl)
 rw[<-HM.out] at hcv;clear hnn;go_wp2_with fail;go_ret;exact⟨rfl,hxW⟩
theorem repl_any (k:Nat)(s:ByteArray)(w:World)(h:s.size<=32)(hr:RepAt w k):
  Calls Tryz.prog 361 #[.pointer (some ⟨k,0,none⟩),.string s] w fun e w'=>e=.returned (.string ⟨(escL s.data.toList).toArray⟩)/\Ext w w':=by
 by_cases h1:s.size < 16
 ·exact repl_little k s w h1 hr
 exact repl_big k s w (by omega) h hr
end Go.Proofs.YtjaeedbjknejdaaGreatDoor.Qo

namespace Go.Proofs.YtjaeedbjknejdaaGreatDoor.Lx
open Go.RowKit Go.Sort Go.Lib Go.Shelf Fx
theorem plain_cons (b:UInt8)(r:List UInt8):plainB (b::r)=(decide (32<=b.toNat/\b.toNat<=126) && plainB r):=rfl
theorem plain_any (s:ByteArray)(hs:s.size<=35184372088832)(w:World):
  Calls Tryz.prog 294 #[.string s] w fun e w'=>e=.returned (.bool (plainB s.data.toList))/\Ext w w':=by
 obtain⟨P,hP⟩:∃ P,P=plainB s.data.toList:=⟨_,rfl⟩;have HP:Hid (P=plainB (s.data.toList.drop 0)):=hid (by rw[hP];rfl);rw[<-hP];clear hP;go_enter Tryz.func294,Tryz.ntmps294;go_wp2
 go_loopw [] (fun wr=>∃ (pos:Nat),wr.heap[w.heap.size]? = some (.stringIter s pos)/\Below w.heap.size w wr/\Hid (P=plainB (s.data.toList.drop pos))) (fun wr=>s.size - wr.iterPos w.heap.size)
 case atStart =>
  refine⟨0,?_,(Below.refl _ w).alloc (Nat.le_refl _) _,HP⟩;have:=World.iter_heap w s 0
  simpa using this
 obtain⟨pos,hit,hbw,hacc⟩:=hrel;clear HP;have hsz:w.heap.size < wr.heap.size:=(Array.getElem?_eq_some_iff.1 hit).1;by_cases hp:pos < s.size
 ·have hst:=hacc.out;rw[drop_at s pos hp,plain_cons] at hst;clear hacc;by_cases ha:s[pos].toNat < 128
  ·have hnx:∀ ty,(Instr.next (.pointer (some ⟨w.heap.size,0,none⟩)) true ty).run Tryz.prog wr=_:=fun ty=>Lib.run_next_ascii_at wr w.heap.size s pos ty hit hp ha
   have hit2:=Lib.iterAt_heap wr w.heap.size s pos (pos+1) hit;have hbw2:=Lib.below_iterAt hbw (k:=w.heap.size) (Nat.le_refl _) s (pos+1);by_cases h1:s[pos].toNat < 32
   ·have hf:Hid (P=false):=hid (by rw[hst,decide_eq_false (by omega)];rfl);have t1:(s[pos].toNat:Int) < 32:=by omega
    clear hst;go_wp2;go_ret;exact⟨ret_bool hf.out.symm,hbw2⟩
   by_cases h2:126 < s[pos].toNat
   ·have hf:Hid (P=false):=hid (by rw[hst,decide_eq_false (by omega)];rfl);have t1:(32:Int)<=(s[pos].toNat:Int):=by omega
    have t2:(126:Int) < (s[pos].toNat:Int):=by omega
    clear hst;go_wp2;go_ret;exact⟨ret_bool hf.out.symm,hbw2⟩
   have hf:Hid (P=plainB (s.data.toList.drop (pos+1))):=hid (by rw[hst,decide_eq_true (by omega)];rfl);have t1:(32:Int)<=(s[pos].toNat:Int):=by omega
   have t2:(s[pos].toNat:Int)<=126:=by omega
   clear hst;go_wp2
   go_roundw
   case rel=>exact⟨pos+1,hit2,hbw2,hf⟩
   simp only[World.iterPos,hit2,hit];omega
  have hh:=decode_high s pos hp (by omega);have hd1:=decode_le s pos;have hnx:∀ ty,(Instr.next (.pointer (some ⟨w.heap.size,0,none⟩)) true ty).run Tryz.prog wr=_:=fun ty=>Lib.run_next_any_at wr w.heap.size s pos ty hit hp
  have hbw2:=Lib.below_iterAt hbw (k:=w.heap.size) (Nat.le_refl _) s (pos+(Utf8.decode s pos).2);have hf:Hid (P=false):=hid (by rw[hst,decide_eq_false (by omega)];rfl);clear hst;generalize (Utf8.decode s pos).1=dr at hnx hh hd1;generalize (Utf8.decode s pos).2=dw at hnx hh hbw2;obtain⟨hh1,hh2⟩:=hh;have f6:(126:Int) < (dr:Int):=by omega
  have f7:(32:Int)<=(dr:Int):=by omega
  go_wp2;go_ret;exact⟨ret_bool hf.out.symm,hbw2⟩
 have hnx:∀ ty,(Instr.next (.pointer (some ⟨w.heap.size,0,none⟩)) true ty).run Tryz.prog wr=_:=fun ty=>Lib.run_next_end_at wr w.heap.size s pos ty hit hp
 have hf:Hid (P=true):=hid (by rw[hacc.out,drop_end s pos hp];rfl);clear hacc;go_wp2;go_ret;exact⟨ret_bool hf.out.symm,hbw⟩
end Go.Proofs.YtjaeedbjknejdaaGreatDoor.Lx

namespace Go.Proofs.YtjaeedbjknejdaaGreatDoor.Qo
open Go.RowKit Go.Lib Fx Lx
def quoteV (l:List UInt8):Value:=.tuple #[.string ⟨(quote l).1.toArray⟩,.int .i64 (quote l).2]
theorem three_app (l:List UInt8):(⟨#[34]⟩:ByteArray)++(⟨l.toArray⟩:ByteArray)++(⟨#[34]⟩:ByteArray)=⟨(34::(l++[34])).toArray⟩:=by
 apply ByteArray.ext;simp[ByteArray.data_append]
end Go.Proofs.YtjaeedbjknejdaaGreatDoor.Qo
