/- Packed texts: FixArith, FixWalkA, FixPost -/
import Derived.WalkKit
import Derived.Test.YtjaeedbjknejdaaGreatDoorRows
import Derived.Lib.Hide
import Derived.Below
import Derived.Deep.Draws
import Derived.Sort.Grow
import Derived.Lib.LaidTab
import Derived.ProofKit
set_option linter.unusedVariables false
set_option linter.unusedSimpArgs false
set_option maxHeartbeats 16000000
set_option maxRecDepth 100000
namespace Go.Proofs.YtjaeedbjknejdaaGreatDoor.Fx
def ab (n:Int):Int:=if n < 0 then -n else n
end Go.Proofs.YtjaeedbjknejdaaGreatDoor.Fx

namespace Go.Proofs.YtjaeedbjknejdaaGreatDoor.Fx
open Go.RowKit
def Ext (w w':World):Prop:=Below w.heap.size w w'
theorem Ext.refl (w:World):Ext w w:=Below.refl _ _
theorem Ext.trans {a b c:World}(h:Ext a b)(k:Ext b c):Ext a c:=Below.trans h (Below.mono k (Below.size h))
theorem Ext.drew {a w:World}(h:Ext a w):Ext a w.drew:=Below.drew h
theorem Ext.drewN {a w:World}(h:Ext a w):∀ n,Ext a (w.drewN n)
 | 0=>by rw[World.drewN_zero];exact h
 | n+1=>⟨h.os,h.tape,h.output,h.size,h.block⟩
theorem Ext.alloc {a w:World}(h:Ext a w)(o:Obj):Ext a (w.alloc o):=Below.alloc h (Below.size h) o
theorem Ext.setCell {a w:World}(h:Ext a w){p:Addr}(hp:a.heap.size<=p.block)(u:Value):Ext a (w.setCell p u):=Below.setCell h hp u
theorem Ext.grow {a w:World}(h:Ext a w)(os:Array Obj):Ext a (Sort.grow w os) :=
 Ext.trans h ⟨rfl,rfl,rfl,by simp[Sort.grow],fun k hk=>Sort.heap_grow_old w os hk⟩
theorem Ext.cell {w w':World}(h:Ext w w'){p:Addr}{v:Value}(hv:w.cell? p=some v):w'.cell? p=some v:=by
 have hb:p.block < w.heap.size:=by
  rcases Nat.lt_or_ge p.block w.heap.size with h1 | h1
  ·exact h1
  exfalso;unfold World.cell? at hv;rw[Array.getElem?_eq_none h1] at hv;cases hv
 rw[Below.cell h hb];exact hv
theorem Ext.tab {P:Program}{w w':World}{n:String}{k:IntKind}{zs:List Int}(h:Ext w w')(ht:Lib.TabIs P w n k zs):Lib.TabIs P w' n k zs:=by
 unfold Lib.TabIs World.var? at *;cases hg:P.globalNamed n with
 | none=>simp[hg] at ht
 | some g =>
  simp only[hg,Option.bind_some] at ht ⊢
  have hlt:g < w.heap.size:=by
   rcases Nat.lt_or_ge g w.heap.size with h' | h'
   ·exact h'
   rw[Array.getElem?_eq_none h'] at ht;simp at ht
  rw[Below.block h g hlt];exact ht
theorem ret_int {k:IntKind}{a b:Int}(h:a=b):Ending.returned (.int k a)=.returned (.int k b):=by rw[h]
theorem ret_pair {k k':IntKind}{a b c d:Int}(h:a=b)(h':c=d):Ending.returned (.tuple #[.int k a,.int k' c])=.returned (.tuple #[.int k b,.int k' d]):=by rw[h,h']
theorem size_any (n:Int)(w:World)(h0 : -9223372036854775808<=n)(h1:n<=9223372036854775807):
  Calls Tryz.prog 127 #[.int .i64 n] w fun e w'=>e=.returned (.int .u64 (ab n))/\w=w':=by
 by_cases h:n < 0
 ·go_enter Tryz.func127,Tryz.ntmps127;go_wp2;go_ret;refine⟨ret_int ?_,rfl⟩;unfold ab;rw[if_pos h];simp only[IntKind.wrap_u64];omega
 go_enter Tryz.func127,Tryz.ntmps127;go_wp2;go_ret;refine⟨ret_int ?_,rfl⟩;unfold ab;rw[if_neg (by omega)]
end Go.Proofs.YtjaeedbjknejdaaGreatDoor.Fx

namespace Go.Proofs.YtjaeedbjknejdaaGreatDoor.Fx
open Go.ChangeShapes Go.WideShapes Go.ChangeAt Go.RowKit
section
variable {H:Type} {enc:TypeId × Value->H} {P:Program}
theorem post_ext {f:Func}{s:ChangeSpec}{apart fresh handsOn again:Bool}{W W':World}{args:Array Value}{v:Value}{ds gs:List (DataW H)}{places pa pv:List MemPlace}
  (hW:DataW.Whole enc P f.params.toList s.vars apart W args.toList ds gs places)
  (results:∀ (b:Nat) (sp:Nat->Bool) (hd:Bool),DataW.TrodAll enc P W' b sp hd f.resultTypes.toList (v.resultList f.resultTypes.size) (s.fn H (ds++gs)).results [])
  (arguments:∀ sp:Nat->Bool,(∀ x ∈ places,sp x.block=true)->DataW.TrodAll enc P W' 0 sp true f.params.toList args.toList (s.fn H (ds++gs)).args pa)
  (variables:∀ sp:Nat->Bool,(∀ x ∈ places,sp x.block=true)->DataW.TrodVars enc P W' sp s.vars (s.fn H (ds++gs)).vars pv)
  (split:places=pa++pv) (ext:Ext W W')
  (ok:∀ (j:Nat) (t:TypeId) (r:Value),f.resultTypes[j]? = some t->(v.resultList f.resultTypes.size)[j]? = some r->Value.okWide P W' .any 0 t r) :
  s.post enc P f apart fresh handsOn again W args v W':=by
 subst split;have low:∀ x ∈ pa++pv,x.block < W.heap.size:=fun x hx=>hW.lt x hx
 have mark:∀ x ∈ pa++pv,(fun b=>decide (b < W.heap.size)) x.block=true:=fun x hx=>decide_eq_true (low x hx)
 have whole:=hW;obtain⟨_,_,_,_,_,cold,once⟩:=hW;refine⟨ds,gs,pa++pv,[],pa,pv,whole,results _ _ _,arguments _ mark,variables _ mark,World.keptBut_mono (fun x hx=>⟨hx,by simpa using hx⟩) (Below.frame ext (· ∈ pa++pv)),fun _=>⟨ok,_,_,[]++pa++pv,⟨[]++pa,pv,trodAll_append (arguments _ fun _ _=>rfl) (results _ _ _),variables _ fun _ _=>rfl,rfl,fun b off hb=>?_,fun ha=>?_⟩,fun x hx _=>?_⟩⟩
 ·have at':MemPlace.cell b off ∈ pa++pv:=by simpa using hb
  rw[Below.frozen ext (low _ at')];exact cold b off at'
 ·have:=once ha;simpa using this
 simpa using hx
end
end Go.Proofs.YtjaeedbjknejdaaGreatDoor.Fx
