/- Packed texts: AttText, AttMem, AttPorts, AttName, AttRule, AttKnown -/
import Derived.Test.YtjaeedbjknejdaaGreatDoorPd05
import Derived.Lib.Split
import Derived.Lib.SplitLaws
import Derived.Lib.CutLaws
import Derived.Lib.SlicesS
import Derived.Maps.OwnSet
import Derived.StringKeys
set_option linter.unusedVariables false
set_option linter.unusedSimpArgs false
set_option maxHeartbeats 16000000
set_option maxRecDepth 100000
namespace Go.Proofs.YtjaeedbjknejdaaGreatDoor.At
open Go.RowKit Go.Lib Fx Lx
abbrev Prt := ByteArray × Int
def sidesL : List ByteArray:=[⟨#[116,111,112]⟩,⟨#[114,105,103,104,116]⟩,⟨#[98,111,116,116,111,109]⟩,⟨#[108,101,102,116]⟩]
def sideN (s:ByteArray):Int:=Lib.idxOfS sidesL s
def gapN (s:ByteArray):Int:=Lib.index s.data.toList [32]
def nmOf (p:ByteArray):ByteArray:=p.extract 0 (gapN p).toNat
def wdOf (p:ByteArray):ByteArray:=p.extract ((gapN p).toNat+1) p.size
def hasN (out:List Prt)(n:ByteArray):Bool:=out.any (fun q=>decide (q.1=n))
def portsGo : List ByteArray->List Prt->List Prt × Int
 | [],out=>(out,0)
 | p::r,out =>
  if gapN p < 0 then ([],4)
  else if sideN (wdOf p) < 0 then ([],4)
  else if nameB (nmOf p).data.toList=false then ([],5)
  else if hasN out (nmOf p)=true then ([],6)
  else if out.length=8 then ([],2)
  else portsGo r (out++[(nmOf p,sideN (wdOf p))])
def comma : ByteArray:=⟨#[44,32]⟩
def parts (s:ByteArray):List ByteArray:=Lib.splitB comma 0 (Lib.countB s comma) s
def portsV (s:ByteArray):List Prt × Int:=if s.size=0 then ([],0) else portsGo (parts s) []
theorem portsGo_ways (p:ByteArray)(r:List ByteArray)(out:List Prt)(R:List Prt × Int)(h:R=portsGo (p::r) out):
  (gapN p < 0/\Hid (R=([],4))) \/
  (0<=gapN p/\sideN (wdOf p) < 0/\Hid (R=([],4))) \/
  (0<=gapN p/\0<=sideN (wdOf p)/\nameB (nmOf p).data.toList=false/\Hid (R=([],5))) \/
  (0<=gapN p/\0<=sideN (wdOf p)/\nameB (nmOf p).data.toList=true/\hasN out (nmOf p)=true/\Hid (R=([],6))) \/
  (0<=gapN p/\0<=sideN (wdOf p)/\nameB (nmOf p).data.toList=true/\hasN out (nmOf p)=false/\out.length=8/\Hid (R=([],2))) \/
  (0<=gapN p/\0<=sideN (wdOf p)/\nameB (nmOf p).data.toList=true/\hasN out (nmOf p)=false/\out.length ≠ 8/\Hid (R=portsGo r (out++[(nmOf p,sideN (wdOf p))]))):=by
 unfold portsGo at h;by_cases h1:gapN p < 0
 ·rw[if_pos h1] at h;exact .inl ⟨h1,hid h⟩
 rw[if_neg h1] at h;have k1:0<=gapN p:=by omega
 by_cases h2:sideN (wdOf p) < 0
 ·rw[if_pos h2] at h;exact .inr (.inl ⟨k1,h2,hid h⟩)
 rw[if_neg h2] at h;have k2:0<=sideN (wdOf p):=by omega
 cases h3:nameB (nmOf p).data.toList
 ·rw[if_pos h3] at h;exact .inr (.inr (.inl ⟨k1,k2,rfl,hid h⟩))
 rw[if_neg (by rw[h3];decide)] at h;cases h4:hasN out (nmOf p)
 ·rw[if_neg (by rw[h4];decide)] at h;by_cases h5:out.length=8
  ·rw[if_pos h5] at h;exact .inr (.inr (.inr (.inr (.inl ⟨k1,k2,rfl,rfl,h5,hid h⟩))))
  rw[if_neg h5] at h;exact .inr (.inr (.inr (.inr (.inr ⟨k1,k2,rfl,rfl,h5,hid h⟩))))
 rw[if_pos h4] at h;exact .inr (.inr (.inr (.inl ⟨k1,k2,rfl,rfl,hid h⟩)))
theorem portsGo_len : ∀ (l:List ByteArray) (out:List Prt),out.length<=8->(portsGo l out).1.length<=8
 | [],out,h=>h
 | p::r,out,h=>by
  rcases portsGo_ways p r out _ rfl with⟨_,e⟩ | ⟨_,_,e⟩ | ⟨_,_,_,e⟩ | ⟨_,_,_,_,e⟩ | ⟨_,_,_,_,_,e⟩ | ⟨_,_,_,_,h8,e⟩
  all_goals rw[e.out]
  all_goals first
   | simp;done
   | (refine portsGo_len r _ ?_;simp;omega)
end Go.Proofs.YtjaeedbjknejdaaGreatDoor.At

namespace Go.Proofs.YtjaeedbjknejdaaGreatDoor.At
open Go.RowKit Go.Sort Go.Lib Go.Shelf Fx Lx
def prtC (p:Prt):List Value:=[.string p.1,.int .i64 p.2]
def prtsC (L:List Prt):List Value:=L.flatMap prtC
theorem prtsC_snoc (L:List Prt)(t:Prt):prtsC (L++[t])=prtsC L++prtC t:=by unfold prtsC;simp
theorem prtsC_at : ∀ (L:List Prt) (k:Nat) (h:k < L.length),(prtsC L)[k * 2]? = some (.string L[k].1)/\(prtsC L)[k * 2+1]? = some (.int .i64 L[k].2)
 | [],k,h=>by simp at h
 | t::r,0,_=>⟨rfl,rfl⟩
 | t::r,k+1,h=>by
  have ih:=prtsC_at r k (by simpa using h);have e:prtsC (t::r)=prtC t++prtsC r:=rfl;have hl:(prtC t).length=2:=rfl;rw[e,List.getElem?_append_right (by omega),List.getElem?_append_right (by omega),hl];rw[show(k+1) * 2 - 2=k * 2 by omega,show(k+1) * 2+1 - 2=k * 2+1 by omega];exact ih
def PrtIn (w:World)(a:Option Addr)(L:List Prt):Prop :=
 ∀ k (h:k < L.length),∃ g o,a=some ⟨g,o,none⟩/\w.cell? ⟨g,o+k * 2,none⟩=some (.string L[k].1)/\w.cell? ⟨g,o+k * 2+1,none⟩=some (.int .i64 L[k].2)
theorem PrtIn.ext {w w':World}{a:Option Addr}{L:List Prt}(h:PrtIn w a L)(x:Ext w w'):PrtIn w' a L:=fun k hk=>by
 obtain⟨g,o,ha,h0,h1⟩:=h k hk;exact⟨g,o,ha,x.cell h0,x.cell h1⟩
theorem add_at (g j:Nat):(⟨g,0,none⟩:Addr).add j=⟨g,0+j,none⟩:=by
 rw[Nat.zero_add];simp[Addr.add];exact fun h=>h.symm
theorem own_prts {w:World}{B:Nat}{v:Value}{L:List Prt}(h:w.ownsRow B 167 2 v L.length (prtsC L)):∃ a c,v=.slice a L.length c/\PrtIn w a L:=by
 rcases h.2 with⟨h1,h2⟩ | ⟨g,cap,cur,hv,_,hg,_⟩
 ·have:L=[]:=List.eq_nil_of_length_eq_zero h2;subst this;exact⟨_,_,h1,fun k hk=>absurd hk (by simp)⟩
 refine⟨_,cap,hv,fun k hk=>⟨g,0,rfl,?_,?_⟩⟩
 all_goals
  have hc:=fun j u hu=>h.cells (g:=g) (by rw[hv];rfl) j u hu
  have hat:=prtsC_at L k hk
 ·have h0:=hc _ _ hat.1;rw[add_at] at h0;exact h0
 have h0:=hc _ _ hat.2;rw[add_at] at h0;exact h0
abbrev Atr := ByteArray × ByteArray
def AtrIn (w:World)(a:Option Addr)(L:List Atr):Prop :=
 ∀ k (h:k < L.length),∃ g o,a=some ⟨g,o,none⟩/\w.cell? ⟨g,o+k * 2,none⟩=some (.string L[k].1)/\w.cell? ⟨g,o+k * 2+1,none⟩=some (.string L[k].2)
theorem AtrIn.ext {w w':World}{a:Option Addr}{L:List Atr}(h:AtrIn w a L)(x:Ext w w'):AtrIn w' a L:=fun k hk=>by
 obtain⟨g,o,ha,h0,h1⟩:=h k hk;exact⟨g,o,ha,x.cell h0,x.cell h1⟩
theorem beqs (n x:ByteArray):(n.toList == x.toList)=decide (n=x):=by
 rw[ByteArray.toList_eq,ByteArray.toList_eq,Bool.eq_iff_iff,beq_iff_eq,decide_eq_true_eq];exact⟨fun h=>ByteArray.ext (Array.toList_inj.1 h),fun h=>by rw[h]⟩
end Go.Proofs.YtjaeedbjknejdaaGreatDoor.At

namespace Go.Proofs.YtjaeedbjknejdaaGreatDoor.At
open Go.RowKit Go.Sort Go.Lib Go.Shelf Fx Lx
theorem info_prt : (Tryz.prog.info? 167).map (fun i=>(i.zero,i.size,i.bytes))=some (some (.agg #[.string ⟨#[]⟩,.int .i64 0]),2,24):=by kernel_rfl
theorem ne_facts {x k:Int}(h:x ≠ k):(x == k)=false/\(x != k)=true:=by
 have:(x == k)=false:=by rw[beq_eq_false_iff_ne];exact h
 exact⟨this,by rw[bne,this];rfl⟩
theorem eq_facts {x k:Int}(h:x=k):(x == k)=true/\(x != k)=false:=by
 have:(x == k)=true:=by rw[beq_iff_eq];exact h
 exact⟨this,by rw[bne,this];rfl⟩
theorem own_base {w:World}{B B' n:Nat}{e:TypeId}{v:Value}{size:Nat}{xs:List Value}(h:w.ownsRow B e size v n xs)(hb:B'<=B):w.ownsRow B' e size v n xs:=by
 refine⟨h.1,?_⟩;rcases h.2 with h1 | ⟨g,cap,cur,hv,hg0,r⟩
 ·exact .inl h1
 exact .inr ⟨g,cap,cur,hv,by omega,r⟩
theorem own_ext {w w':World}{B n:Nat}{e:TypeId}{v:Value}{size:Nat}{xs:List Value}(h:w.ownsRow B e size v n xs)(x:Ext w w'):w'.ownsRow B e size v n xs:=by
 refine⟨h.1,?_⟩;rcases h.2 with h1 | ⟨g,cap,cur,hv,hb,hg,r⟩
 ·exact .inl h1
 refine .inr ⟨g,cap,cur,hv,hb,?_,r⟩;rw[x.block g (Array.getElem?_eq_some_iff.1 hg).1];exact hg
theorem cell_new1 (w:World)(l:List Value)(T:TypeId)(j:Nat)(u:Value)(h:l[j]? = some u):
  (w.alloc (.cells l.toArray T)).cell? ((⟨w.heap.size,0,none⟩:Addr).add j)=some u:=by
 have hb:=heap_alloc_new w (.cells l.toArray T);have e:(⟨w.heap.size,0,none⟩:Addr).add j=⟨w.heap.size,j,none⟩:=by simp[Addr.add];exact fun h=>h.symm
 rw[e,Lib.cell_of_heap hb]
 simpa using h
def PrtRes (B:Nat)(R:List Prt × Int)(e:Ending)(w:World):Prop :=
 ∃ v,e=.returned (.tuple #[v,.int .i64 R.2])/\w.ownsRow B 167 2 v R.1.length (prtsC R.1)
def sidesC : Array Value:=#[.string ⟨#[116,111,112]⟩,.string ⟨#[114,105,103,104,116]⟩,.string ⟨#[98,111,116,116,111,109]⟩,.string ⟨#[108,101,102,116]⟩]
theorem sides_cell (w:World)(j:Nat)(hj:j < sidesL.length):(w.alloc (.cells sidesC 9)).cell? ⟨w.heap.size,0+j,none⟩=some (.string (sidesL.getD j ByteArray.empty)):=by
 have hb:=heap_alloc_new w (.cells sidesC 9);rw[Lib.cell_of_heap hb];have:j < 4:=hj
 match j,this with
 | 0,_=>rfl
 | 1,_=>rfl
 | 2,_=>rfl
 | 3,_=>rfl
theorem split_small (sep:ByteArray):∀ (k:Nat) (s p:ByteArray),p ∈ Lib.splitB sep 0 k s->p.size<=s.size
 | 0,s,p,h=>by
  rw[Lib.splitB_zero] at h;simp at h;rw[h];exact Nat.le_refl _
 | k+1,s,p,h=>by
  rcases Lib.indexB_cases s sep with hm | ⟨i,hi,hle⟩
  ·rw[Lib.splitB_miss _ _ _ _ hm] at h;simp at h;rw[h];exact Nat.le_refl _
  ·rw[Lib.splitB_hit _ _ _ _ i hi] at h;rcases List.mem_cons.1 h with rfl | h'
   ·rw[ByteArray.size_extract];omega
   have:=split_small sep k _ p h';rw[ByteArray.size_extract] at this;omega
end Go.Proofs.YtjaeedbjknejdaaGreatDoor.At

namespace Go.Proofs.YtjaeedbjknejdaaGreatDoor.At
open Go.RowKit Go.Sort Go.Lib Go.Shelf Fx Lx
theorem sideR_any (x:ByteArray)(w:World):
  Calls Tryz.prog 208 #[.string x] w fun e w'=>e=.returned (.int .i64 (sideN x))/\Ext w w':=by
 have hz:=sides_cell w;unfold sidesC at hz;have HZ:=hid hz;clear hz;go_enter Tryz.func208,Tryz.ntmps208;go_wp2_with fail
 go_loop [4] (fun i'=>∃ k:Nat,k<=4/\i'=.int .i64 k/\Hid (∀ j,j < k->sidesL.getD j ByteArray.empty ≠ x)) (fun i'=>4 - (RowKit.intOf i').toNat)
 case atStart=>exact⟨0,by omega,rfl,hid (fun j h=>absurd h (by omega))⟩
 obtain⟨k,hk,rfl,hall⟩:=hrel;by_cases hlt:k < 4
 ·have c0:=HZ.out k hlt;rw[Nat.zero_add] at c0;obtain⟨z,hz⟩:∃ z,z=sidesL.getD k ByteArray.empty:=⟨_,rfl⟩;rw[<-hz] at c0;have HZK:=hid hz;clear hz;by_cases heq:z=x
  ·have hf:Hid (sideN x=k):=hid (by
    have:=Lib.idxFromS_hit x sidesL k 0 hlt (by rw[<-HZK.out];exact heq) hall.out
    unfold sideN Lib.idxOfS;rw[this];simp)
   have g1:(z.toList == x.toList)=true:=by rw[beqs];exact decide_eq_true heq
   clear heq hall HZK;go_wp2_with fail;go_returns;exact⟨by rw[hf.out];rfl,(Ext.refl _).alloc _⟩
  have hf:Hid (∀ j,j < k+1->sidesL.getD j ByteArray.empty ≠ x):=hid (fun j h=>by
   by_cases e:j=k
   ·subst e;rw[<-HZK.out];exact heq
   exact hall.out j (by omega))
  have g1:(z.toList == x.toList)=false:=by rw[beqs];exact decide_eq_false heq
  clear heq hall HZK;go_wp2_with fail
  go_round
  case rel=>exact⟨k+1,by omega,by go_num,hf⟩
  case measure=>simp[RowKit.intOf];omega
 obtain rfl:k=4:=by omega
 have hf:Hid (sideN x = -1):=hid (by
  unfold sideN Lib.idxOfS
  exact Lib.idxFromS_miss x sidesL 0 (fun j hj=>hall.out j hj))
 clear hall;go_wp2_with fail;go_returns;exact⟨by rw[hf.out];rfl,(Ext.refl _).alloc _⟩
def modesL : List ByteArray:=[⟨#[108,97,121,101,114,101,100]⟩,⟨#[111,114,116,104,111,103,111,110,97,108]⟩,⟨#[115,116,114,97,105,103,104,116]⟩,⟨#[116,105,100,121]⟩,⟨#[114,97,100,105,97,108]⟩]
def modeN (s:ByteArray):Int:=Lib.idxOfS modesL s
def modesC : Array Value:=#[.string ⟨#[108,97,121,101,114,101,100]⟩,.string ⟨#[111,114,116,104,111,103,111,110,97,108]⟩,.string ⟨#[115,116,114,97,105,103,104,116]⟩,.string ⟨#[116,105,100,121]⟩,.string ⟨#[114,97,100,105,97,108]⟩]
theorem modes_cell (w:World)(j:Nat)(hj:j < modesL.length):(w.alloc (.cells modesC 9)).cell? ⟨w.heap.size,0+j,none⟩=some (.string (modesL.getD j ByteArray.empty)):=by
 have hb:=heap_alloc_new w (.cells modesC 9);rw[Lib.cell_of_heap hb];have:j < 5:=hj
 match j,this with
 | 0,_=>rfl
 | 1,_=>rfl
 | 2,_=>rfl
 | 3,_=>rfl
 | 4,_=>rfl
theorem modeR_any (x:ByteArray)(w:World):
  Calls Tryz.prog 206 #[.string x] w fun e w'=>e=.returned (.int .i64 (modeN x))/\Ext w w':=by
 have hz:=modes_cell w;unfold modesC at hz;have HZ:=hid hz;clear hz;go_enter Tryz.func206,Tryz.ntmps206;go_wp2_with fail
 go_loop [4] (fun i'=>∃ k:Nat,k<=5/\i'=.int .i64 k/\Hid (∀ j,j < k->modesL.getD j ByteArray.empty ≠ x)) (fun i'=>5 - (RowKit.intOf i').toNat)
 case atStart=>exact⟨0,by omega,rfl,hid (fun j h=>absurd h (by omega))⟩
 obtain⟨k,hk,rfl,hall⟩:=hrel;by_cases hlt:k < 5
 ·have c0:=HZ.out k hlt;rw[Nat.zero_add] at c0;obtain⟨z,hz⟩:∃ z,z=modesL.getD k ByteArray.empty:=⟨_,rfl⟩;rw[<-hz] at c0;have HZK:=hid hz;clear hz;by_cases heq:z=x
  ·have hf:Hid (modeN x=k):=hid (by
    have:=Lib.idxFromS_hit x modesL k 0 hlt (by rw[<-HZK.out];exact heq) hall.out
    unfold modeN Lib.idxOfS;rw[this];simp)
   have g1:(z.toList == x.toList)=true:=by rw[beqs];exact decide_eq_true heq
   clear heq hall HZK;go_wp2_with fail;go_returns;exact⟨by rw[hf.out];rfl,(Ext.refl _).alloc _⟩
  have hf:Hid (∀ j,j < k+1->modesL.getD j ByteArray.empty ≠ x):=hid (fun j h=>by
   by_cases e:j=k
   ·subst e;rw[<-HZK.out];exact heq
   exact hall.out j (by omega))
  have g1:(z.toList == x.toList)=false:=by rw[beqs];exact decide_eq_false heq
  clear heq hall HZK;go_wp2_with fail
  go_round
  case rel=>exact⟨k+1,by omega,by go_num,hf⟩
  case measure=>simp[RowKit.intOf];omega
 obtain rfl:k=5:=by omega
 have hf:Hid (modeN x = -1):=hid (by
  unfold modeN Lib.idxOfS
  exact Lib.idxFromS_miss x modesL 0 (fun j hj=>hall.out j hj))
 clear hall;go_wp2_with fail;go_returns;exact⟨by rw[hf.out];rfl,(Ext.refl _).alloc _⟩
end Go.Proofs.YtjaeedbjknejdaaGreatDoor.At

namespace Go.Proofs.YtjaeedbjknejdaaGreatDoor.At
open Go.RowKit Go.Sort Go.Lib Go.Shelf Fx Lx
abbrev Rul := Int × Int × Int × Int
def nodeR (l:List UInt8):Rul:=if l=[108,97,98,101,108] then (1,0,0,0) else if l=[119,105,100,116,104] then (3,1,1048576,20000) else if l=[104,101,105,103,104,116] then (3,1,1048576,10000) else if l=[112,111,114,116,115] then (2,0,0,0) else (0,0,0,0)
def edgeR (l:List UInt8):Rul:=if l=[108,97,98,101,108] then (1,0,0,0) else if l=[119,101,105,103,104,116] then (4,1000,1000000,1000) else if l=[108,101,110] then (4,1000,64000,1000) else (0,0,0,0)
def setR (l:List UInt8):Rul:=if l=[109,111,100,101] then (5,0,0,0) else if l=[110,111,100,101,115,101,112] then (3,0,1048576,10000) else if l=[114,97,110,107,115,101,112] then (3,0,1048576,20000) else if l=[109,97,114,103,105,110] then (3,0,1048576,5000) else if l=[114,111,117,110,100,115] then (4,0,100000,8000) else (0,0,0,0)
def ruleT (kind:Int)(l:List UInt8):Rul:=if kind=1 then nodeR l else if kind=2 then edgeR l else if kind=4 then setR l else (0,0,0,0)
end Go.Proofs.YtjaeedbjknejdaaGreatDoor.At

namespace Go.Proofs.YtjaeedbjknejdaaGreatDoor.At
open Go.RowKit Go.Sort Go.Lib Go.Shelf Fx Lx
def nodeK (l:List UInt8):Rul:=if l=[108,97,98,101,108] then (1,0,0,0) else if l=[119,105,100,116,104] then (2,1,1048576,20000) else if l=[104,101,105,103,104,116] then (2,1,1048576,10000) else if l=[112,111,114,116,115] then (4,0,0,0) else (0,0,0,0)
def edgeK (l:List UInt8):Rul:=if l=[108,97,98,101,108] then (1,0,0,0) else if l=[119,101,105,103,104,116] then (3,1,1000,1) else if l=[108,101,110] then (3,1,64,1) else (0,0,0,0)
def setK (l:List UInt8):Rul:=if l=[109,111,100,101] then (5,0,0,0) else if l=[110,111,100,101,115,101,112] then (2,0,1048576,10000) else if l=[114,97,110,107,115,101,112] then (2,0,1048576,20000) else if l=[109,97,114,103,105,110] then (2,0,1048576,5000) else if l=[114,111,117,110,100,115] then (3,0,100,8) else (0,0,0,0)
def knownT (kind:Int)(l:List UInt8):Rul:=if kind=1 then nodeK l else if kind=2 then edgeK l else if kind=4 then setK l else (0,0,0,0)
def knownV (r:Rul):Value:=.agg #[.int .i64 r.1,.int .i64 r.2.1,.int .i64 r.2.2.1,.int .i64 r.2.2.2]
theorem key_eq (key:ByteArray)(l:List UInt8)(h:key.data.toList=l):key=⟨l.toArray⟩:=by
 apply ByteArray.ext;apply Array.toList_inj.1;rw[h]
theorem key_ne (key:ByteArray)(l:List UInt8)(h:key.data.toList ≠ l):(key.toList == l)=false:=by
 rw[ByteArray.toList_eq];simpa using h
theorem known_node (key:ByteArray)(w:World):
  Calls Tryz.prog 155 #[.int .i64 1,.string key] w fun e w'=>e=.returned (knownV (nodeK key.data.toList))/\Ext w w':=by
 by_cases n0:key.data.toList=[108,97,98,101,108]
 ·have e:nodeK key.data.toList=(1,0,0,0):=by rw[n0];rfl
  rw[e];obtain rfl:=key_eq _ _ n0;clear e n0;go_enter Tryz.func155,Tryz.ntmps155;go_wp2;go_returns;exact⟨rfl,((Ext.refl _).alloc _)⟩
 by_cases n1:key.data.toList=[119,105,100,116,104]
 ·have e:nodeK key.data.toList=(2,1,1048576,20000):=by rw[n1];rfl
  rw[e];obtain rfl:=key_eq _ _ n1;clear e n0 n1;go_enter Tryz.func155,Tryz.ntmps155;go_wp2;go_returns;exact⟨rfl,((Ext.refl _).alloc _)⟩
 by_cases n2:key.data.toList=[104,101,105,103,104,116]
 ·have e:nodeK key.data.toList=(2,1,1048576,10000):=by rw[n2];rfl
  rw[e];obtain rfl:=key_eq _ _ n2;clear e n0 n1 n2;go_enter Tryz.func155,Tryz.ntmps155;go_wp2;go_returns;exact⟨rfl,((Ext.refl _).alloc _)⟩
 by_cases n3:key.data.toList=[112,111,114,116,115]
 ·have e:nodeK key.data.toList=(4,0,0,0):=by rw[n3];rfl
  rw[e];obtain rfl:=key_eq _ _ n3;clear e n0 n1 n2 n3;go_enter Tryz.func155,Tryz.ntmps155;go_wp2;go_returns;exact⟨rfl,((Ext.refl _).alloc _)⟩
 have e:nodeK key.data.toList=(0,0,0,0):=by unfold nodeK;rw[if_neg n0,if_neg n1,if_neg n2,if_neg n3]
 rw[e];have f0:=key_ne _ _ n0;have f1:=key_ne _ _ n1;have f2:=key_ne _ _ n2;have f3:=key_ne _ _ n3;clear e n0 n1 n2 n3;go_enter Tryz.func155,Tryz.ntmps155;go_wp2;go_returns;exact⟨rfl,((Ext.refl _).alloc _)⟩
theorem known_edge (key:ByteArray)(w:World):
  Calls Tryz.prog 155 #[.int .i64 2,.string key] w fun e w'=>e=.returned (knownV (edgeK key.data.toList))/\Ext w w':=by
 by_cases n0:key.data.toList=[108,97,98,101,108]
 ·have e:edgeK key.data.toList=(1,0,0,0):=by rw[n0];rfl
  rw[e];obtain rfl:=key_eq _ _ n0;clear e n0;go_enter Tryz.func155,Tryz.ntmps155;go_wp2;go_returns;exact⟨rfl,((Ext.refl _).alloc _)⟩
 by_cases n1:key.data.toList=[119,101,105,103,104,116]
 ·have e:edgeK key.data.toList=(3,1,1000,1):=by rw[n1];rfl
  rw[e];obtain rfl:=key_eq _ _ n1;clear e n0 n1;go_enter Tryz.func155,Tryz.ntmps155;go_wp2;go_returns;exact⟨rfl,((Ext.refl _).alloc _)⟩
 by_cases n2:key.data.toList=[108,101,110]
 ·have e:edgeK key.data.toList=(3,1,64,1):=by rw[n2];rfl
  rw[e];obtain rfl:=key_eq _ _ n2;clear e n0 n1 n2;go_enter Tryz.func155,Tryz.ntmps155;go_wp2;go_returns;exact⟨rfl,((Ext.refl _).alloc _)⟩
 have e:edgeK key.data.toList=(0,0,0,0):=by unfold edgeK;rw[if_neg n0,if_neg n1,if_neg n2]
 rw[e];have f0:=key_ne _ _ n0;have f1:=key_ne _ _ n1;have f2:=key_ne _ _ n2;clear e n0 n1 n2;go_enter Tryz.func155,Tryz.ntmps155;go_wp2;go_returns;exact⟨rfl,((Ext.refl _).alloc _)⟩
theorem known_set (key:ByteArray)(w:World):
  Calls Tryz.prog 155 #[.int .i64 4,.string key] w fun e w'=>e=.returned (knownV (setK key.data.toList))/\Ext w w':=by
 by_cases n0:key.data.toList=[109,111,100,101]
 ·have e:setK key.data.toList=(5,0,0,0):=by rw[n0];rfl
  rw[e];obtain rfl:=key_eq _ _ n0;clear e n0;go_enter Tryz.func155,Tryz.ntmps155;go_wp2;go_returns;exact⟨rfl,((Ext.refl _).alloc _)⟩
 by_cases n1:key.data.toList=[110,111,100,101,115,101,112]
 ·have e:setK key.data.toList=(2,0,1048576,10000):=by rw[n1];rfl
  rw[e];obtain rfl:=key_eq _ _ n1;clear e n0 n1;go_enter Tryz.func155,Tryz.ntmps155;go_wp2;go_returns;exact⟨rfl,((Ext.refl _).alloc _)⟩
 by_cases n2:key.data.toList=[114,97,110,107,115,101,112]
 ·have e:setK key.data.toList=(2,0,1048576,20000):=by rw[n2];rfl
  rw[e];obtain rfl:=key_eq _ _ n2;clear e n0 n1 n2;go_enter Tryz.func155,Tryz.ntmps155;go_wp2;go_returns;exact⟨rfl,((Ext.refl _).alloc _)⟩
 by_cases n3:key.data.toList=[109,97,114,103,105,110]
 ·have e:setK key.data.toList=(2,0,1048576,5000):=by rw[n3];rfl
  rw[e];obtain rfl:=key_eq _ _ n3;clear e n0 n1 n2 n3;go_enter Tryz.func155,Tryz.ntmps155;go_wp2;go_returns;exact⟨rfl,((Ext.refl _).alloc _)⟩
 by_cases n4:key.data.toList=[114,111,117,110,100,115]
 ·have e:setK key.data.toList=(3,0,100,8):=by rw[n4];rfl
  rw[e];obtain rfl:=key_eq _ _ n4;clear e n0 n1 n2 n3 n4;go_enter Tryz.func155,Tryz.ntmps155;go_wp2;go_returns;exact⟨rfl,((Ext.refl _).alloc _)⟩
 have e:setK key.data.toList=(0,0,0,0):=by unfold setK;rw[if_neg n0,if_neg n1,if_neg n2,if_neg n3,if_neg n4]
 rw[e];have f0:=key_ne _ _ n0;have f1:=key_ne _ _ n1;have f2:=key_ne _ _ n2;have f3:=key_ne _ _ n3;have f4:=key_ne _ _ n4;clear e n0 n1 n2 n3 n4;go_enter Tryz.func155,Tryz.ntmps155;go_wp2;go_returns;exact⟨rfl,((Ext.refl _).alloc _)⟩
theorem known_other (kind:Int)(key:ByteArray)(w:World)(h1:kind ≠ 1)(h2:kind ≠ 2)(h4:kind ≠ 4):
  Calls Tryz.prog 155 #[.int .i64 kind,.string key] w fun e w'=>e=.returned (knownV (0,0,0,0))/\Ext w w':=by
 obtain⟨f1,_⟩:=ne_facts h1;obtain⟨f2,_⟩:=ne_facts h2;obtain⟨f4,_⟩:=ne_facts h4;go_enter Tryz.func155,Tryz.ntmps155;go_wp2;go_returns;exact⟨rfl,((Ext.refl _).alloc _)⟩
theorem known_any (kind:Int)(key:ByteArray)(w:World):
  Calls Tryz.prog 155 #[.int .i64 kind,.string key] w fun e w'=>e=.returned (knownV (knownT kind key.data.toList))/\Ext w w':=by
 by_cases h1:kind=1
 ·subst h1;exact known_node key w
 by_cases h2:kind=2
 ·subst h2;exact known_edge key w
 by_cases h4:kind=4
 ·subst h4;exact known_set key w
 have e:knownT kind key.data.toList=(0,0,0,0):=by unfold knownT;rw[if_neg h1,if_neg h2,if_neg h4]
 rw[e];exact known_other kind key w h1 h2 h4
end Go.Proofs.YtjaeedbjknejdaaGreatDoor.At
