/- Packed texts: FixParseR, AttH, NorTyp, NorText, ExpText -/
import Derived.Test.YtjaeedbjknejdaaGreatDoorPu06
import Derived.Test.YtjaeedbjknejdaaGreatDoorPu07
import Derived.BigQuiet
import Derived.Maps.OwnSet
import Derived.Deep.AppendLies
import Derived.StringKeys
import Derived.Lib.QuietBelow
import Derived.Deep.RegionLaw
import Derived.Deep.CutRange
import Derived.RangeFuncFrom
import Derived.RangeFuncLeaves
import Derived.OwnWalkIn
import Derived.TacticsInMore
import Derived.LoopNIn
import Derived.LoopIn
import Derived.RangeFuncNested
import Derived.Lib.Join
set_option linter.unusedVariables false
set_option linter.unusedSimpArgs false
set_option maxHeartbeats 16000000
set_option maxRecDepth 100000
namespace Go.Proofs.YtjaeedbjknejdaaGreatDoor.Fx
open Go.RowKit Go.Sort Go.Lib Go.Shelf
theorem form_empty (s:ByteArray)(w:World)(h:s.size=0):
    Calls Tryz.prog 243 #[.string s] w fun e w'=>e=.returned (formV (form s.data.toList))/\w=w':=by
  have e:s.data.toList=[]:=List.eq_nil_of_length_eq_zero (by rw[<-size_len];exact h);obtain rfl:s=⟨#[]⟩:=by cases s;rename_i d;cases d;simp at e;subst e;rfl
  go_enter Tryz.func243,Tryz.ntmps243;go_wp2_with fail;refine wp_loop_rounds 1 ?_;rw[rounds_succ];go_wp2;go_returns;exact⟨rfl,rfl⟩
theorem form_any (s:ByteArray)(w:World)(hs:s.size<=9223372036854775807):
    Calls Tryz.prog 243 #[.string s] w fun e w'=>e=.returned (formV (form s.data.toList))/\w=w':=by
  rcases head_ways s with⟨hp,⟨h0,ht⟩,hw⟩ | ⟨hp,⟨h0,ht⟩,hw⟩ | ⟨hp,hw⟩
  · exact form_minus s w hs hp h0 ht hw
  · exact form_plus s w hs hp h0 ht hw
  exact form_empty s w hp
theorem form_none (s:ByteArray)(w:World)(hs:s.size<=9223372036854775807)(h:form s.data.toList=none):
    Calls Tryz.prog 243 #[.string s] w fun e w'=>e=.returned (.tuple #[.bool false,.string ⟨#[]⟩,.string ⟨#[]⟩,.bool false])/\w=w':=by
  have:=form_any s w hs;rw[h] at this;exact this
theorem form_some (s a b:ByteArray)(m:Bool)(w:World)(hs:s.size<=9223372036854775807)(h:form s.data.toList=some (m,a.data.toList,b.data.toList)):
    Calls Tryz.prog 243 #[.string s] w fun e w'=>e=.returned (.tuple #[.bool m,.string a,.string b,.bool true])/\w=w':=by
  have:=form_any s w hs;rw[h] at this;exact this
theorem form_len (s:List UInt8)(m:Bool)(w p:List UInt8)(h:form s=some (m,w,p)):w.length<=s.length/\p.length<=3/\w.all isD=true/\p.all isD=true/\w ≠ []:=by
  unfold form at h;generalize hm:hasPrefix s [45]=mm at h;have h1:=splitDot_le (trimPrefix s [45]);have h2:(trimPrefix s [45]).length<=s.length:=by unfold trimPrefix;split <;> simp
  have h3:=splitDot_none (trimPrefix s [45]);generalize (splitDot (trimPrefix s [45])).2.2=pt at h h3;generalize (splitDot (trimPrefix s [45])).1=W at h h1;generalize (splitDot (trimPrefix s [45])).2.1=P at h h1 h3;unfold form3 partOk at h;split at h
  · cases h
  rename_i c1;split at h
  · cases h
  rename_i c2;split at h
  · cases h
  rename_i c3;simp only[Option.some.injEq,Prod.mk.injEq] at h;obtain⟨rfl,rfl,rfl⟩:=h;have c1':W.all isD=true/\P.all isD=true:=by simpa using c1
  refine⟨by omega,?_,c1'.1,c1'.2,?_⟩
  · cases pt
    · rw[h3 rfl];simp
    simp at c2;exact c2.1.2
  intro e;subst e;simp at c3
theorem valL_snoc : ∀ (l:List UInt8) (b:UInt8) (a:Nat),valL a (l++[b])=match valL a l with | none=>none | some n=>if 268435456 < 10 * n+(b.toNat - 48) then none else some (10 * n+(b.toNat - 48))
  | [],b,a=>by simp[valL]
  | c::r,b,a=>by
    show(if 268435456 < 10 * a+(c.toNat - 48) then none else valL (10 * a+(c.toNat - 48)) (r++[b]))=match (if 268435456 < 10 * a+(c.toNat - 48) then none else valL (10 * a+(c.toNat - 48)) r) with | none=>none | some n=>if 268435456 < 10 * n+(b.toNat - 48) then none else some (10 * n+(b.toNat - 48))
    split
    · rfl
    · exact valL_snoc r b _
theorem valL_none : ∀ (l q:List UInt8) (a:Nat),valL a l=none->valL a (l++q)=none
  | [],_,_,h=>by cases h
  | c::r,q,a,h=>by
    have h':(if 268435456 < 10 * a+(c.toNat - 48) then none else valL (10 * a+(c.toNat - 48)) r)=none:=h;show(if 268435456 < 10 * a+(c.toNat - 48) then none else valL (10 * a+(c.toNat - 48)) (r++q))=none;split
    · rfl
    · rename_i hc;rw[if_neg hc] at h';exact valL_none r q _ h'
theorem pad_snoc (b:List UInt8)(h:b.length < 3):pad3 (b++[48])=pad3 b:=by
  unfold pad3;have e:3 - b.length=(3 - (b++[48]).length)+1:=by simp;omega
  rw[e,List.replicate_succ,List.append_assoc];rfl
theorem pad_full (b:List UInt8)(h:3<=b.length):pad3 b=b:=by
  unfold pad3;rw[show 3 - b.length=0 by omega];simp
theorem take_succ_b (t:ByteArray)(k:Nat)(hk:k < t.size):t.data.toList.take (k+1)=t.data.toList.take k++[t[k]]:=by
  have hk':k < t.data.toList.length:=by rw[<-size_len];exact hk
  rw[List.take_succ_eq_append_getElem hk'];rfl
theorem isD_at (t:ByteArray)(k:Nat)(hk:k < t.size)(h:t.data.toList.all isD=true):48<=t[k].toNat/\t[k].toNat<=57:=by
  have hk':k < t.data.toList.length:=by rw[<-size_len];exact hk
  have:=List.all_eq_true.1 h t[k] (by show t.data.toList[k] ∈ _;exact List.getElem_mem hk');unfold isD at this;simpa using this
theorem parseR_any (s:ByteArray)(w:World)(hs:s.size<=4294967280):
    Calls Tryz.prog 209 #[.string s] w fun e w'=>e=.returned (.tuple #[.int .i64 (parse s.data.toList).1,.int .i64 (parse s.data.toList).2])/\w=w':=by
  rw[parse_eq];unfold parseR;cases hF:form s.data.toList with
  | none =>
    have HF:=Lib.hid hF;clear hF;go_enter Tryz.func209,Tryz.ntmps209;go_wp2_with (go_at_call 243;refine(form_none s _ (by omega) HF.out).mono ?_;rintro e w ⟨rfl,rfl⟩)
    go_ret2
    exact⟨rfl,rfl⟩
  | some f =>
    obtain⟨m,W,P⟩:=f;obtain⟨l1,l2,l3,l4,l5⟩:=form_len _ _ _ _ hF;obtain⟨a,ha⟩:∃ a:ByteArray,a.data.toList=W:=⟨⟨W.toArray⟩,rfl⟩;obtain⟨b,hb⟩:∃ b:ByteArray,b.data.toList=P:=⟨⟨P.toArray⟩,rfl⟩;subst ha;subst hb;rw[<-size_len] at l1 l2;rw[<-size_len] at l1;have HF:=Lib.hid hF;clear hF
    have HD:=Lib.hid (show(a.data.toList++pad3 b.data.toList).all isD=true by
      rw[List.all_append,l3,Bool.true_and];unfold pad3;rw[List.all_append,l4,Bool.true_and,List.all_eq_true]
      intro x hx;rw[(List.mem_replicate.1 hx).2];rfl)
    obtain⟨L,hL⟩:∃ L,a.data.toList++pad3 b.data.toList=L:=⟨_,rfl⟩;have HV:Hid (valR (some (m,a.data.toList,b.data.toList))=match valL 0 L with | none=>(0,16) | some n=>(if m then -(n:Int) else n,0)):=by rw[<-hL];rfl
    rw[hL] at HD;have HL:=Lib.hid hL;clear l3 l4 l5 hL;go_enter Tryz.func209,Tryz.ntmps209;go_wp2_with (go_at_call 243;refine(form_some s a b m _ (by omega) HF.out).mono ?_;rintro e w ⟨rfl,rfl⟩)
    go_loop [6] (fun p'=>∃ c:ByteArray,c.size<=3/\pad3 c.data.toList=pad3 b.data.toList/\p'=.string c) (fun p'=>3 - Lib.strSize p')
    case atStart=>exact⟨b,l2,rfl,rfl⟩
    case round =>
      obtain⟨c,hc3,hcp,rfl⟩:=hrel;by_cases hlt:c.size < 3
      · have hn:pad3 (c++⟨#[48]⟩).data.toList=pad3 b.data.toList:=by
          rw[data_app,<- hcp];exact pad_snoc _ (by rw[<-size_len];exact hlt)
        have HN:=Lib.hid hn;clear hn hcp;go_wp2
        go_round
        case rel=>exact⟨_,by rw[ByteArray.size_append'];show c.size+1<=3;omega,HN.out,rfl⟩
        case measure=>show 3 - (c++⟨#[48]⟩:ByteArray).size < 3 - c.size;rw[ByteArray.size_append'];show 3 - (c.size+1) < _;omega
      have hall:(a++c).data.toList=L:=by
        rw[data_app,<- HL.out,<- hcp,pad_full _ (by rw[<-size_len];omega)]
      obtain⟨t,ht⟩:∃ t,a++c=t:=⟨_,rfl⟩;rw[ht] at hall;have htl:t.size<=4294967283:=by rw[<-ht,ByteArray.size_append'];omega
      have HT:=Lib.hid hall;clear hcp hall;go_wp2_with fail
      go_loop [8,10] (fun n' i'=>∃ (k n:Nat),k<=t.size/\n<=268435456/\valL 0 (t.data.toList.take k)=some n/\n'=.int .i64 n/\i'=.int .i64 k) (fun _ i'=>t.size - (RowKit.intOf i').toNat)
      case atStart=>exact⟨0,0,by omega,by omega,rfl,rfl,rfl⟩
      obtain⟨k,n,hk,hn,hv,rfl,rfl⟩:=hrel;by_cases hkl:k < t.size
      · have hD:=isD_at t k hkl (by rw[HT.out];exact HD.out);obtain⟨d,hd⟩:∃ d:Nat,t[k].toNat=d+48:=⟨t[k].toNat - 48,by omega⟩;have hst:=valL_snoc (t.data.toList.take k) t[k] 0;rw[<-take_succ_b t k hkl,hv] at hst;have hst2:valL 0 (t.data.toList.take (k+1))=if 268435456 < 10 * n+(t[k].toNat - 48) then none else some (10 * n+(t[k].toNat - 48)):=hst;rw[show t[k].toNat - 48=d by omega] at hst2;have d9:d<=9:=by omega
        have hdi:(t[k].toNat:Int)=(d:Int)+48:=by omega
        have HS:=Lib.hid hst2;clear hst hst2 hv hd hD;by_cases hbig:268435456 < 10 * n+d
        · have hno:=HS.out;rw[if_pos hbig] at hno
          have hLn:valL 0 L=none:=by
            have:=valL_none _ (t.data.toList.drop (k+1)) 0 hno;rw[List.take_append_drop,HT.out] at this;exact this
          have HLN:=Lib.hid hLn;clear hno hLn;go_wp2
          go_ret2
          exact⟨ret_pair (by rw[HV.out,HLN.out]) (by rw[HV.out,HLN.out]),rfl⟩
        have hyes:=HS.out;rw[if_neg hbig] at hyes;have HY:=Lib.hid hyes;clear hyes;go_wp2
        go_round
        case rel=>exact⟨k+1,10 * n+d,by omega,by omega,HY.out,by go_num,by go_num⟩
        case measure=>simp[RowKit.intOf];omega
      have hfin:valL 0 L=some n:=by
        rw[List.take_of_length_le (by rw[<-size_len];omega),HT.out] at hv;exact hv
      have HF2:=Lib.hid hfin;clear hfin hv;cases m
      all_goals
        go_wp2
        go_ret2
        exact⟨ret_pair (by rw[HV.out,HF2.out];rfl) (by rw[HV.out,HF2.out]),rfl⟩
end Go.Proofs.YtjaeedbjknejdaaGreatDoor.Fx

namespace Go.Proofs.YtjaeedbjknejdaaGreatDoor.At
open Go.RowKit Go.Sort Go.Lib Go.Shelf Fx Lx
end Go.Proofs.YtjaeedbjknejdaaGreatDoor.At
namespace Go.Proofs.YtjaeedbjknejdaaGreatDoor.At
open Go.RowKit Go.Sort Go.Lib Go.Shelf Fx Lx
end Go.Proofs.YtjaeedbjknejdaaGreatDoor.At
namespace Go.Proofs.YtjaeedbjknejdaaGreatDoor.At
open Go.RowKit Go.Sort Go.Lib Go.Shelf Fx Lx
attribute [local go_sem] Oper.semAt_some
end Go.Proofs.YtjaeedbjknejdaaGreatDoor.At
namespace Go.Proofs.YtjaeedbjknejdaaGreatDoor.At
open Go.RowKit Go.Sort Go.Lib Go.Shelf Fx Lx
attribute [local go_sem] Oper.semAt_some
end Go.Proofs.YtjaeedbjknejdaaGreatDoor.At
namespace Go.Proofs.YtjaeedbjknejdaaGreatDoor.At
open Go.RowKit Go.Sort Go.Lib Go.Shelf Fx Lx
end Go.Proofs.YtjaeedbjknejdaaGreatDoor.At

namespace Go.Proofs.YtjaeedbjknejdaaGreatDoor.Nm
open Go.Lib Fx Lx At
structure Nd where
  name:ByteArray
  label:ByteArray
  w:Int
  h:Int
  c:Int
  ports:List Prt
structure Ed where
  a:Int
  b:Int
  ap:Int
  bp:Int
  label:ByteArray
  wt:Int
  len:Int
structure Gr where
  name:ByteArray
  dir:Bool
  N:List Nd
  E:List Ed
  C:List (ByteArray × Int)
end Go.Proofs.YtjaeedbjknejdaaGreatDoor.Nm

namespace Go.Proofs.YtjaeedbjknejdaaGreatDoor.Nm
open Go.Lib Fx Lx Tr At
structure Lk where
  a:Nat
  ap:ByteArray
  b:Nat
  bp:ByteArray
  at':List Two
structure St where
  N:List (ByteArray × Int)
  A:List (List Two)
  C:List (ByteArray × Int)
  K:List Lk
structure Pl where
  c:Int
  n:List Two
  e:List Two
def idxGo (n:ByteArray):Nat->List (ByteArray × Int)->Option Nat
  | _,[]=>none
  | k,q::r=>if q.1=n then some k else idxGo n (k+1) r
def kLabel : ByteArray:=⟨#[108,97,98,101,108]⟩
def kWidth : ByteArray:=⟨#[119,105,100,116,104]⟩
def kHeight : ByteArray:=⟨#[104,101,105,103,104,116]⟩
def kPorts : ByteArray:=⟨#[112,111,114,116,115]⟩
def kWeight : ByteArray:=⟨#[119,101,105,103,104,116]⟩
def kLen : ByteArray:=⟨#[108,101,110]⟩
def labE (s:ByteArray):Int:=if 32 < s.size then 2 else if s.data.toList.all Tr.okT=false then 7 else 0
def prtGo : List Prt->List Prt->Int
  | [],_=>0
  | q::r,done=>if nameB q.1.data.toList=false then 5 else if done.any (fun p=>decide (p.1=q.1))=true then 6 else if q.2 < 0\/3 < q.2 then 7 else prtGo r (done++[q])
def prtE (l:List Prt):Int:=if 8 < l.length then 2 else prtGo l []
def ndE (nc:Nat)(done:List Nd)(x:Nd):Int :=
  if nameB x.name.data.toList=false then 5
  else if done.any (fun p=>decide (p.name=x.name))=true then 6
  else if labE x.label ≠ 0 then labE x.label
  else if x.w < 1\/1048576 < x.w\/x.h < 1\/1048576 < x.h\/x.c < -1\/(nc:Int)<=x.c then 3
  else prtE x.ports
def ndsE (nc:Nat):List Nd->List Nd->Int
  | [],_=>0
  | x::r,done=>if ndE nc done x ≠ 0 then ndE nc done x else ndsE nc r (done++[x])
def depT (C:List (ByteArray × Int)):Nat->Int->Nat
  | 0,_=>0
  | f+1,c=>if c < 0 then 0 else 1+depT C f ((C[c.toNat]?.map Prod.snd).getD (-1))
def clE (N:List Nd)(C:List (ByteArray × Int))(i:Nat)(x:ByteArray × Int):Int :=
  if nameB x.1.data.toList=false then 5
  else if N.any (fun p=>decide (p.name=x.1))=true\/(C.take i).any (fun p=>decide (p.1=x.1))=true then 6
  else if x.2 < -1\/(i:Int)<=x.2 then 3
  else if 6 < depT C (i+1) i then 2 else 0
def clsE (N:List Nd)(C:List (ByteArray × Int)):Nat->List (ByteArray × Int)->Int
  | _,[]=>0
  | i,x::r=>if clE N C i x ≠ 0 then clE N C i x else clsE N C (i+1) r
def portsOf (N:List Nd)(v:Int):Nat:=((N[v.toNat]?.map Nd.ports).getD []).length
def edE (N:List Nd)(x:Ed):Int :=
  if x.a < 0\/x.b < 0\/(N.length:Int)<=x.a\/(N.length:Int)<=x.b\/x.ap < -1\/x.bp < -1\/(portsOf N x.a:Int)<=x.ap\/(portsOf N x.b:Int)<=x.bp then 3
  else if labE x.label ≠ 0 then labE x.label
  else if x.wt < 1\/1000 < x.wt\/x.len < 1\/64 < x.len then 7 else 0
def edsE (N:List Nd):List Ed->Int
  | []=>0
  | x::r=>if edE N x ≠ 0 then edE N x else edsE N r
def grE (g:Gr):Int :=
  if 64 < g.N.length\/256 < g.E.length\/16 < g.C.length then 2
  else if nameB g.name.data.toList=false then 5
  else if ndsE g.C.length g.N [] ≠ 0 then ndsE g.C.length g.N []
  else if clsE g.N g.C 0 g.C ≠ 0 then clsE g.N g.C 0 g.C
  else edsE g.N g.E
structure Op5 where
  mode:Int
  ns:Int
  rs:Int
  mg:Int
  rd:Int
def kMode : ByteArray:=⟨#[109,111,100,101]⟩
def kNs : ByteArray:=⟨#[110,111,100,101,115,101,112]⟩
def kRs : ByteArray:=⟨#[114,97,110,107,115,101,112]⟩
def kMg : ByteArray:=⟨#[109,97,114,103,105,110]⟩
def kRd : ByteArray:=⟨#[114,111,117,110,100,115]⟩
end Go.Proofs.YtjaeedbjknejdaaGreatDoor.Nm

namespace Go.Proofs.YtjaeedbjknejdaaGreatDoor.Ex
open Go.Lib Fx Lx Tr At Go.Proofs.YtjaeedbjknejdaaGreatDoor.Nm
def sideT (n:Int):ByteArray:=if n=0 then ⟨#[116,111,112]⟩ else if n=1 then ⟨#[114,105,103,104,116]⟩ else if n=2 then ⟨#[98,111,116,116,111,109]⟩ else ⟨#[108,101,102,116]⟩
def portTx (p:Prt):List UInt8:=p.1.data.toList++[32]++(sideT p.2).data.toList
def portsTx (l:List Prt):ByteArray:=⟨(Lib.join (l.map portTx) [44,32]).toArray⟩
def fmtB (n:Int):ByteArray:=⟨(fmt n).toArray⟩
def nodeA (x:Nd):List Two :=
  (if x.h=10000 then [] else [(kHeight,fmtB x.h)])++(if x.label=x.name then [] else [(kLabel,x.label)])++(if x.ports=[] then [] else [(kPorts,portsTx x.ports)])++(if x.w=20000 then [] else [(kWidth,fmtB x.w)])
def nodeS (x:Nd):Stm:=.mk 1 x.name [] (nodeA x) []
def endT (N:List Nd)(v p:Int):Two :=
  match N[v.toNat]? with
  | none=>(⟨#[]⟩,⟨#[]⟩)
  | some x=>(x.name,if p < 0 then ⟨#[]⟩ else ((x.ports[p.toNat]?).map Prod.fst).getD ⟨#[]⟩)
def edgeA (x:Ed):List Two :=
  (if x.label=⟨#[]⟩ then [] else [(kLabel,x.label)])++(if x.len=1 then [] else [(kLen,fmtB (1000 * x.len))])++(if x.wt=1 then [] else [(kWeight,fmtB (1000 * x.wt))])
def edgeS (N:List Nd)(x:Ed):Stm:=.mk 2 ⟨#[]⟩ [endT N x.a x.ap,endT N x.b x.bp] (edgeA x) []
def setS (k v:ByteArray):Stm:=.mk 4 k [] [(⟨#[]⟩,v)] []
def modeT (m:Int):ByteArray:=if m=0 then ⟨#[108,97,121,101,114,101,100]⟩ else if m=1 then ⟨#[111,114,116,104,111,103,111,110,97,108]⟩ else if m=2 then ⟨#[115,116,114,97,105,103,104,116]⟩ else if m=3 then ⟨#[116,105,100,121]⟩ else ⟨#[114,97,100,105,97,108]⟩
def optsL (o:Op5):List Stm :=
  (if o.mode=0 then [] else [setS kMode (modeT o.mode)])++(if o.ns=10000 then [] else [setS kNs (fmtB o.ns)])++(if o.rs=20000 then [] else [setS kRs (fmtB o.rs)])++(if o.mg=5000 then [] else [setS kMg (fmtB o.mg)])++(if o.rd=8 then [] else [setS kRd (fmtB (1000 * o.rd))])
def chnT (C:List (ByteArray × Int)):Nat->Int->List Int
  | 0,_=>[]
  | f+1,c=>if c < 0 then [] else c::chnT C f ((C[c.toNat]?.map Prod.snd).getD (-1))
def hasC (C:List (ByteArray × Int))(c k:Int):Bool:=(chnT C (C.length+1) k).contains c
def memT (g:Gr)(c:Int):List Nat:=(List.range g.N.length).filter fun v=>hasC g.C c ((g.N[v]?.map Nd.c).getD (-1))
def readyT (g:Gr)(p:Int)(n k:Nat):Bool :=
  match g.C[k]? with
  | none=>false
  | some q=>decide (q.2=p) && ((memT g k).isEmpty || (memT g k).contains n)
def blockT (g:Gr):Nat->Int->Nat->Nat->List Stm × Nat × Nat
  | 0,_,n,k=>([],n,k)
  | f+1,p,n,k =>
    if readyT g p n k=true then
      (.mk 5 ((g.C[k]?.map Prod.fst).getD ⟨#[]⟩) [] [] (blockT g f k n (k+1)).1::(blockT g f p (blockT g f k n (k+1)).2.1 (blockT g f k n (k+1)).2.2).1,(blockT g f p (blockT g f k n (k+1)).2.1 (blockT g f k n (k+1)).2.2).2)
    else match g.N[n]? with
      | none=>([],n,k)
      | some x=>if x.c=p then (nodeS x::(blockT g f p (n+1) k).1,(blockT g f p (n+1) k).2) else ([],n,k)
def msr (g:Gr)(n k:Nat):Nat:=(g.N.length - n)+(g.C.length - k)
theorem ready_lt {g:Gr}{p:Int}{n k:Nat}(h:readyT g p n k=true):k < g.C.length:=by
  unfold readyT at h;cases e:g.C[k]? with
  | none=>rw[e] at h;cases h
  | some q=>exact(List.getElem?_eq_some_iff.1 e).1
theorem block_mono (g:Gr):∀ (f:Nat) (p:Int) (n k:Nat),n<=(blockT g f p n k).2.1/\k<=(blockT g f p n k).2.2
  | 0,_,n,k=>⟨Nat.le_refl _,Nat.le_refl _⟩
  | f+1,p,n,k=>by
    rw[blockT];split
    · have h1:=block_mono g f k n (k+1);have h2:=block_mono g f p (blockT g f k n (k+1)).2.1 (blockT g f k n (k+1)).2.2;exact⟨Nat.le_trans h1.1 h2.1,Nat.le_trans (Nat.le_trans (Nat.le_succ k) h1.2) h2.2⟩
    · split
      · exact⟨Nat.le_refl _,Nat.le_refl _⟩
      split
      · have h1:=block_mono g f p (n+1) k;exact⟨Nat.le_trans (Nat.le_succ n) h1.1,h1.2⟩
      exact⟨Nat.le_refl _,Nat.le_refl _⟩
theorem block_fuel (g:Gr):∀ (M f f':Nat) (p:Int) (n k:Nat),msr g n k<=M->M < f->M < f'->blockT g f p n k=blockT g f' p n k
  | M,0,_,_,_,_,_,h,_=>absurd h (by omega)
  | M,_+1,0,_,_,_,_,_,h=>absurd h (by omega)
  | M,f+1,f'+1,p,n,k,hm,h1,h2=>by
    rw[blockT,blockT];by_cases hr:readyT g p n k=true
    · rw[if_pos hr,if_pos hr];have hk:=ready_lt hr;have hm':1<=M:=by unfold msr at hm;omega
      have e1:blockT g f k n (k+1)=blockT g f' k n (k+1):=block_fuel g (M - 1) f f' k n (k+1) (by unfold msr at hm ⊢;omega) (by omega) (by omega);rw[e1];have hmo:=block_mono g f' k n (k+1);have e2:=block_fuel g (M - 1) f f' p (blockT g f' k n (k+1)).2.1 (blockT g f' k n (k+1)).2.2 (by unfold msr at hm ⊢;have:=hmo.1;have:=hmo.2;omega) (by omega) (by omega);rw[e2]
    · rw[if_neg hr,if_neg hr];cases e:g.N[n]? with
      | none=>rfl
      | some x =>
        have hn:=(List.getElem?_eq_some_iff.1 e).1;dsimp only;by_cases hc:x.c=p
        · rw[if_pos hc,if_pos hc];have hm':1<=M:=by unfold msr at hm;omega
          rw[block_fuel g (M - 1) f f' p (n+1) k (by unfold msr at hm ⊢;omega) (by omega) (by omega)]
        · rw[if_neg hc,if_neg hc]
def blkT (g:Gr)(p:Int)(n k:Nat):List Stm × Nat × Nat:=blockT g (msr g n k+1) p n k
theorem blk_of (g:Gr)(f:Nat)(p:Int)(n k:Nat)(h:msr g n k < f):blockT g f p n k=blkT g p n k:=block_fuel g _ _ _ p n k (Nat.le_refl _) h (Nat.lt_succ_self _)
theorem blk_clu {g:Gr}{p:Int}{n k:Nat}(h:readyT g p n k=true):blkT g p n k=(.mk 5 ((g.C[k]?.map Prod.fst).getD ⟨#[]⟩) [] [] (blkT g k n (k+1)).1::(blkT g p (blkT g k n (k+1)).2.1 (blkT g k n (k+1)).2.2).1,(blkT g p (blkT g k n (k+1)).2.1 (blkT g k n (k+1)).2.2).2):=by
  have hk:=ready_lt h;have e1:blockT g (msr g n k) k n (k+1)=blkT g k n (k+1):=blk_of g _ _ _ _ (by unfold msr;omega);have hmo:=block_mono g (msr g n (k+1)+1) k n (k+1)
  have e2:blockT g (msr g n k) p (blkT g k n (k+1)).2.1 (blkT g k n (k+1)).2.2=blkT g p (blkT g k n (k+1)).2.1 (blkT g k n (k+1)).2.2:=blk_of g _ _ _ _ (by
    have h1:n<=(blkT g k n (k+1)).2.1:=hmo.1;have h2:k+1<=(blkT g k n (k+1)).2.2:=hmo.2
    unfold msr;omega)
  show blockT g (msr g n k+1) p n k=_;rw[blockT,if_pos h,e1,e2]
theorem blk_node {g:Gr}{p:Int}{n k:Nat}(h:¬ readyT g p n k=true){x:Nd}(hx:g.N[n]? = some x)(hc:x.c=p):blkT g p n k=(nodeS x::(blkT g p (n+1) k).1,(blkT g p (n+1) k).2):=by
  have hn:=(List.getElem?_eq_some_iff.1 hx).1;have e1:blockT g (msr g n k) p (n+1) k=blkT g p (n+1) k:=blk_of g _ _ _ _ (by unfold msr;omega);show blockT g (msr g n k+1) p n k=_;rw[blockT,if_neg h,hx];dsimp only;rw[if_pos hc,e1]
theorem blk_end {g:Gr}{p:Int}{n k:Nat}(h:¬ readyT g p n k=true)(hx:∀ x,g.N[n]? = some x->x.c ≠ p):blkT g p n k=([],n,k):=by
  show blockT g (msr g n k+1) p n k=_;rw[blockT,if_neg h];cases e:g.N[n]? with
  | none=>rfl
  | some x=>dsimp only;rw[if_neg (hx x e)]
theorem blk_mono (g:Gr)(p:Int)(n k:Nat):n<=(blkT g p n k).2.1/\k<=(blkT g p n k).2.2:=block_mono g _ p n k
def bodyT (g:Gr)(o:Op5):List Stm:=optsL o++(blkT g (-1) 0 0).1++g.E.map (edgeS g.N)
def inR5 (o:Op5):Bool:=decide (0<=o.mode) && decide (o.mode<=4) && decide (0<=o.ns) && decide (o.ns<=1048576) && decide (0<=o.rs) && decide (o.rs<=1048576) && decide (0<=o.mg) && decide (o.mg<=1048576) && decide (0<=o.rd) && decide (o.rd<=100)
def treeT (g:Gr)(o:Op5):Except Int (List Stm) :=
  if grE g ≠ 0\/inR5 o=false then .error 1
  else if(blkT g (-1) 0 0).2.1 < g.N.length\/(blkT g (-1) 0 0).2.2 < g.C.length then .error 1
  else if validE g.name (bodyT g o) ≠ 0 then .error (validE g.name (bodyT g o))
  else .ok (bodyT g o)
end Go.Proofs.YtjaeedbjknejdaaGreatDoor.Ex
