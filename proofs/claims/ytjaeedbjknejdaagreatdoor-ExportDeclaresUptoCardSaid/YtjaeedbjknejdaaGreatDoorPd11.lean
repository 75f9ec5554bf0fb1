/- Packed texts: AttG, AttH, NorTyp, NorText, AttI, NorSta -/
import Derived.Test.YtjaeedbjknejdaaGreatDoorPd10
import Derived.RangeFuncFrom
import Derived.RangeFuncLeaves
import Derived.OwnWalkIn
import Derived.TacticsInMore
import Derived.LoopNIn
import Derived.LoopIn
import Derived.RangeFuncNested
import Derived.Lib.AppendZeros
import Derived.Laws.OwnMore
set_option linter.unusedVariables false
set_option linter.unusedSimpArgs false
set_option maxHeartbeats 16000000
set_option maxRecDepth 100000
namespace Go.Proofs.YtjaeedbjknejdaaGreatDoor.At
open Go.RowKit Go.Sort Go.Lib Go.Shelf Fx Lx
theorem known_form (kind:Int)(l:List UInt8):(knownT kind l).1=0\/(knownT kind l).1=1\/(knownT kind l).1=2\/(knownT kind l).1=3\/(knownT kind l).1=4\/(knownT kind l).1=5:=by
 unfold knownT nodeK edgeK setK
 repeat' split
 all_goals decide
theorem checkR_any (kind:Int)(k v:ByteArray)(w:World)(hv:v.size<=4294967280):
  Calls Tryz.prog 150 #[.int .i64 kind,.agg #[.string k,.string v]] w fun e w'=>e=.returned (.int .i64 (checkRV kind k v))/\Ext w w':=by
 unfold checkRV;by_cases hkd:kind=1\/kind=2\/kind=4
 ·have hkb:knownB kind=true:=by unfold knownB;rcases hkd with rfl | rfl | rfl <;> rfl
  rw[if_neg (by rw[hkb];decide)];obtain⟨a,lo,hi,d,hr⟩:∃ a lo hi d,knownT kind k.data.toList=(a,lo,hi,d):=⟨_,_,_,_,rfl⟩;have hf:=known_form kind k.data.toList;rw[hr] at hf ⊢;dsimp only at hf ⊢;rcases hf with rfl | rfl | rfl | rfl | rfl | rfl
  ·exact chkR_none kind lo hi d k v w hkd hr
  ·rw[if_neg (by decide)];by_cases h32:32 < v.size
   ·rw[if_pos ⟨rfl,h32⟩];exact chkR_long kind lo hi d k v w hkd hr h32
   rw[if_neg (fun h=>h32 h.2)];exact chkR_label kind lo hi d k v w hkd hr (by omega)
  ·rw[if_neg (by decide),if_neg (fun h=>absurd h.1 (by decide))];exact chkR_num2 kind lo hi d k v w hkd hr hv
  ·rw[if_neg (by decide),if_neg (fun h=>absurd h.1 (by decide))];exact chkR_num3 kind lo hi d k v w hkd hr hv
  ·rw[if_neg (by decide),if_neg (fun h=>absurd h.1 (by decide))];exact chkR_ports kind lo hi d k v w hkd hr (by omega)
  rw[if_neg (by decide),if_neg (fun h=>absurd h.1 (by decide))];exact chkR_mode kind lo hi d k v w hkd hr
 have h1:kind ≠ 1:=fun h=>hkd (.inl h)
 have h2:kind ≠ 2:=fun h=>hkd (.inr (.inl h))
 have h4:kind ≠ 4:=fun h=>hkd (.inr (.inr h))
 have hkb:knownB kind=false:=by unfold knownB;rw[decide_eq_false h1,decide_eq_false h2,decide_eq_false h4];rfl
 rw[if_pos hkb];exact chkR_other kind k v w h1 h2 h4
end Go.Proofs.YtjaeedbjknejdaaGreatDoor.At
namespace Go.Proofs.YtjaeedbjknejdaaGreatDoor.At
open Go.RowKit Go.Sort Go.Lib Go.Shelf Fx Lx
def getT (L:List Atr)(x:ByteArray):ByteArray × Bool:=match L.reverse.find? (fun q=>decide (q.1=x)) with
 | some q=>(q.2,true)
 | none=>(⟨#[]⟩,false)
theorem getT_snoc (L:List Atr)(q:Atr)(x:ByteArray):getT (L++[q]) x=if q.1=x then (q.2,true) else getT L x:=by
 unfold getT;rw[List.reverse_append];show(match (q::L.reverse).find? _ with | some q=>_ | none=>_)=_;rw[List.find?_cons];by_cases h:q.1=x
 ·rw[if_pos h,decide_eq_true h]
 rw[if_neg h,decide_eq_false h]
theorem getR_any (a:Option Addr)(L:List Atr)(cap:Nat)(x:ByteArray)(w:World)(h:AtrIn w a L)(hL:L.length<=9223372036854775807):
  Calls Tryz.prog 95 #[.slice a L.length cap,.string x] w fun e w'=>e=.returned (.tuple #[.string (getT L x).1,.bool (getT L x).2])/\w=w':=by
 obtain⟨N,hN⟩:∃ N,N=L.length:=⟨_,rfl⟩;obtain⟨T,hT⟩:∃ T,T=getT L x:=⟨_,rfl⟩;have HT:Hid (T=getT (L.take N) x):=hid (by rw[hT,hN,List.take_length]);have HI:=hid h;rw[<-hN] at hL;rw[<-hN,<- hT];have HN:=hid hN;clear h hN hT;go_enter Tryz.func95,Tryz.ntmps95;go_wp2_with fail
 go_loop [6] (fun i'=>(i'=.int .i64 (-1)/\Hid (T=getT [] x))\/(∃ m:Nat,m < N/\i'=.int .i64 m/\Hid (T=getT (L.take (m+1)) x))) (fun i'=>(RowKit.intOf i'+1).toNat)
 case atStart =>
  rcases Nat.eq_zero_or_pos N with h0 | h0
  ·subst h0;exact .inl ⟨by go_num,HT⟩
  exact .inr ⟨N - 1,by omega,by congr 1;omega,hid (by rw[HT.out,show N - 1+1=N by omega])⟩
 rcases hrel with⟨rfl,ha⟩ | ⟨m,hm,rfl,ha⟩
 ·have hf:Hid (T=(⟨#[]⟩,false)):=hid (by rw[ha.out];rfl);clear ha HT;go_wp2;go_returns;exact⟨by rw[hf.out];rfl,rfl⟩
 have hml:m < L.length:=by rw[<-HN.out];exact hm
 obtain⟨g,o,rfl,c0,c1⟩:=HI.out m hml;have hst:=ha.out;rw[List.take_succ_eq_append_getElem hml,getT_snoc] at hst;obtain⟨n,hn⟩:∃ n,n=L[m].1:=⟨_,rfl⟩;obtain⟨d,hd⟩:∃ d,d=L[m].2:=⟨_,rfl⟩;rw[<-hn,<- hd] at hst;rw[<-hn] at c0;rw[<-hd] at c1;clear ha HT hn hd;by_cases heq:n=x
 ·rw[if_pos heq] at hst;have hf:=hid hst;have g1:(n.toList == x.toList)=true:=by rw[beqs];exact decide_eq_true heq
  clear heq hst;go_wp2;go_returns;exact⟨by rw[hf.out];rfl,rfl⟩
 rw[if_neg heq] at hst;have hf:=hid hst;have g1:(n.toList == x.toList)=false:=by rw[beqs];exact decide_eq_false heq
 clear heq hst;go_wp2
 go_round
 case rel =>
  rcases Nat.eq_zero_or_pos m with h0 | h0
  ·subst h0;exact .inl ⟨by go_num,hf⟩
  exact .inr ⟨m - 1,by omega,by congr 1;omega,hid (by rw[hf.out,show m - 1+1=m by omega])⟩
 case measure=>simp[RowKit.intOf]
end Go.Proofs.YtjaeedbjknejdaaGreatDoor.At
namespace Go.Proofs.YtjaeedbjknejdaaGreatDoor.At
open Go.RowKit Go.Sort Go.Lib Go.Shelf Fx Lx
def numRT (r:Rul)(G:ByteArray × Bool):Int :=
 if r.1 ≠ 2/\r.1 ≠ 3 then 0 else if G.2=false then r.2.2.2 else if(valT r (parse G.1.data.toList)).2=false then r.2.2.2 else (valT r (parse G.1.data.toList)).1
theorem getT_mem (L:List Atr)(x:ByteArray)(n:Nat)(hs:∀ q ∈ L,q.2.size<=n):(getT L x).1.size<=n:=by
 unfold getT;cases h:L.reverse.find? (fun q=>decide (q.1=x)) with
 | none=>exact Nat.zero_le _
 | some q=>exact hs q (by simpa using List.mem_of_find?_eq_some h)
theorem rule_new (w1:World)(a lo hi d:Int):∀ w2,Ext (w1.alloc (.cells #[.int .i64 a,.int .i64 lo,.int .i64 hi,.int .i64 d] 216)) w2 ->
  w2.cell? ⟨w1.heap.size,3,none⟩=some (.int .i64 d):=fun w2 x=>by
 have hb:=heap_alloc_new w1 (.cells #[.int .i64 a,.int .i64 lo,.int .i64 hi,.int .i64 d] 216);refine x.cell ?_;rw[Lib.cell_of_heap hb];rfl
theorem numR_any (kind:Int)(b:Option Addr)(L:List Atr)(cap:Nat)(x:ByteArray)(w:World)(h:AtrIn w b L)(hL:L.length<=9223372036854775807)(hs:∀ q ∈ L,q.2.size<=4294967280):
  Calls Tryz.prog 94 #[.int .i64 kind,.slice b L.length cap,.string x] w fun e w'=>e=.returned (.int .i64 (numRT (knownT kind x.data.toList) (getT L x)))/\Ext w w':=by
 have hkn:=fun w=>known_any kind x w
 have hge:=fun w' (y:Ext w w')=>getR_any b L cap x w' (h.ext y) hL
 have hsz:=getT_mem L x 4294967280 hs;obtain⟨a,lo,hi,d,hr⟩:∃ a lo hi d,knownT kind x.data.toList=(a,lo,hi,d):=⟨_,_,_,_,rfl⟩;have hrn:=rule_new;rw[hr] at hkn ⊢;obtain⟨s,is,hG⟩:∃ s is,getT L x=(s,is):=⟨_,_,rfl⟩;rw[hG] at hge hsz ⊢;have hva:=fun w=>value_any a lo hi d s w hsz
 unfold knownV at hkn hva;dsimp only at hkn hge hva hsz;unfold numRT;dsimp only;obtain⟨n,ok,hv⟩:∃ n ok,valT (a,lo,hi,d) (parse s.data.toList)=(n,ok):=⟨_,_,rfl⟩;rw[hv] at hva ⊢;dsimp only at hva ⊢;have HKN:=hid hkn;have HRN:=hid hrn;clear hkn hrn hr hG hv hs h hsz hL;by_cases h23:a ≠ 2/\a ≠ 3
 ·rw[if_pos h23];obtain⟨f1,f1'⟩:=ne_facts h23.1;obtain⟨f2,f2'⟩:=ne_facts h23.2;clear h23 hge hva;go_enter Tryz.func94,Tryz.ntmps94;go_wp2_with (go_at_call 155;refine(HKN.out _).mono ?_;rintro e w1 ⟨rfl,x1⟩);go_returns;exact⟨rfl,x1.alloc _⟩
 rw[if_neg h23];have h23':a=2\/a=3:=by omega
 clear h23;cases is
 ·rw[if_pos rfl];have HGE:=hid hge;clear hge hva;rcases h23' with rfl | rfl
  all_goals
   go_enter Tryz.func94,Tryz.ntmps94;go_wp2_with (first | (go_at_call 155;refine(HKN.out _).mono ?_;rintro e w1 ⟨rfl,x1⟩) | (go_at_call 95;refine(HGE.out _ (x1.alloc _)).mono ?_;rintro e w2 ⟨rfl,rfl⟩));go_returns;exact⟨rfl,x1.alloc _⟩
 rw[if_neg (by decide)];cases ok
 all_goals
  first | rw[if_pos rfl] | rw[if_neg (by decide)]
  have HGE:=hid hge;have HVA:=hid hva;clear hge hva;rcases h23' with rfl | rfl
  all_goals
   go_enter Tryz.func94,Tryz.ntmps94;go_wp2_with (first | (go_at_call 155;refine(HKN.out _).mono ?_;rintro e w1 ⟨rfl,x1⟩) | (go_at_call 95;refine(HGE.out _ (x1.alloc _)).mono ?_;rintro e w2 ⟨rfl,rfl⟩) | (go_at_call 156;refine(HVA.out _).mono ?_;rintro e w3 ⟨rfl,x3⟩;have q3:=HRN.out w1 _ _ _ _ w3 x3));go_returns;exact⟨rfl,(x1.alloc _).trans x3⟩
end Go.Proofs.YtjaeedbjknejdaaGreatDoor.At
namespace Go.Proofs.YtjaeedbjknejdaaGreatDoor.At
open Go.RowKit Go.Lib Fx Lx
end Go.Proofs.YtjaeedbjknejdaaGreatDoor.At

namespace Go.Proofs.YtjaeedbjknejdaaGreatDoor.At
open Go.RowKit Go.Sort Go.Lib Go.Shelf Fx Lx
def ltK (x y:ByteArray):Bool:=decide (x.data.toList < y.data.toList)
theorem bytesLess_dec : ∀ x y:List UInt8,Op.bytesLess x y=decide (x < y)
 | [],[]=>by simp[Op.bytesLess]
 | _::_,[]=>by simp[Op.bytesLess]
 | [],_::_=>by simp[Op.bytesLess]
 | a::x,b::y=>by
  rw[Op.bytesLess,bytesLess_dec x y];simp only[List.cons_lt_cons_iff];by_cases h:a < b <;> by_cases h2:a=b <;> by_cases h3:x < y <;> simp[h,h2,h3]
theorem ltK_less (x y:ByteArray):Op.bytesLess x.toList y.toList=ltK x y:=by
 unfold ltK;rw[bytesLess_dec,ByteArray.toList_eq,ByteArray.toList_eq]
theorem ltK_irrefl (x:ByteArray):ltK x x=false:=by
 unfold ltK;exact decide_eq_false (List.lt_irrefl _)
theorem ltK_trans {x y z:ByteArray}(h:ltK x y=true)(k:ltK y z=true):ltK x z=true:=by
 unfold ltK at *;exact decide_eq_true (List.lt_trans (of_decide_eq_true h) (of_decide_eq_true k))
theorem ltL_tri : ∀ a b:List UInt8,¬ a < b->¬ b < a->a=b
 | [],[],_,_=>rfl
 | [],_::_,h,_=>absurd (List.nil_lt_cons _ _) h
 | _::_,[],_,h=>absurd (List.nil_lt_cons _ _) h
 | a::xr,b::yr,h,k=>by
  rw[List.cons_lt_cons_iff] at h k;have hab:a=b:=UInt8.le_antisymm (UInt8.not_lt.1 fun e=>k (.inl e)) (UInt8.not_lt.1 fun e=>h (.inl e));subst hab;rw[ltL_tri xr yr (fun e=>h (.inr ⟨rfl,e⟩)) (fun e=>k (.inr ⟨rfl,e⟩))]
theorem ltK_tri {x y:ByteArray}(h:ltK x y=false)(k:ltK y x=false):x=y:=by
 unfold ltK at *;exact ByteArray.ext (Array.toList_inj.1 (ltL_tri _ _ (of_decide_eq_false h) (of_decide_eq_false k)))
theorem ltK_asymm {x y:ByteArray}(h:ltK x y=true):ltK y x=false:=by
 cases hk:ltK y x
 ·rfl
 have:=ltK_trans h hk;rw[ltK_irrefl] at this;cases this
theorem ltK_ne {x y:ByteArray}(h:ltK x y=true):x ≠ y:=fun e=>by subst e;rw[ltK_irrefl] at h;cases h
def Asc (L:List Atr):Prop:=L.Pairwise (fun p q=>ltK p.1 q.1=true)
def insT (a:Atr):List Atr->List Atr
 | []=>[a]
 | q::r=>if ltK q.1 a.1 then q::insT a r else if q.1=a.1 then a::r else a::q::r
theorem insT_mem (a p:Atr):∀ L:List Atr,p ∈ insT a L->p=a\/p ∈ L
 | [],h=>by simp[insT] at h;exact .inl h
 | q::r,h=>by
  unfold insT at h;by_cases h1:ltK q.1 a.1=true
  ·rw[if_pos h1] at h;rcases List.mem_cons.1 h with rfl | h
   ·exact .inr List.mem_cons_self
   exact(insT_mem a p r h).imp id (List.mem_cons_of_mem _)
  ·rw[if_neg h1] at h;by_cases h2:q.1=a.1
   ·rw[if_pos h2] at h;rcases List.mem_cons.1 h with rfl | h
    ·exact .inl rfl
    exact .inr (List.mem_cons_of_mem _ h)
   rw[if_neg h2] at h;rcases List.mem_cons.1 h with rfl | h
   ·exact .inl rfl
   exact .inr h
theorem insT_asc (a:Atr):∀ L:List Atr,Asc L->Asc (insT a L)
 | [],_=>by simp[insT,Asc]
 | q::r,h=>by
  have hq:=(List.pairwise_cons.1 h).1;have hr:=(List.pairwise_cons.1 h).2;unfold insT;by_cases h1:ltK q.1 a.1=true
  ·rw[if_pos h1];refine List.pairwise_cons.2 ⟨fun p hp=>?_,insT_asc a r hr⟩;rcases insT_mem a p r hp with rfl | hp
   ·exact h1
   exact hq p hp
  ·rw[if_neg h1];have h1':ltK q.1 a.1=false:=by simpa using h1
   by_cases h2:q.1=a.1
   ·rw[if_pos h2];exact List.pairwise_cons.2 ⟨fun p hp=>by rw[<-h2];exact hq p hp,hr⟩
   rw[if_neg h2]
   have h3:ltK a.1 q.1=true:=by
    cases hk:ltK a.1 q.1
    ·exact absurd (ltK_tri h1' hk) h2
    rfl
   refine List.pairwise_cons.2 ⟨fun p hp=>?_,h⟩;rcases List.mem_cons.1 hp with rfl | hp
   ·exact h3
   exact ltK_trans h3 (hq p hp)
theorem insT_iff (a p:Atr):∀ L:List Atr,Asc L->(p ∈ insT a L ↔ p=a\/(p ∈ L/\p.1 ≠ a.1))
 | [],_=>by simp[insT]
 | q::r,h=>by
  have hq:=(List.pairwise_cons.1 h).1;have hr:=(List.pairwise_cons.1 h).2;have ih:=insT_iff a p r hr;unfold insT;by_cases h1:ltK q.1 a.1=true
  ·rw[if_pos h1,List.mem_cons,ih,List.mem_cons];have:=ltK_ne h1;constructor
   ·rintro(rfl | rfl | ⟨h,k⟩)
    ·exact .inr ⟨.inl rfl,this⟩
    ·exact .inl rfl
    exact .inr ⟨.inr h,k⟩
   rintro(rfl | ⟨rfl | h,k⟩)
   ·exact .inr (.inl rfl)
   ·exact .inl rfl
   exact .inr (.inr ⟨h,k⟩)
  ·rw[if_neg h1];have h1':ltK q.1 a.1=false:=by simpa using h1
   by_cases h2:q.1=a.1
   ·rw[if_pos h2,List.mem_cons,List.mem_cons];constructor
    ·rintro(rfl | h)
     ·exact .inl rfl
     exact .inr ⟨.inr h,fun e=>ltK_ne (hq p h) (h2.trans e.symm)⟩
    rintro(rfl | ⟨rfl | h,k⟩)
    ·exact .inl rfl
    ·exact absurd h2 k
    exact .inr h
   rw[if_neg h2,List.mem_cons]
   have h3:ltK a.1 q.1=true:=by
    cases hk:ltK a.1 q.1
    ·exact absurd (ltK_tri h1' hk) h2
    rfl
   constructor
   ·rintro(rfl | hp)
    ·exact .inl rfl
    refine .inr ⟨hp,?_⟩;rcases List.mem_cons.1 hp with rfl | hp
    ·exact h2
    exact fun e=>ltK_ne (ltK_trans h3 (hq p hp)) e.symm
   rintro(rfl | ⟨h,_⟩)
   ·exact .inl rfl
   exact .inr h
def mrgT (L:List Atr):List Atr:=L.foldl (fun s a=>insT a s) []
theorem mrgT_snoc (L:List Atr)(a:Atr):mrgT (L++[a])=insT a (mrgT L):=by unfold mrgT;rw[List.foldl_append];rfl
theorem list_snoc_ind {α : Type}{p:List α -> Prop}(h0:p [])(h1:∀ L a,p L->p (L++[a])):∀ L,p L:=by
 intro L;rw[<-List.reverse_reverse L]
 induction L.reverse with
 | nil=>exact h0
 | cons a r ih=>rw[List.reverse_cons];exact h1 _ _ ih
theorem mrgT_asc : ∀ L:List Atr,Asc (mrgT L) :=
 list_snoc_ind (by simp[mrgT,Asc]) (fun L a h=>by rw[mrgT_snoc];exact insT_asc a _ h)
theorem mrgT_iff (x v:ByteArray):∀ L:List Atr,(x,v) ∈ mrgT L ↔ getT L x=(v,true) :=
 list_snoc_ind (by simp[mrgT,getT]) (fun L a ih=>by
  rw[mrgT_snoc,insT_iff _ _ _ (mrgT_asc L),ih,getT_snoc];obtain⟨a1,a2⟩:=a;by_cases h:a1=x
  ·subst h;rw[if_pos rfl];simp[eq_comm]
  rw[if_neg h];have h':x ≠ a1:=fun e=>h e.symm
  simp[h'])
theorem asc_get : ∀ (L:List Atr),Asc L->∀ x v,(x,v) ∈ L ↔ getT L x=(v,true) :=
 list_snoc_ind (by simp[getT]) (fun L a ih h x v=>by
  obtain⟨h1,_,h3⟩:=List.pairwise_append.1 h;rw[List.mem_append,ih h1,getT_snoc];obtain⟨a1,a2⟩:=a;by_cases he:a1=x
  ·subst he;rw[if_pos rfl];constructor
   ·rintro(hm | hm)
    ·have:=h3 (a1,v) ((ih h1 a1 v).2 hm) (a1,a2) (by simp);exact absurd rfl (ltK_ne this)
    simp at hm;rw[hm]
   intro e;simp at e;right;simp[e]
  rw[if_neg he];constructor
  ·rintro(hm | hm)
   ·exact hm
   simp at hm;exact absurd hm.1.symm he
  exact fun hm=>.inl hm)
theorem asc_ext : ∀ (L M:List Atr),Asc L->Asc M->(∀ p,p ∈ L ↔ p ∈ M)->L=M
 | [],[],_,_,_=>rfl
 | [],m::M,_,_,h=>by have:=(h m).2 List.mem_cons_self;cases this
 | l::L,[],_,_,h=>by have:=(h l).1 List.mem_cons_self;cases this
 | l::L,m::M,hl,hm,h=>by
  have hl1:=(List.pairwise_cons.1 hl).1;have hm1:=(List.pairwise_cons.1 hm).1
  have e:l=m:=by
   rcases List.mem_cons.1 ((h l).1 List.mem_cons_self) with e | h1
   ·exact e
   rcases List.mem_cons.1 ((h m).2 List.mem_cons_self) with e | h2
   ·exact e.symm
   have a1:=hm1 l h1;have a2:=hl1 m h2;rw[ltK_asymm a1] at a2;cases a2
  subst e;rw[asc_ext L M (List.pairwise_cons.1 hl).2 (List.pairwise_cons.1 hm).2 fun p=>?_];have hp:=h p;constructor
  ·intro k;rcases List.mem_cons.1 (hp.1 (List.mem_cons_of_mem _ k)) with rfl | k2
   ·exact absurd rfl (ltK_ne (hl1 _ k))
   exact k2
  ·intro k;rcases List.mem_cons.1 (hp.2 (List.mem_cons_of_mem _ k)) with rfl | k2
   ·exact absurd rfl (ltK_ne (hm1 _ k))
   exact k2
theorem mrgT_is (L R:List Atr)(h:Asc R)(hm:∀ x v,(x,v) ∈ R ↔ getT L x=(v,true)):R=mrgT L :=
 asc_ext _ _ h (mrgT_asc L) (fun⟨x,v⟩=>by rw[hm,mrgT_iff])
theorem getT_false {L:List Atr}{x:ByteArray}(h:(getT L x).2=false):getT L x=(⟨#[]⟩,false):=by
 unfold getT at *;split at h <;> simp_all
theorem getT_append (x:ByteArray)(L:List Atr):∀ M:List Atr,getT (L++M) x=if(getT M x).2 then getT M x else getT L x :=
 list_snoc_ind (by simp[getT]) (fun M a ih=>by
  rw[<-List.append_assoc,getT_snoc,ih,getT_snoc];by_cases h:a.1=x
  ·simp[h]
  simp[h])
def putS (a:Atr)(s:List Atr × Bool)(q:Atr):List Atr × Bool :=
 let s1:=if(!s.2 && !ltK q.1 a.1)=true then (s.1++[a],true) else s
 if q.1=a.1 then s1 else (s1.1++[q],s1.2)
def putF (a:Atr)(L:List Atr):List Atr × Bool:=L.foldl (putS a) ([],false)
def putT (a:Atr)(L:List Atr):List Atr:=if(putF a L).2 then (putF a L).1 else (putF a L).1++[a]
theorem putF_snoc (a:Atr)(L:List Atr)(q:Atr):putF a (L++[q])=putS a (putF a L) q:=by unfold putF;rw[List.foldl_append];rfl
theorem putT_go (a:Atr):∀ (L:List Atr) (out:List Atr),Asc L->(let s:=L.foldl (putS a) (out,false);if s.2 then s.1 else s.1++[a])=out++insT a L
 | [],out,_=>by simp[insT]
 | q::r,out,h=>by
  have hq:=(List.pairwise_cons.1 h).1;have hr:=(List.pairwise_cons.1 h).2
  have done:∀ (M out:List Atr),(∀ p ∈ M,p.1 ≠ a.1)->M.foldl (putS a) (out,true)=(out++M,true):=by
   intro M
   induction M with
   | nil=>intro out _;simp
   | cons m M ih =>
    intro out hm;rw[List.foldl_cons];have:putS a (out,true) m=(out++[m],true):=by simp[putS,hm m List.mem_cons_self]
    rw[this,ih _ (fun p hp=>hm p (List.mem_cons_of_mem _ hp))];simp
  unfold insT;by_cases h1:ltK q.1 a.1=true
  ·rw[if_pos h1];have hs:putS a (out,false) q=(out++[q],false):=by simp[putS,h1,ltK_ne h1]
   rw[List.foldl_cons,hs,putT_go a r _ hr];simp
  ·rw[if_neg h1];have h1':ltK q.1 a.1=false:=by simpa using h1
   by_cases h2:q.1=a.1
   ·rw[if_pos h2];have hs:putS a (out,false) q=(out++[a],true):=by simp[putS,h2,ltK_irrefl]
    rw[List.foldl_cons,hs,done r _ (fun p hp e=>ltK_ne (hq p hp) (h2.trans e.symm))];simp
   rw[if_neg h2]
   have h3:ltK a.1 q.1=true:=by
    cases hk:ltK a.1 q.1
    ·exact absurd (ltK_tri h1' hk) h2
    rfl
   have hs:putS a (out,false) q=(out++[a]++[q],true):=by simp[putS,h1',h2]
   rw[List.foldl_cons,hs,done r _ (fun p hp e=>ltK_ne (ltK_trans h3 (hq p hp)) e.symm)];simp
theorem putT_ins (a:Atr)(L:List Atr)(h:Asc L):putT a L=insT a L:=by
 unfold putT putF;exact putT_go a L [] h
end Go.Proofs.YtjaeedbjknejdaaGreatDoor.At
namespace Go.Proofs.YtjaeedbjknejdaaGreatDoor.At
open Go.RowKit Go.Sort Go.Lib Go.Shelf Fx Lx
theorem scan_full {p:Nat->Bool}:∀ (f n:Nat),scan p f n=n+f->∀ k,n<=k->k < n+f->p k=true
 | 0,n,_,k,h1,h2=>by omega
 | f+1,n,h,k,h1,h2=>by
  have h':(if p n then scan p f (n+1) else n)=n+(f+1):=h;cases hp:p n
  ·rw[hp,if_neg (by decide)] at h';omega
  ·rw[hp,if_pos rfl] at h';by_cases e:k=n
   ·rw[e];exact hp
   exact scan_full f (n+1) (by omega) k (by omega) (by omega)
theorem okT_L {b:UInt8}(h:isL b=true):okT b=true:=by
 unfold isL at h;unfold okT;simp only[Bool.or_eq_true,Bool.and_eq_true,decide_eq_true_eq] at h ⊢;omega
theorem okT_D {b:UInt8}(h:isD b=true):okT b=true:=by
 unfold isD at h;unfold okT;simp only[Bool.and_eq_true,decide_eq_true_eq] at h ⊢;omega
theorem bt_get (l:List UInt8)(k:Nat)(h:k < l.length):bt l k=l[k]:=by
 unfold bt;rw[List.getElem?_eq_getElem h];rfl
theorem name_text (l:List UInt8)(h:nameB l=true):l.all okT=true:=by
 unfold nameB at h;simp only[Bool.and_eq_true,decide_eq_true_eq] at h;have hw:=scan_full (p:=okW l) l.length 0 (by have:=h.1.2;unfold wordN at this;omega);rw[List.all_eq_true];intro b hb;obtain⟨k,hk,rfl⟩:=List.getElem_of_mem hb;have hk2:=hw k (Nat.zero_le _) (by omega);unfold okW at hk2;rw[bt_get l k hk,Bool.or_eq_true] at hk2;rcases hk2 with h1 | h1
 ·exact okT_L h1
 rw[Bool.and_eq_true] at h1;exact okT_D h1.2
theorem side_text (s:ByteArray)(h:0<=sideN s):s.data.toList.all okT=true:=by
 unfold sideN Lib.idxOfS sidesL at h;simp only[Lib.idxFromS] at h
 repeat' split at h
 all_goals first
  | (rename_i e;first | (have e':=eq_of_beq e;subst e';decide) | (subst e;decide))
  | (exact absurd h (by decide))
theorem gap_text (p:ByteArray)(h:0<=gapN p)(h1:(nmOf p).data.toList.all okT=true)(h2:(wdOf p).data.toList.all okT=true):p.data.toList.all okT=true:=by
 unfold nmOf at h1;unfold wdOf at h2;unfold gapN at h h1 h2;rcases Lib.index_spec p.data.toList [32] with⟨e,_⟩ | ⟨i,e,hi,ho,_⟩
 ·rw[e] at h;exact absurd h (by decide)
 rw[e,Int.toNat_natCast] at h1 h2;rw[extract_from_zero] at h1;rw[extract_from] at h2
 have hd:p.data.toList.drop i=32::p.data.toList.drop (i+1):=by
  unfold Lib.occAt at ho;cases hc:p.data.toList.drop i with
  | nil=>rw[hc] at ho;exact absurd ho (by decide)
  | cons b r =>
   rw[hc] at ho
   have hb:b=32:=by
    simp only[List.isPrefixOf,Bool.and_true,beq_iff_eq] at ho;exact ho.symm
   have hr:r=p.data.toList.drop (i+1):=by
    rw[<-List.drop_drop,hc];rfl
   rw[hb,hr]
 rw[<-List.take_append_drop i p.data.toList,List.all_append,hd,List.all_cons,h1,h2]
 decide
theorem ports_text : ∀ (l:List ByteArray) (out:List Prt),(portsGo l out).2=0->∀ p ∈ l,p.data.toList.all okT=true
 | [],_,_,p,hp=>by cases hp
 | q::r,out,h,p,hp=>by
  unfold portsGo at h;by_cases c1:gapN q < 0
  ·rw[if_pos c1] at h;exact absurd h (by decide)
  rw[if_neg c1] at h;by_cases c2:sideN (wdOf q) < 0
  ·rw[if_pos c2] at h;exact absurd h (by decide)
  rw[if_neg c2] at h;by_cases c3:nameB (nmOf q).data.toList=false
  ·rw[if_pos c3] at h;exact absurd h (by decide)
  rw[if_neg c3] at h;by_cases c4:hasN out (nmOf q)=true
  ·rw[if_pos c4] at h;exact absurd h (by decide)
  rw[if_neg c4] at h;by_cases c5:out.length=8
  ·rw[if_pos c5] at h;exact absurd h (by decide)
  rw[if_neg c5] at h;rcases List.mem_cons.1 hp with rfl | hp
  ·exact gap_text p (by omega) (name_text _ (by simpa using c3)) (side_text _ (by omega))
  ·exact ports_text r _ h p hp
theorem ext_text (s:ByteArray)(a b:Nat)(h:(s.extract a b).data.toList.all okT=true)(j:Nat)(h1:a<=j)(h2:j < b)(h3:b<=s.size):okT (bt s.data.toList j)=true:=by
 have hj:j < s.data.toList.length:=by rw[<-size_len];omega
 rw[bt_get _ _ hj];refine List.all_eq_true.1 h _ ?_
 have e:(s.extract a b).data.toList=(s.data.toList.drop a).take (b - a):=by
  rw[ByteArray.data_extract,Array.toList_extract,List.extract_eq_take_drop]
 rw[e];refine List.mem_of_getElem? (i:=j - a) ?_;rw[List.getElem?_take_of_lt (by omega),List.getElem?_drop,show a+(j - a)=j by omega,List.getElem?_eq_getElem hj]
theorem split_text (s:ByteArray):∀ (f a i:Nat),a<=i->i<=s.size->s.size<=i+f->(∀ p ∈ splitFrom s a i f,p.data.toList.all okT=true)->∀ j,a<=j->j < s.size->okT (bt s.data.toList j)=true
 | 0,a,i,h1,h2,h3,h,j,hj,hj2=>ext_text s a s.size (h _ (by unfold splitFrom;exact List.mem_cons_self)) j hj hj2 (Nat.le_refl _)
 | f+1,a,i,h1,h2,h3,h,j,hj,hj2=>by
  unfold splitFrom at h;by_cases c1:i+1 < s.size
  ·rw[if_pos c1] at h;by_cases c2:bt s.data.toList i=44/\bt s.data.toList (i+1)=32
   ·rw[if_pos c2] at h;by_cases c3:j < i
    ·exact ext_text s a i (h _ List.mem_cons_self) j hj c3 h2
    by_cases c4:j=i
    ·rw[c4,c2.1];decide
    by_cases c5:j=i+1
    ·rw[c5,c2.2];decide
    exact split_text s f (i+2) (i+2) (Nat.le_refl _) (by omega) (by omega) (fun p hp=>h p (List.mem_cons_of_mem _ hp)) j (by omega) hj2
   rw[if_neg c2] at h;exact split_text s f a (i+1) (by omega) (by omega) (by omega) h j hj hj2
  ·rw[if_neg c1] at h;exact ext_text s a s.size (h _ List.mem_cons_self) j hj hj2 (Nat.le_refl _)
theorem portsV_text (s:ByteArray)(h:(portsV s).2=0):s.data.toList.all okT=true:=by
 unfold portsV at h;by_cases c:s.size=0
 ·have:s.data.toList=[]:=List.eq_nil_of_length_eq_zero (by rw[<-size_len];exact c);rw[this];rfl
 rw[if_neg c,<- split_all s s.size (Nat.le_refl _)] at h;have hp:=ports_text _ _ h;rw[List.all_eq_true];intro b hb;obtain⟨k,hk,rfl⟩:=List.getElem_of_mem hb;have:=split_text s s.size 0 0 (Nat.le_refl _) (Nat.zero_le _) (by omega) hp k (Nat.zero_le _) (by rw[size_len];exact hk)
 rwa [bt_get _ _ hk] at this
def RK (r k:Rul):Prop :=
 (r.1=0/\k.1=0)\/(r.1=1/\k.1=1)\/(r.1=2/\k.1=4)\/(r.1=5/\k.1=5) \/
 (r.1=3/\k.1=2/\r.2=k.2/\0<=k.2.1/\k.2.1<=k.2.2.2/\k.2.2.2<=k.2.2.1/\k.2.2.1=1048576) \/
 (r.1=4/\k.1=3/\r.2.1=1000 * k.2.1/\r.2.2.1=1000 * k.2.2.1/\r.2.2.2=1000 * k.2.2.2/\0<=k.2.1/\k.2.1<=k.2.2.2/\k.2.2.2<=k.2.2.1/\k.2.2.1<=1000)
theorem rule_known (kind:Int)(l:List UInt8):RK (ruleT kind l) (knownT kind l):=by
 unfold ruleT knownT;by_cases h1:kind=1
 ·rw[if_pos h1,if_pos h1];unfold nodeR nodeK
  repeat' split
  all_goals (unfold RK;decide)
 rw[if_neg h1,if_neg h1];by_cases h2:kind=2
 ·rw[if_pos h2,if_pos h2];unfold edgeR edgeK
  repeat' split
  all_goals (unfold RK;decide)
 rw[if_neg h2,if_neg h2];by_cases h4:kind=4
 ·rw[if_pos h4,if_pos h4];unfold setR setK
  repeat' split
  all_goals (unfold RK;decide)
 rw[if_neg h4,if_neg h4];unfold RK;decide
theorem modes_contains (v:ByteArray):Lib.containsS modesL v=decide (0<=modeN v):=rfl
theorem val_acc3 (r k:Rul)(T:Int × Int)(h1:r.1=3)(h2:k.1=2)(h3:r.2=k.2):accN r T=(valT k T).2:=by
 unfold accN valT valN;rw[h1,h2,h3];by_cases c:T.2=0 <;> simp[c]
theorem val_acc4 (r k:Rul)(T:Int × Int)(h1:r.1=4)(h2:k.1=3)(h3:r.2.1=1000 * k.2.1)(h4:r.2.2.1=1000 * k.2.2.1):accN r T=(valT k T).2:=by
 unfold accN valT valN;rw[h1,h2,h3,h4];by_cases c:T.2=0
 ·by_cases c2:T.1.tmod 1000=0
  ·have e:=Int.tmod_add_mul_tdiv T.1 1000;rw[c2] at e;simp only[c,c2];have e1:(1000 * k.2.1<=T.1) ↔ (k.2.1<=T.1.tdiv 1000):=by omega
   have e2:(T.1<=1000 * k.2.2.1) ↔ (T.1.tdiv 1000<=k.2.2.1):=by omega
   simp[e1,e2]
  simp[c,c2]
 simp[c]
theorem acc_ok (r k:Rul)(v:ByteArray)(h:RK r k)(h0:r.1 ≠ 0)(h32:r.1=1->v.size<=32):accB r v=okR k v:=by
 unfold accB okR;rcases h with⟨a,b⟩ | ⟨a,b⟩ | ⟨a,b⟩ | ⟨a,b⟩ | ⟨a,b,c,_⟩ | ⟨a,b,c,d,_⟩
 ·exact absurd a h0
 ·rw[if_pos a,if_pos b];unfold textB;rw[decide_eq_true (h32 a),Bool.true_and]
 ·rw[a,b];simp only[show((2:Int)=1)=False from by simp,show((4:Int)=1)=False from by simp,show((4:Int)=2\/(4:Int)=3)=False from by simp,if_false,if_true];unfold textB;by_cases c:(portsV v).2=0
  ·rw[portsV_text v c,decide_eq_true c];simp
  rw[decide_eq_false c];simp
 ·rw[a,b,modes_contains];rfl
 ·have e:=val_acc3 r k (parse v.data.toList) a b c;rw[if_neg (by omega),if_neg (by omega),if_neg (by omega),if_neg (by omega),if_pos (.inl b)];exact e
 have e:=val_acc4 r k (parse v.data.toList) a b c d;rw[if_neg (by omega),if_neg (by omega),if_neg (by omega),if_neg (by omega),if_pos (.inr b)];exact e
theorem check_same (kind:Int)(k v:ByteArray):checkV kind k v=checkRV kind k v:=by
 unfold checkV checkRV;have hrk:=rule_known kind k.data.toList;have h0:(ruleT kind k.data.toList).1=0 ↔ (knownT kind k.data.toList).1=0:=by unfold RK at hrk;omega
 have h1:(ruleT kind k.data.toList).1=1 ↔ (knownT kind k.data.toList).1=1:=by unfold RK at hrk;omega
 by_cases c0:knownB kind=false
 ·rw[if_pos c0,if_pos c0]
 rw[if_neg c0,if_neg c0];have n1:(ruleT kind k.data.toList).1 ≠ 0->¬ (knownT kind k.data.toList).1=0:=fun h e=>h (h0.2 e)
 have n2:¬ ((ruleT kind k.data.toList).1=1/\32 < v.size)->¬ ((knownT kind k.data.toList).1=1/\32 < v.size):=fun h e=>h ⟨h1.2 e.1,e.2⟩
 by_cases c1:(ruleT kind k.data.toList).1=0
 ·rw[if_pos c1,if_pos (h0.1 c1)]
 rw[if_neg c1,if_neg (n1 c1)];by_cases c2:(ruleT kind k.data.toList).1=1/\32 < v.size
 ·rw[if_pos c2,if_pos ⟨h1.1 c2.1,c2.2⟩]
 rw[if_neg c2,if_neg (n2 c2)];rw[acc_ok _ _ v hrk c1 (fun e=>by by_cases c3:32 < v.size;exact absurd ⟨e,c3⟩ c2;omega)]
def numT (r:Rul)(G:ByteArray × Bool):Int :=
 if r.1 ≠ 3/\r.1 ≠ 4 then 0 else if r.1=4 then (if G.2 && accB r G.1 then (parse G.1.data.toList).1 else r.2.2.2).tdiv 1000 else (if G.2 && accB r G.1 then (parse G.1.data.toList).1 else r.2.2.2)
theorem num_same (kind:Int)(l:List UInt8)(G:ByteArray × Bool):numT (ruleT kind l) G=numRT (knownT kind l) G:=by
 have hrk:=rule_known kind l;generalize ruleT kind l=r at hrk ⊢;generalize knownT kind l=k at hrk ⊢;have ho:=fun h0 h1=>acc_ok r k G.1 hrk h0 h1
 unfold numT numRT;rcases hrk with⟨a,b⟩ | ⟨a,b⟩ | ⟨a,b⟩ | ⟨a,b⟩ | ⟨a,b,c,_⟩ | ⟨a,b,c,d,e,_⟩
 ·rw[if_pos (show r.1 ≠ 3/\r.1 ≠ 4 by omega),if_pos (show k.1 ≠ 2/\k.1 ≠ 3 by omega)]
 ·rw[if_pos (show r.1 ≠ 3/\r.1 ≠ 4 by omega),if_pos (show k.1 ≠ 2/\k.1 ≠ 3 by omega)]
 ·rw[if_pos (show r.1 ≠ 3/\r.1 ≠ 4 by omega),if_pos (show k.1 ≠ 2/\k.1 ≠ 3 by omega)]
 ·rw[if_pos (show r.1 ≠ 3/\r.1 ≠ 4 by omega),if_pos (show k.1 ≠ 2/\k.1 ≠ 3 by omega)]
 ·rw[if_neg (show ¬ (r.1 ≠ 3/\r.1 ≠ 4) by omega),if_neg (show ¬ r.1=4 by omega),if_neg (show ¬ (k.1 ≠ 2/\k.1 ≠ 3) by omega)];have ho':=ho (by omega) (by omega);unfold okR at ho';rw[if_neg (show ¬ k.1=1 by omega),if_pos (.inl b)] at ho';rw[ho'];cases hg:G.2
  ·simp[c]
  cases hv:(valT k (parse G.1.data.toList)).2
  ·simp[c]
  simp only[Bool.and_self,if_true];unfold valT valN at hv ⊢;by_cases hz:(parse G.1.data.toList).2=0
  ·simp[hz,b]
  simp[hz] at hv
 rw[if_neg (show ¬ (r.1 ≠ 3/\r.1 ≠ 4) by omega),if_pos a,if_neg (show ¬ (k.1 ≠ 2/\k.1 ≠ 3) by omega)];have ho':=ho (by omega) (by omega);unfold okR at ho';rw[if_neg (show ¬ k.1=1 by omega),if_pos (.inr b)] at ho';rw[ho'];cases hg:G.2
 ·simp[e]
 cases hv:(valT k (parse G.1.data.toList)).2
 ·simp[e]
 simp only[Bool.and_self,if_true];unfold valT valN at hv ⊢;by_cases hz:(parse G.1.data.toList).2=0
 ·by_cases hm:(parse G.1.data.toList).1.tmod 1000=0
  ·simp[hz,b,hm]
  simp[hz,b,hm] at hv
 simp[hz] at hv
end Go.Proofs.YtjaeedbjknejdaaGreatDoor.At
namespace Go.Proofs.YtjaeedbjknejdaaGreatDoor.At
open Go.RowKit Go.Sort Go.Lib Go.Shelf Fx Lx
attribute [local go_sem] Oper.semAt_some
end Go.Proofs.YtjaeedbjknejdaaGreatDoor.At
namespace Go.Proofs.YtjaeedbjknejdaaGreatDoor.At
open Go.RowKit Go.Sort Go.Lib Go.Shelf Fx Lx
attribute [local go_sem] Oper.semAt_some
end Go.Proofs.YtjaeedbjknejdaaGreatDoor.At
namespace Go.Proofs.YtjaeedbjknejdaaGreatDoor.At
open Go.RowKit Go.Sort Go.Lib Go.Shelf Fx Lx
end Go.Proofs.YtjaeedbjknejdaaGreatDoor.At

namespace Go.Proofs.YtjaeedbjknejdaaGreatDoor.Nm
open Go.Lib Fx Lx At
structure Nd where
 name:ByteArray
 label:ByteArray
 w:Int
 h:Int
 c:Int
 ports:List Prt
structure Ed where
 a:Int
 b:Int
 ap:Int
 bp:Int
 label:ByteArray
 wt:Int
 len:Int
structure Gr where
 name:ByteArray
 dir:Bool
 N:List Nd
 E:List Ed
 C:List (ByteArray × Int)
end Go.Proofs.YtjaeedbjknejdaaGreatDoor.Nm

namespace Go.Proofs.YtjaeedbjknejdaaGreatDoor.Nm
open Go.Lib Fx Lx Tr At
def nodeW : List UInt8:=[110,111,100,101]
def kindS (x:Stm):Int:=if x.kind=3 then (if x.name.data.toList=nodeW then 1 else 2) else x.kind
def chkGo (kind:Int)(key:Option ByteArray):List Two->Int
 | []=>0
 | q::r=>if checkV kind (key.getD q.1) q.2 ≠ 0 then checkV kind (key.getD q.1) q.2 else chkGo kind key r
def chkS (x:Stm):Int:=chkGo (kindS x) (if kindS x=4 then some x.name else none) x.attrs
structure Lk where
 a:Nat
 ap:ByteArray
 b:Nat
 bp:ByteArray
 at':List Two
structure St where
 N:List (ByteArray × Int)
 A:List (List Two)
 C:List (ByteArray × Int)
 K:List Lk
structure Pl where
 c:Int
 n:List Two
 e:List Two
def St.taken (S:St)(n:ByteArray):Bool:=S.C.any fun q=>decide (q.1=n)
def idxGo (n:ByteArray):Nat->List (ByteArray × Int)->Option Nat
 | _,[]=>none
 | k,q::r=>if q.1=n then some k else idxGo n (k+1) r
def St.idx (S:St)(n:ByteArray):Option Nat:=idxGo n 0 S.N
def ment (n:ByteArray)(p:Pl)(S:St):Except Int (Nat × St) :=
 if S.taken n=true then .error 6
 else match S.idx n with
  | some v=>.ok (v,S)
  | none=>.ok (S.N.length,{ S with N:=S.N++[(n,p.c)],A:=S.A++[p.n] })
def chainT (own:List Two)(p:Pl):List Two->Option (Nat × ByteArray)->St->Except Int St
 | [],_,S=>.ok S
 | r::rs,last,S =>
  match ment r.1 p S with
  | .error e=>.error e
  | .ok (v,S)=>chainT own p rs (some (v,r.2)) (match last with | none=>S | some l=>{ S with K:=S.K++[⟨l.1,l.2,v,r.2,own⟩] })
mutual
def blkS (p:Pl)(S:St):Stm->Except Int (Pl × St)
 | .mk k n rs al b =>
  if chkS (.mk k n rs al b) ≠ 0 then .error (chkS (.mk k n rs al b))
  else if k=1 then
   match ment n p S with
   | .error e=>.error e
   | .ok (v,S)=>.ok (p,{ S with A:=S.A.set v (mrgT (S.A.getD v []++al)) })
  else if k=2 then
   match chainT (mrgT (p.e++al)) p rs none S with
   | .error e=>.error e
   | .ok S=>.ok (p,S)
  else if k=3 then (if n.data.toList=nodeW then .ok ({ p with n:=mrgT (p.n++al) },S) else .ok ({ p with e:=mrgT (p.e++al) },S))
  else if k=5 then
   if(S.idx n).isSome=true\/S.taken n=true then .error 6
   else match blkL { p with c:=S.C.length } { S with C:=S.C++[(n,p.c)] } b with
    | .error e=>.error e
    | .ok S=>.ok (p,S)
  else .ok (p,S)
def blkL (p:Pl)(S:St):List Stm->Except Int St
 | []=>.ok S
 | x::r =>
  match blkS p S x with
  | .error e=>.error e
  | .ok (p,S)=>blkL p S r
end
def kLabel : ByteArray:=⟨#[108,97,98,101,108]⟩
def kWidth : ByteArray:=⟨#[119,105,100,116,104]⟩
def kHeight : ByteArray:=⟨#[104,101,105,103,104,116]⟩
def kPorts : ByteArray:=⟨#[112,111,114,116,115]⟩
def kWeight : ByteArray:=⟨#[119,101,105,103,104,116]⟩
def kLen : ByteArray:=⟨#[108,101,110]⟩
def labelT (l:List Two)(o:ByteArray):ByteArray:=if(getT l kLabel).2=true then (getT l kLabel).1 else o
def numK (kind:Int)(l:List Two)(x:ByteArray):Int:=numT (ruleT kind x.data.toList) (getT l x)
def finN (q:ByteArray × Int)(l:List Two):Nd:=⟨q.1,labelT l q.1,numK 1 l kWidth,numK 1 l kHeight,q.2,(portsV (getT l kPorts).1).1⟩
def portGo (n:ByteArray):Int->List Prt->Int
 | _,[] => -2
 | k,q::r=>if q.1=n then k else portGo n (k+1) r
def portT (l:List Prt)(n:ByteArray):Int:=if n.size=0 then -1 else portGo n 0 l
def finE (L:List Nd)(x:Lk):Option Ed :=
 let f:=portT ((L[x.a]?.map Nd.ports).getD []) x.ap;let t:=portT ((L[x.b]?.map Nd.ports).getD []) x.bp
 if f = -2\/t = -2 then none else some ⟨x.a,x.b,f,t,labelT x.at' ⟨#[]⟩,numK 2 x.at' kWeight,numK 2 x.at' kLen⟩
def finEs (L:List Nd):List Lk->Option (List Ed)
 | []=>some []
 | x::r=>match finE L x with
  | none=>none
  | some e=>(finEs L r).map (e :: ·)
def finNs : List (ByteArray × Int)->List (List Two)->List Nd
 | q::r,l::s=>finN q l::finNs r s
 | _,_=>[]
def labE (s:ByteArray):Int:=if 32 < s.size then 2 else if s.data.toList.all Tr.okT=false then 7 else 0
def prtGo : List Prt->List Prt->Int
 | [],_=>0
 | q::r,done=>if nameB q.1.data.toList=false then 5 else if done.any (fun p=>decide (p.1=q.1))=true then 6 else if q.2 < 0\/3 < q.2 then 7 else prtGo r (done++[q])
def prtE (l:List Prt):Int:=if 8 < l.length then 2 else prtGo l []
def ndE (nc:Nat)(done:List Nd)(x:Nd):Int :=
 if nameB x.name.data.toList=false then 5
 else if done.any (fun p=>decide (p.name=x.name))=true then 6
 else if labE x.label ≠ 0 then labE x.label
 else if x.w < 1\/1048576 < x.w\/x.h < 1\/1048576 < x.h\/x.c < -1\/(nc:Int)<=x.c then 3
 else prtE x.ports
def ndsE (nc:Nat):List Nd->List Nd->Int
 | [],_=>0
 | x::r,done=>if ndE nc done x ≠ 0 then ndE nc done x else ndsE nc r (done++[x])
def depT (C:List (ByteArray × Int)):Nat->Int->Nat
 | 0,_=>0
 | f+1,c=>if c < 0 then 0 else 1+depT C f ((C[c.toNat]?.map Prod.snd).getD (-1))
def clE (N:List Nd)(C:List (ByteArray × Int))(i:Nat)(x:ByteArray × Int):Int :=
 if nameB x.1.data.toList=false then 5
 else if N.any (fun p=>decide (p.name=x.1))=true\/(C.take i).any (fun p=>decide (p.1=x.1))=true then 6
 else if x.2 < -1\/(i:Int)<=x.2 then 3
 else if 6 < depT C (i+1) i then 2 else 0
def clsE (N:List Nd)(C:List (ByteArray × Int)):Nat->List (ByteArray × Int)->Int
 | _,[]=>0
 | i,x::r=>if clE N C i x ≠ 0 then clE N C i x else clsE N C (i+1) r
def portsOf (N:List Nd)(v:Int):Nat:=((N[v.toNat]?.map Nd.ports).getD []).length
def edE (N:List Nd)(x:Ed):Int :=
 if x.a < 0\/x.b < 0\/(N.length:Int)<=x.a\/(N.length:Int)<=x.b\/x.ap < -1\/x.bp < -1\/(portsOf N x.a:Int)<=x.ap\/(portsOf N x.b:Int)<=x.bp then 3
 else if labE x.label ≠ 0 then labE x.label
 else if x.wt < 1\/1000 < x.wt\/x.len < 1\/64 < x.len then 7 else 0
def edsE (N:List Nd):List Ed->Int
 | []=>0
 | x::r=>if edE N x ≠ 0 then edE N x else edsE N r
def grE (g:Gr):Int :=
 if 64 < g.N.length\/256 < g.E.length\/16 < g.C.length then 2
 else if nameB g.name.data.toList=false then 5
 else if ndsE g.C.length g.N [] ≠ 0 then ndsE g.C.length g.N []
 else if clsE g.N g.C 0 g.C ≠ 0 then clsE g.N g.C 0 g.C
 else edsE g.N g.E
def buildT (name:ByteArray)(dir:Bool)(body:List Stm):Except Int Gr :=
 if validE name body ≠ 0 then .error (validE name body)
 else match blkL ⟨-1,[],[]⟩ ⟨[],[],[],[]⟩ body with
  | .error e=>.error e
  | .ok S=>match finEs (finNs S.N S.A) S.K with
   | none=>.error 5
   | some E=>if grE ⟨name,dir,finNs S.N S.A,E,S.C⟩ ≠ 0 then .error (grE ⟨name,dir,finNs S.N S.A,E,S.C⟩) else .ok ⟨name,dir,finNs S.N S.A,E,S.C⟩
structure Op5 where
 mode:Int
 ns:Int
 rs:Int
 mg:Int
 rd:Int
def kMode : ByteArray:=⟨#[109,111,100,101]⟩
def kNs : ByteArray:=⟨#[110,111,100,101,115,101,112]⟩
def kRs : ByteArray:=⟨#[114,97,110,107,115,101,112]⟩
def kMg : ByteArray:=⟨#[109,97,114,103,105,110]⟩
def kRd : ByteArray:=⟨#[114,111,117,110,100,115]⟩
end Go.Proofs.YtjaeedbjknejdaaGreatDoor.Nm

namespace Go.Proofs.YtjaeedbjknejdaaGreatDoor.At
open Go.RowKit Go.Sort Go.Lib Go.Shelf Fx Lx
def atrC (p:Atr):List Value:=[.string p.1,.string p.2]
def atrsC (L:List Atr):List Value:=L.flatMap atrC
theorem atrsC_snoc (L:List Atr)(t:Atr):atrsC (L++[t])=atrsC L++atrC t:=by unfold atrsC;simp
theorem atrsC_at : ∀ (L:List Atr) (k:Nat) (h:k < L.length),(atrsC L)[k * 2]? = some (.string L[k].1)/\(atrsC L)[k * 2+1]? = some (.string L[k].2)
 | [],k,h=>by simp at h
 | t::r,0,_=>⟨rfl,rfl⟩
 | t::r,k+1,h=>by
  have ih:=atrsC_at r k (by simpa using h);have e:atrsC (t::r)=atrC t++atrsC r:=rfl;have hl:(atrC t).length=2:=rfl;rw[e,List.getElem?_append_right (by omega),List.getElem?_append_right (by omega),hl];rw[show(k+1) * 2 - 2=k * 2 by omega,show(k+1) * 2+1 - 2=k * 2+1 by omega];exact ih
theorem heap_ext {w w':World}{b:Nat}{o:Obj}(h:w.heap[b]? = some o)(x:Ext w w'):w'.heap[b]? = some o :=
 (x.block b (Array.getElem?_eq_some_iff.1 h).1).trans h
def NzA (w:World)(a:Option Addr)(c:Nat):Prop:=(a=none->c=0)/\∀ q,a=some q->∃ cs,w.heap[q.block]? = some (.cells cs 69 (0,0))
theorem NzA.ext {w w':World}{a:Option Addr}{c:Nat}(h:NzA w a c)(x:Ext w w'):NzA w' a c:=⟨h.1,fun q e=>by
 obtain⟨cs,hb⟩:=h.2 q e
 exact⟨cs,heap_ext hb x⟩⟩
theorem NzA.none (w:World):NzA w none 0:=⟨fun _=>rfl,fun q e=>by cases e⟩
theorem own_atrs {w:World}{B:Nat}{v:Value}{L:List Atr}(h:w.ownsRow B 69 2 v L.length (atrsC L)):∃ a c,v=.slice a L.length c/\AtrIn w a L/\NzA w a c:=by
 rcases h.2 with⟨h1,h2⟩ | ⟨g,cap,cur,hv,_,hg,_⟩
 ·have:L=[]:=List.eq_nil_of_length_eq_zero h2;subst this;exact⟨_,_,h1,(fun k hk=>absurd hk (by simp)),NzA.none _⟩
 refine⟨_,cap,hv,(fun k hk=>⟨g,0,rfl,?_,?_⟩),(fun e=>by cases e),(fun q e=>by cases e;exact⟨cur,hg⟩)⟩
 all_goals
  have hc:=fun j u hu=>h.cells (g:=g) (by rw[hv];rfl) j u hu
  have hat:=atrsC_at L k hk
 ·have h0:=hc _ _ hat.1;rw[add_at] at h0;exact h0
 have h0:=hc _ _ hat.2;rw[add_at] at h0;exact h0
def AtrRes (L:List Atr)(e:Ending)(w:World):Prop:=∃ a c,e=.returned (.slice a L.length c)/\AtrIn w a L/\NzA w a c
theorem info_atr : (Tryz.prog.info? 69).map (fun i=>(i.zero,i.size,i.bytes))=some (some (.agg #[.string ⟨#[]⟩,.string ⟨#[]⟩]),2,32):=by kernel_rfl
end Go.Proofs.YtjaeedbjknejdaaGreatDoor.At
namespace Go.Proofs.YtjaeedbjknejdaaGreatDoor.At
open Go.RowKit Go.Sort Go.Lib Go.Shelf Fx Lx
theorem geq_str (t:TypeId)(a b:ByteArray):binOp .geq t (.string a) (.string b)=pure (.bool !(Op.bytesLess a.toList b.toList)):=by simp[binOp,Op.stringOp]
theorem putS_ways (a q:Atr)(O:List Atr)(d:Bool):
  (d=true/\q.1=a.1/\putS a (O,d) q=(O,true))\/(d=true/\q.1 ≠ a.1/\putS a (O,d) q=(O++[q],true)) \/
  (d=false/\ltK q.1 a.1=true/\q.1 ≠ a.1/\putS a (O,d) q=(O++[q],false)) \/
  (d=false/\ltK q.1 a.1=false/\q.1=a.1/\putS a (O,d) q=(O++[a],true)) \/
  (d=false/\ltK q.1 a.1=false/\q.1 ≠ a.1/\putS a (O,d) q=(O++[a]++[q],true)):=by
 cases d
 ·cases hl:ltK q.1 a.1
  ·by_cases he:q.1=a.1
   ·exact .inr (.inr (.inr (.inl ⟨rfl,rfl,he,by simp[putS,he,ltK_irrefl]⟩)))
   exact .inr (.inr (.inr (.inr ⟨rfl,rfl,he,by simp[putS,he,hl]⟩)))
  have he:=ltK_ne hl;exact .inr (.inr (.inl ⟨rfl,rfl,he,by simp[putS,he,hl]⟩))
 by_cases he:q.1=a.1
 ·exact .inl ⟨rfl,he,by simp[putS,he]⟩
 exact .inr (.inl ⟨rfl,he,by simp[putS,he]⟩)
theorem box_atr (w:World)(k v:ByteArray):∀ w1,Ext (w.alloc (.cells #[.string k,.string v] 69)) w1->w1.cell? ⟨w.heap.size,0,none⟩=some (.string k)/\w1.cell? ⟨w.heap.size,1,none⟩=some (.string v):=fun w1 x=>by
 have hb:=heap_alloc_new w (.cells #[.string k,.string v] 69);exact⟨x.cell (by rw[Lib.cell_of_heap hb];rfl),x.cell (by rw[Lib.cell_of_heap hb];rfl)⟩
theorem own_grow {w0 w w':World}{B:Nat}{v:Value}{n:Nat}{xs:List Value}{T:TypeId}{s:Nat}(x:Ext w0 w)(h:w.ownsRow B T s v n xs)(hB:w0.heap.size<=B)(hg:w.grownBy w' v.ownBlock):Ext w0 w' :=
 Below.grown x hg x.size (fun k hk=>Nat.le_trans hB (h.lt k hk).1)
theorem put_any (b:Option Addr)(L:List Atr)(cap:Nat)(k v:ByteArray)(w:World)(h:AtrIn w b L)(hL:L.length<=1000000):
  Calls Tryz.prog 153 #[.slice b L.length cap,.agg #[.string k,.string v]] w fun e w'=>AtrRes (putT (k,v) L) e w'/\Ext w w':=by
 obtain⟨w1,hw1⟩:∃ w1,w1=w.alloc (.cells #[.string k,.string v] 69):=⟨_,rfl⟩;have hs1:w1.heap.size=w.heap.size+1:=by rw[hw1];simp
 have ho0:(w1.alloc (.cells #[] 69)).ownsRow w1.heap.size 69 2 (.slice (some ⟨w1.heap.size,0,none⟩) 0 0) 0 []:=World.ownsRow_made w1 #[] 0 (Nat.le_refl _) (by unfold maxLen;omega) rfl;have hx0:Ext w1 (w1.alloc (.cells #[] 69)):=(Ext.refl _).alloc _;have hxw:Ext w w1:=by rw[hw1];exact(Ext.refl _).alloc _
 have hbx:∀ w2,Ext w1 w2->w2.cell? ⟨w.heap.size,0,none⟩=some (.string k)/\w2.cell? ⟨w.heap.size,1,none⟩=some (.string v):=by rw[hw1];exact box_atr w k v
 obtain⟨N,hN⟩:∃ N,N=L.length:=⟨_,rfl⟩;rw[<-hN] at hL ⊢;have HN:=hid hN;have HI:=hid (h.ext hxw);have HO:=hid ho0;have HBX:=hid hbx;have HXW:=hid hxw;have HX0:=hid hx0;have HW1:=hid hw1;have HS1:=hid hs1;clear hN h ho0 hbx hxw hx0 hs1;obtain⟨i0,hi,hz0,hz1,hz2⟩:=info_parts info_atr;obtain⟨B,hB⟩:∃ B,B=w.heap.size:=⟨_,rfl⟩;have HBB:=hid hB;rw[<-hB] at HBX HS1;clear hw1;go_enter Tryz.func153,Tryz.ntmps153;go_wp2_with fail;rw[<-hB,<- HW1.out,<- HS1.out];clear hB
 go_loopw [5,6,7] (fun out dn i' wr=>∃ (j:Nat) (O:List Atr) (d:Bool) (g oc:Nat),j<=N/\i'=.int .i64 j/\dn=.bool d/\out=.slice (some ⟨g,0,none⟩) O.length oc/\wr.ownsRow w1.heap.size 69 2 (.slice (some ⟨g,0,none⟩) O.length oc) O.length (atrsC O)/\Ext w1 wr/\Hid (putF (k,v) (L.take j)=(O,d))/\O.length<=2 * j)
  (fun _ _ i' _=>N - (RowKit.intOf i').toNat)
 case atStart=>exact⟨0,[],false,w1.heap.size,0,by omega,rfl,rfl,rfl,HO.out,HX0.out,hid rfl,by simp⟩
 obtain⟨j,O,d,g,oc,hj,rfl,rfl,rfl,hown,hx,ha,hol⟩:=hrel;clear HO HX0;by_cases hlt:j < N
 ·have hjl:j < L.length:=by rw[<-HN.out];exact hlt
  have hst:putF (k,v) (L.take (j+1))=putS (k,v) (O,d) L[j]:=by
   rw[List.take_succ_eq_append_getElem hjl,putF_snoc,ha.out]
  obtain⟨gl,ol,hbe,-,-⟩:=(HI.out.ext hx) j hjl;subst hbe
  have HC:Hid (∀ w2,Ext w1 w2->w2.cell? ⟨gl,ol+j * 2,none⟩=some (.string L[j].1)/\w2.cell? ⟨gl,ol+j * 2+1,none⟩=some (.string L[j].2)):=hid (fun w2 x=>by
   obtain⟨g',o',e,c0,c1⟩:=(HI.out.ext x) j hjl;injection e with e;injection e with e1 e2 _;subst e1;subst e2
   exact⟨c0,c1⟩)
  have hw:=putS_ways (k,v) L[j] O d;obtain⟨n,hn⟩:∃ n,n=L[j].1:=⟨_,rfl⟩;obtain⟨dv,hdv⟩:∃ dv,dv=L[j].2:=⟨_,rfl⟩;have hq:L[j]=(n,dv):=by rw[hn,hdv]
  rw[hq] at hst hw HC;dsimp only at hw HC;have HST:=hid hst;have HW:=hid hw;have HA:=hid ha.out;clear ha hst hw hn hdv hq;have HX:=hid hx;have HOW:=hid hown;clear hx hown;rcases HW.out with⟨rfl,he,hr⟩ | ⟨rfl,he,hr⟩ | ⟨rfl,hl,he,hr⟩ | ⟨rfl,hl,he,hr⟩ | ⟨rfl,hl,he,hr⟩
  ·have g1:(n.toList == k.toList)=true:=by rw[beqs];exact decide_eq_true he
   have hf:=hid (HST.out.trans hr);obtain⟨c0,c1⟩:=HC.out _ HX.out;obtain⟨b0,b1⟩:=HBX.out _ HX.out;clear he hr HW HST HA;go_wp2
   go_quiet (fail)
   go_wp2
   go_quiet (fail)
   go_wp2
   go_roundw
   case rel=>exact⟨j+1,O,true,g,oc,by omega,by go_num,rfl,rfl,(own_ext HOW.out ((Ext.refl _).drewN _)),HX.out.drewN _,hf,by omega⟩
   case measure=>simp[RowKit.intOf];omega
  ·have g1:(n.toList == k.toList)=false:=by rw[beqs];exact decide_eq_false he
   have hf:=hid (HST.out.trans hr);obtain⟨c0,c1⟩:=HC.out _ HX.out;obtain⟨b0,b1⟩:=HBX.out _ HX.out;clear he hr HW HST HA;go_wp2
   go_quiet (fail)
   go_wp2
   go_quiet (fail)
   go_wp2_with (at_builtin;refine wpList_append_lies _ rfl _ _ 65 rfl w1.heap.size 69 i0 _ 2 32 Tryz.underlying65 hi hz0 hz1 hz2 rfl (by decide) _ _ _ rfl ((own_ext HOW.out ((Ext.refl _).drewN _)).alloc _) _ 1 1 (atrC (n,dv)) rfl rfl ?c1 ?c2 (by decide) ?c3 ?c4 ?c5 _ rfl ?_)
   case c1=>exact fun j u hj=>cell_new1 _ (atrC (n,dv)) 69 j u hj
   case c2=>intro u hu;simp[atrC] at hu;rcases hu with rfl | rfl <;> rfl
   case c3=>unfold maxLen;(try simp);omega
   case c4=>(try simp);omega
   case c5=>have h:=HX.out.size;(try simp);omega
   intro g4 cap4 w4 hown' hgrow _ _;have HX4:Hid (Ext w1 w4):=hid (own_grow ((HX.out.drewN _).alloc _) ((own_ext HOW.out ((Ext.refl _).drewN _)).alloc _) (Nat.le_refl _) hgrow);have HO4:Hid (w4.ownsRow w1.heap.size 69 2 (.slice (some ⟨g4,0,none⟩) (O.length+1) cap4) (O.length+1) (atrsC (O++[(n,dv)]))):=hid (by rw[atrsC_snoc];exact hown');clear hown' hgrow;obtain⟨c0,c1⟩:=HC.out _ HX4.out;obtain⟨b0,b1⟩:=HBX.out _ HX4.out;go_wp2
   go_roundw
   case rel=>exact⟨j+1,O++[(n,dv)],true,g4,cap4,by omega,by go_num,rfl,by rw[(show(O++[(n,dv)]).length=O.length+1 by simp)],by rw[(show(O++[(n,dv)]).length=O.length+1 by simp)];exact HO4.out,HX4.out,hf,by simp;omega⟩
   case measure=>simp[RowKit.intOf];omega
  ·have g1:(n.toList == k.toList)=false:=by rw[beqs];exact decide_eq_false he
   have g2:∀ t,binOp .geq t (.string n) (.string k)=pure (.bool (!true)):=fun t=>by rw[geq_str,ltK_less];exact congrArg (fun z=>(pure (Value.bool (!z)):Sem Value)) hl
   have hf:=hid (HST.out.trans hr);obtain⟨c0,c1⟩:=HC.out _ HX.out;obtain⟨b0,b1⟩:=HBX.out _ HX.out;clear he hr HW HST HA hl;go_wp2
   go_quiet (fail)
   go_wp2
   go_quiet (fail)
   go_wp2_with (at_builtin;refine wpList_append_lies _ rfl _ _ 65 rfl w1.heap.size 69 i0 _ 2 32 Tryz.underlying65 hi hz0 hz1 hz2 rfl (by decide) _ _ _ rfl ((own_ext HOW.out ((Ext.refl _).drewN _)).alloc _) _ 1 1 (atrC (n,dv)) rfl rfl ?c1 ?c2 (by decide) ?c3 ?c4 ?c5 _ rfl ?_)
   case c1=>exact fun j u hj=>cell_new1 _ (atrC (n,dv)) 69 j u hj
   case c2=>intro u hu;simp[atrC] at hu;rcases hu with rfl | rfl <;> rfl
   case c3=>unfold maxLen;(try simp);omega
   case c4=>(try simp);omega
   case c5=>have h:=HX.out.size;(try simp);omega
   intro g4 cap4 w4 hown' hgrow _ _;have HX4:Hid (Ext w1 w4):=hid (own_grow ((HX.out.drewN _).alloc _) ((own_ext HOW.out ((Ext.refl _).drewN _)).alloc _) (Nat.le_refl _) hgrow);have HO4:Hid (w4.ownsRow w1.heap.size 69 2 (.slice (some ⟨g4,0,none⟩) (O.length+1) cap4) (O.length+1) (atrsC (O++[(n,dv)]))):=hid (by rw[atrsC_snoc];exact hown');clear hown' hgrow;obtain⟨c0,c1⟩:=HC.out _ HX4.out;obtain⟨b0,b1⟩:=HBX.out _ HX4.out;go_wp2
   go_roundw
   case rel=>exact⟨j+1,O++[(n,dv)],false,g4,cap4,by omega,by go_num,rfl,by rw[(show(O++[(n,dv)]).length=O.length+1 by simp)],by rw[(show(O++[(n,dv)]).length=O.length+1 by simp)];exact HO4.out,HX4.out,hf,by simp;omega⟩
   case measure=>simp[RowKit.intOf];omega
  ·have g1:(n.toList == k.toList)=true:=by rw[beqs];exact decide_eq_true he
   have g2:∀ t,binOp .geq t (.string n) (.string k)=pure (.bool (!false)):=fun t=>by rw[geq_str,ltK_less];exact congrArg (fun z=>(pure (Value.bool (!z)):Sem Value)) hl
   have hf:=hid (HST.out.trans hr);obtain⟨c0,c1⟩:=HC.out _ HX.out;obtain⟨b0,b1⟩:=HBX.out _ HX.out;clear he hr HW HST HA hl;go_wp2
   go_quiet (fail)
   go_wp2_with (at_builtin;refine wpList_append_lies _ rfl _ _ 65 rfl w1.heap.size 69 i0 _ 2 32 Tryz.underlying65 hi hz0 hz1 hz2 rfl (by decide) _ _ _ rfl ((own_ext HOW.out ((Ext.refl _).drewN _)).alloc _) _ 1 1 (atrC (k,v)) rfl rfl ?c1 ?c2 (by decide) ?c3 ?c4 ?c5 _ rfl ?_)
   case c1=>exact fun j u hj=>cell_new1 _ (atrC (k,v)) 69 j u hj
   case c2=>intro u hu;simp[atrC] at hu;rcases hu with rfl | rfl <;> rfl
   case c3=>unfold maxLen;(try simp);omega
   case c4=>(try simp);omega
   case c5=>have h:=HX.out.size;(try simp);omega
   intro g3 cap3 w3 hown' hgrow _ _;have HX3:Hid (Ext w1 w3):=hid (own_grow ((HX.out.drewN _).alloc _) ((own_ext HOW.out ((Ext.refl _).drewN _)).alloc _) (Nat.le_refl _) hgrow);have HO3:Hid (w3.ownsRow w1.heap.size 69 2 (.slice (some ⟨g3,0,none⟩) (O.length+1) cap3) (O.length+1) (atrsC (O++[(k,v)]))):=hid (by rw[atrsC_snoc];exact hown');clear hown' hgrow;obtain⟨c0,c1⟩:=HC.out _ HX3.out;obtain⟨b0,b1⟩:=HBX.out _ HX3.out;go_wp2
   go_quiet (fail)
   go_wp2
   go_roundw
   case rel=>exact⟨j+1,O++[(k,v)],true,g3,cap3,by omega,by go_num,rfl,by rw[(show(O++[(k,v)]).length=O.length+1 by simp)],by rw[(show(O++[(k,v)]).length=O.length+1 by simp)];exact(own_ext HO3.out ((Ext.refl _).drewN _)),HX3.out.drewN _,hf,by simp;omega⟩
   case measure=>simp[RowKit.intOf];omega
  have g1:(n.toList == k.toList)=false:=by rw[beqs];exact decide_eq_false he
  have g2:∀ t,binOp .geq t (.string n) (.string k)=pure (.bool (!false)):=fun t=>by rw[geq_str,ltK_less];exact congrArg (fun z=>(pure (Value.bool (!z)):Sem Value)) hl
  have hf:=hid (HST.out.trans hr);obtain⟨c0,c1⟩:=HC.out _ HX.out;obtain⟨b0,b1⟩:=HBX.out _ HX.out;clear he hr HW HST HA hl;go_wp2
  go_quiet (fail)
  go_wp2_with (at_builtin;refine wpList_append_lies _ rfl _ _ 65 rfl w1.heap.size 69 i0 _ 2 32 Tryz.underlying65 hi hz0 hz1 hz2 rfl (by decide) _ _ _ rfl ((own_ext HOW.out ((Ext.refl _).drewN _)).alloc _) _ 1 1 (atrC (k,v)) rfl rfl ?c1 ?c2 (by decide) ?c3 ?c4 ?c5 _ rfl ?_)
  case c1=>exact fun j u hj=>cell_new1 _ (atrC (k,v)) 69 j u hj
  case c2=>intro u hu;simp[atrC] at hu;rcases hu with rfl | rfl <;> rfl
  case c3=>unfold maxLen;(try simp);omega
  case c4=>(try simp);omega
  case c5=>have h:=HX.out.size;(try simp);omega
  intro g3 cap3 w3 hown' hgrow _ _;have HX3:Hid (Ext w1 w3):=hid (own_grow ((HX.out.drewN _).alloc _) ((own_ext HOW.out ((Ext.refl _).drewN _)).alloc _) (Nat.le_refl _) hgrow);have HO3:Hid (w3.ownsRow w1.heap.size 69 2 (.slice (some ⟨g3,0,none⟩) (O.length+1) cap3) (O.length+1) (atrsC (O++[(k,v)]))):=hid (by rw[atrsC_snoc];exact hown');clear hown' hgrow;obtain⟨c0,c1⟩:=HC.out _ HX3.out;obtain⟨b0,b1⟩:=HBX.out _ HX3.out;go_wp2
  go_quiet (fail)
  go_wp2_with (at_builtin;refine wpList_append_lies _ rfl _ _ 65 rfl w1.heap.size 69 i0 _ 2 32 Tryz.underlying65 hi hz0 hz1 hz2 rfl (by decide) _ _ _ rfl ((own_ext HO3.out ((Ext.refl _).drewN _)).alloc _) _ 1 1 (atrC (n,dv)) rfl rfl ?c1 ?c2 (by decide) ?c3 ?c4 ?c5 _ rfl ?_)
  case c1=>exact fun j u hj=>cell_new1 _ (atrC (n,dv)) 69 j u hj
  case c2=>intro u hu;simp[atrC] at hu;rcases hu with rfl | rfl <;> rfl
  case c3=>unfold maxLen;(try simp);omega
  case c4=>(try simp);omega
  case c5=>have h:=HX3.out.size;(try simp);omega
  intro g4 cap4 w4 hown' hgrow _ _;have HX4:Hid (Ext w1 w4):=hid (own_grow ((HX3.out.drewN _).alloc _) ((own_ext HO3.out ((Ext.refl _).drewN _)).alloc _) (Nat.le_refl _) hgrow);have HO4:Hid (w4.ownsRow w1.heap.size 69 2 (.slice (some ⟨g4,0,none⟩) (O.length+1+1) cap4) (O.length+1+1) (atrsC ((O++[(k,v)])++[(n,dv)]))):=hid (by rw[atrsC_snoc];exact hown');clear hown' hgrow;obtain⟨c0,c1⟩:=HC.out _ HX4.out;obtain⟨b0,b1⟩:=HBX.out _ HX4.out;go_wp2
  go_roundw
  case rel=>exact⟨j+1,O++[(k,v)]++[(n,dv)],true,g4,cap4,by omega,by go_num,rfl,by rw[(show(O++[(k,v)]++[(n,dv)]).length=O.length+1+1 by simp)],by rw[(show(O++[(k,v)]++[(n,dv)]).length=O.length+1+1 by simp)];exact HO4.out,HX4.out,hf,by simp;omega⟩
  case measure=>simp[RowKit.intOf];omega
 have hjn:j=N:=by omega
 have hst:putF (k,v) L=(O,d):=by rw[<-ha.out,List.take_of_length_le (by rw[<-HN.out];omega)]
 have HST:=hid hst;have HX:=hid hx;have HOW:=hid hown;clear ha hst hx hown;cases d
 ·have hp:putT (k,v) L=O++[(k,v)]:=by unfold putT;rw[HST.out];rfl
  have HP:=hid hp;obtain⟨b0,b1⟩:=HBX.out _ HX.out;clear hp HST;go_wp2_with (at_builtin;refine wpList_append_lies _ rfl _ _ 65 rfl w1.heap.size 69 i0 _ 2 32 Tryz.underlying65 hi hz0 hz1 hz2 rfl (by decide) _ _ _ rfl (HOW.out.alloc _) _ 1 1 (atrC (k,v)) rfl rfl ?c1 ?c2 (by decide) ?c3 ?c4 ?c5 _ rfl ?_)
  case c1=>exact fun j u hj=>cell_new1 _ (atrC (k,v)) 69 j u hj
  case c2=>intro u hu;simp[atrC] at hu;rcases hu with rfl | rfl <;> rfl
  case c3=>unfold maxLen;(try simp);omega
  case c4=>(try simp);omega
  case c5=>have h:=HX.out.size;(try simp);omega
  intro g3 cap3 w3 hown' hgrow _ _;have HX3:Hid (Ext w1 w3):=hid (own_grow ((HX.out).alloc _) (HOW.out.alloc _) (Nat.le_refl _) hgrow);have HO3:Hid (w3.ownsRow w1.heap.size 69 2 (.slice (some ⟨g3,0,none⟩) (O.length+1) cap3) (O.length+1) (atrsC (O++[(k,v)]))):=hid (by rw[atrsC_snoc];exact hown');clear hown' hgrow;go_wp2;go_returns;obtain⟨a5,c5,e5,i5,n5⟩:=own_atrs (L:=O++[(k,v)]) (by rw[List.length_append];exact HO3.out);rw[HP.out];exact⟨⟨a5,c5,by rw[<-e5];simp,i5,n5⟩,HXW.out.trans HX3.out⟩
 have hp:putT (k,v) L=O:=by unfold putT;rw[HST.out];rfl
 have HP:=hid hp;clear hp HST;go_wp2;go_returns;obtain⟨a5,c5,e5,i5,n5⟩:=own_atrs HOW.out;rw[HP.out];exact⟨⟨a5,c5,congrArg _ e5,i5,n5⟩,HXW.out.trans HX.out⟩
end Go.Proofs.YtjaeedbjknejdaaGreatDoor.At
namespace Go.Proofs.YtjaeedbjknejdaaGreatDoor.At
open Go.RowKit Go.Sort Go.Lib Go.Shelf Fx Lx
theorem insT_len (a:Atr):∀ L:List Atr,(insT a L).length<=L.length+1
 | []=>by simp[insT]
 | q::r=>by
  have ih:=insT_len a r;unfold insT;by_cases h1:ltK q.1 a.1=true
  ·rw[if_pos h1];simp;omega
  ·rw[if_neg h1];by_cases h2:q.1=a.1
   ·rw[if_pos h2];simp
   rw[if_neg h2];simp
theorem mrgT_len : ∀ L:List Atr,(mrgT L).length<=L.length :=
 list_snoc_ind (by simp[mrgT]) (fun L a h=>by
  rw[mrgT_snoc,List.length_append];have:=insT_len a (mrgT L)
  simp;omega)
theorem mrgT_put (L:List Atr)(k v:ByteArray):putT (k,v) (mrgT L)=mrgT (L++[(k,v)]):=by rw[putT_ins _ _ (mrgT_asc L),mrgT_snoc]
theorem mrgR_any (a b:Option Addr)(La Lb:List Atr)(ca cb:Nat)(w:World)(ha:AtrIn w a La)(hb:AtrIn w b Lb)(hA:La.length<=20000)(hB:Lb.length<=20000):
  Calls Tryz.prog 91 #[.slice a La.length ca,.slice b Lb.length cb] w fun e w'=>AtrRes (mrgT (La++Lb)) e w'/\Ext w w':=by
 obtain⟨N,hN⟩:∃ N,N=La.length:=⟨_,rfl⟩;obtain⟨M,hM⟩:∃ M,M=Lb.length:=⟨_,rfl⟩;obtain⟨R,hR⟩:∃ R,R=mrgT (La++Lb):=⟨_,rfl⟩;rw[<-hR];rw[<-hN] at hA ⊢;rw[<-hM] at hB ⊢;have HN:=hid hN;have HM:=hid hM;have HR:=hid hR;have HA:=hid ha;have HBB:=hid hb;have HPU:=hid (fun b L cap k v w h hL=>put_any b L cap k v w h hL);have hx0:Ext w (w.alloc (.cells #[] 69)):=(Ext.refl _).alloc _;have HX0:=hid hx0;clear hN hM hR ha hb hx0;go_enter Tryz.func91,Tryz.ntmps91;go_wp2_with fail
 go_loopw [5,6] (fun out i' wr=>∃ (k:Nat) (O:List Atr) (x:Option Addr) (c:Nat),k<=N/\i'=.int .i64 k/\out=.slice x O.length c/\Hid (AtrIn wr x O/\NzA wr x c/\O=mrgT (La.take k))/\Ext w wr)
  (fun _ i' _=>N - (RowKit.intOf i').toNat)
 case atStart=>exact⟨0,[],some ⟨w.heap.size,0,none⟩,0,by omega,rfl,rfl,hid ⟨fun k h=>absurd h (by simp),⟨(fun e=>by cases e),(fun q e=>by cases e;exact⟨_,World.alloc_heap_new _ _⟩)⟩,rfl⟩,HX0.out⟩
 obtain⟨k,O,x,c,hk,rfl,rfl,ho,hx⟩:=hrel;clear HX0;by_cases hlt:k < N
 ·have hkl:k < La.length:=by rw[<-HN.out];exact hlt
  obtain⟨g,o,rfl,c0,c1⟩:=(HA.out.ext hx) k hkl
  have hpu:=HPU.out x O c La[k].1 La[k].2 wr ho.out.1 (by
   have:=mrgT_len (La.take k);rw[ho.out.2.2];simp at this;omega)
  have hst:putT (La[k].1,La[k].2) O=mrgT (La.take (k+1)):=by
   rw[ho.out.2.2,mrgT_put,List.take_succ_eq_append_getElem hkl]
  obtain⟨O2,hO2⟩:∃ O2,O2=putT (La[k].1,La[k].2) O:=⟨_,rfl⟩;rw[<-hO2] at hpu hst;generalize La[k].1=n at c0 hpu;generalize La[k].2=d at c1 hpu;have HP:=hid hpu;have HS:=hid hst;clear hpu hst hO2 ho;go_wp2_with (go_at_call 153;refine HP.out.mono ?_;rintro e w2 ⟨⟨y,c2,rfl,hi2,hn2⟩,x2⟩;have HI2:=hid hi2;clear hi2)
  go_roundw
  case rel=>exact⟨k+1,O2,y,c2,by omega,by go_num,rfl,hid ⟨HI2.out,hn2,HS.out⟩,hx.trans x2⟩
  case measure=>simp[RowKit.intOf];omega
 have hkn:k=N:=by omega
 have hs:O=mrgT (La++Lb.take 0):=by rw[ho.out.2.2,List.take_of_length_le (by rw[<-HN.out];omega)];simp
 have HO:=hid (And.intro ho.out.1 (And.intro ho.out.2.1 hs));have HX:=hid hx;have hOl:O.length<=N:=by have:=mrgT_len (La.take k);rw[<-ho.out.2.2] at this;simp at this;omega
 clear ho hs hx hkn;go_wp2_with fail
 go_loopw [5,7] (fun out i' wr=>∃ (k:Nat) (O:List Atr) (x:Option Addr) (c:Nat),k<=M/\i'=.int .i64 k/\out=.slice x O.length c/\Hid (AtrIn wr x O/\NzA wr x c/\O=mrgT (La++Lb.take k))/\Ext w wr)
  (fun _ i' _=>M - (RowKit.intOf i').toNat)
 case atStart=>exact⟨0,O,x,c,by omega,rfl,rfl,HO,HX.out⟩
 clear HO HX;obtain⟨k,O,x,c,hk,rfl,rfl,ho,hx⟩:=hrel;by_cases hlt:k < M
 ·have hkl:k < Lb.length:=by rw[<-HM.out];exact hlt
  obtain⟨g,o,rfl,c0,c1⟩:=(HBB.out.ext hx) k hkl
  have hpu:=HPU.out x O c Lb[k].1 Lb[k].2 _ ho.out.1 (by
   have:=mrgT_len (La++Lb.take k);rw[ho.out.2.2];simp at this;have:=HN.out;omega)
  have hst:putT (Lb[k].1,Lb[k].2) O=mrgT (La++Lb.take (k+1)):=by
   rw[ho.out.2.2,mrgT_put,List.take_succ_eq_append_getElem hkl,List.append_assoc]
  obtain⟨O2,hO2⟩:∃ O2,O2=putT (Lb[k].1,Lb[k].2) O:=⟨_,rfl⟩;rw[<-hO2] at hpu hst;generalize Lb[k].1=n at c0 hpu;generalize Lb[k].2=d at c1 hpu;have HP:=hid hpu;have HS:=hid hst;clear hpu hst hO2 ho;go_wp2_with (go_at_call 153;refine HP.out.mono ?_;rintro e w2 ⟨⟨y,c2,rfl,hi2,hn2⟩,x2⟩;have HI2:=hid hi2;clear hi2)
  go_roundw
  case rel=>exact⟨k+1,O2,y,c2,by omega,by go_num,rfl,hid ⟨HI2.out,hn2,HS.out⟩,hx.trans x2⟩
  case measure=>simp[RowKit.intOf];omega
 have hs:R=O:=by rw[HR.out,ho.out.2.2,List.take_of_length_le (by rw[<-HM.out];omega)]
 have HS:=hid hs;have HO:=hid (And.intro ho.out.1 ho.out.2.1);clear ho hs;go_wp2;go_returns;rw[HS.out];exact⟨⟨x,c,rfl,HO.out.1,HO.out.2⟩,hx⟩
end Go.Proofs.YtjaeedbjknejdaaGreatDoor.At
namespace Go.Proofs.YtjaeedbjknejdaaGreatDoor.At
open Go.RowKit Go.Sort Go.Lib Go.Shelf Fx Lx
end Go.Proofs.YtjaeedbjknejdaaGreatDoor.At

namespace Go.Proofs.YtjaeedbjknejdaaGreatDoor.Nm
open Go.Lib Fx Lx Tr At
mutual
def cntS : Stm->Nat
 | .mk _ _ _ _ b=>cntL b+1
def cntL : List Stm->Nat
 | []=>0
 | x::r=>cntS x+cntL r
end
theorem cntS_body (x:Stm):cntS x=cntL x.body+1:=by cases x;rw[cntS];rfl
theorem cntL_cons (x:Stm)(r:List Stm):cntL (x::r)=cntS x+cntL r:=by rw[cntL]
theorem cntL_nil : cntL []=0:=by rw[cntL]
mutual
theorem cntS_flat (lev:Nat):∀ x:Stm,(flatS lev x).length=cntS x
 | .mk k n r a b=>by rw[flatS,cntS,List.length_cons,cntL_flat _ b]
theorem cntL_flat (lev:Nat):∀ L:List Stm,(flatL lev L).length=cntL L
 | []=>by rw[flatL,cntL];rfl
 | x::r=>by rw[flatL,cntL,List.length_append,cntS_flat lev x,cntL_flat lev r]
end
def SmA (k:Nat)(L:List Two):Prop:=L.length<=20 * k/\∀ q ∈ L,q.1.size<=64/\q.2.size<=64
theorem SmA.mono {k l:Nat}{L:List Two}(h:SmA k L)(hl:k<=l):SmA l L:=⟨Nat.le_trans h.1 (by omega),h.2⟩
theorem SmA.nil (k:Nat):SmA k []:=⟨by simp,fun q h=>by cases h⟩
theorem mrgT_mem {L:List Two}{q:Two}(h:q ∈ mrgT L):q ∈ L:=by
 revert q;refine list_snoc_ind (p:=fun L:List Two=>∀ {q:Two},q ∈ mrgT L->q ∈ L) (fun {q} h=>by simp[mrgT] at h) (fun L a ih {q} h=>?_) L;rw[mrgT_snoc] at h
 have key:∀ M:List Two,q ∈ insT a M->q=a\/q ∈ M:=by
  intro M
  induction M with
  | nil=>intro h;simp[insT] at h;exact .inl h
  | cons y M ihM =>
   intro h;unfold insT at h;split at h
   ·rcases List.mem_cons.1 h with h | h
    ·exact .inr (by rw[h];simp)
    rcases ihM h with h | h
    ·exact .inl h
    exact .inr (by simp[h])
   ·split at h
    ·rcases List.mem_cons.1 h with h | h
     ·exact .inl h
     exact .inr (by simp[h])
    rcases List.mem_cons.1 h with h | h
    ·exact .inl h
    exact .inr h
 rcases key _ h with h | h
 ·simp[h]
 exact List.mem_append_left _ (ih h)
theorem SmA.mrg {k:Nat}{L M:List Two}(h:SmA k L)(hM:M.length<=20)(hm:∀ q ∈ M,q.1.size<=64/\q.2.size<=64):SmA (k+1) (mrgT (L++M)):=by
 refine⟨?_,fun q hq=>?_⟩
 ·have h1:=mrgT_len (L++M);have h2:=h.1;rw[List.length_append] at h1;omega
 rcases List.mem_append.1 (mrgT_mem hq) with h1 | h1
 ·exact h.2 q h1
 exact hm q h1
structure Sml (m k:Nat)(S:St):Prop where
 n:S.N.length<=m
 a:S.A.length=S.N.length
 c:S.C.length<=k
 l:S.K.length<=m
 at':∀ L ∈ S.A,SmA k L
 kt:∀ x ∈ S.K,SmA k x.at'/\x.a < S.N.length/\x.b < S.N.length/\x.ap.size<=64/\x.bp.size<=64
 nn:∀ q ∈ S.N,q.1.size<=64 /\ -1<=q.2/\q.2<=k
 cc:∀ q ∈ S.C,q.1.size<=64 /\ -1<=q.2/\q.2<=k
theorem Sml.mono {m k m' k':Nat}{S:St}(h:Sml m k S)(hm:m<=m')(hk:k<=k'):Sml m' k' S :=
 ⟨Nat.le_trans h.n hm,h.a,Nat.le_trans h.c hk,Nat.le_trans h.l hm,fun L hL=>(h.at' L hL).mono hk,fun x hx=>⟨(h.kt x hx).1.mono hk,(h.kt x hx).2⟩,fun q hq=>⟨(h.nn q hq).1,(h.nn q hq).2.1,by have:=(h.nn q hq).2.2;omega⟩,fun q hq=>⟨(h.cc q hq).1,(h.cc q hq).2.1,by have:=(h.cc q hq).2.2;omega⟩⟩
theorem Sml.nil : Sml 0 0 ⟨[],[],[],[]⟩:=⟨by simp,rfl,by simp,by simp,fun L h=>(by cases h),fun L h=>(by cases h),fun L h=>(by cases h),fun L h=>(by cases h)⟩
def SmP (k:Nat)(p:Pl):Prop := -1<=p.c/\p.c<=k/\SmA k p.n/\SmA k p.e
theorem SmP.mono {k l:Nat}{p:Pl}(h:SmP k p)(hl:k<=l):SmP l p:=⟨h.1,by have:=h.2.1;omega,h.2.2.1.mono hl,h.2.2.2.mono hl⟩
theorem idxGo_lt {n:ByteArray}:∀ (L:List (ByteArray × Int)) (k v:Nat),idxGo n k L=some v->k<=v/\v < k+L.length
 | [],k,v,h=>by simp[idxGo] at h
 | q::r,k,v,h=>by
  unfold idxGo at h;split at h
  ·injection h with h;subst h;simp
  ·have:=idxGo_lt r (k+1) v h;simp;omega
theorem idx_lt {S:St}{n:ByteArray}{v:Nat}(h:S.idx n=some v):v < S.N.length:=by
 have:=idxGo_lt S.N 0 v h;omega
theorem Sml.ment {m k:Nat}{S:St}(h:Sml m k S){n:ByteArray}{p:Pl}(hp:SmP k p)(hn:n.size<=64){v:Nat}{S':St}(he:ment n p S=.ok (v,S')):Sml (m+1) k S'/\v < S'.N.length/\S'.C=S.C/\S'.K=S.K/\S.N.length<=S'.N.length:=by
 unfold Nm.ment at he;split at he
 ·cases he
 split at he
 ·rename_i u hu;injection he with he;injection he with h1 h2;subst h1;subst h2;exact⟨h.mono (by omega) (Nat.le_refl _),idx_lt hu,rfl,rfl,Nat.le_refl _⟩
 injection he with he;injection he with h1 h2;subst h1;subst h2;refine⟨⟨?_,?_,h.c,?_,fun L hL=>?_,fun x hx=>?_,fun q hq=>?_,h.cc⟩,by simp,rfl,rfl,by simp⟩
 ·have:=h.n;simp;omega
 ·have:=h.a;simp[this]
 ·have:=h.l;show S.K.length<=m+1;omega
 ·rcases List.mem_append.1 hL with hL | hL
  ·exact h.at' L hL
  rw[List.mem_singleton.1 hL];exact hp.2.2.1
 ·obtain⟨h1,h2,h3,h4⟩:=h.kt x hx;exact⟨h1,by simp;omega,by simp;omega,h4⟩
 rcases List.mem_append.1 hq with hq | hq
 ·exact h.nn q hq
 rw[List.mem_singleton.1 hq];exact⟨hn,hp.1,hp.2.1⟩
theorem Sml.chain {k:Nat}{own:List Two}{p:Pl}(hp:SmP k p)(ho:SmA k own):∀ (rs:List Two) (m:Nat) (last:Option (Nat × ByteArray)) (S S':St),Sml m k S->(∀ r ∈ rs,r.1.size<=64/\r.2.size<=64)->(∀ l,last=some l->l.1 < S.N.length/\l.2.size<=64)->chainT own p rs last S=.ok S'->Sml (m+rs.length) k S'
 | [],m,last,S,S',h,_,_,he=>by
  unfold chainT at he;injection he with he;subst he;exact h
 | r::rs,m,last,S,S',h,hr,hl,he=>by
  unfold chainT at he;split at he
  ·cases he
  ·rename_i v S2 hm;obtain⟨h1,h2,h3,h4,h5⟩:=h.ment hp (hr r (by simp)).1 hm;rw[List.length_cons,<- Nat.add_assoc,Nat.add_right_comm];refine Sml.chain hp ho rs (m+1) _ _ S' ?_ (fun x hx=>hr x (by simp[hx])) (fun l e=>?_) he
   ·cases hl2:last with
    | none=>exact h1
    | some l =>
     obtain⟨g1,g2⟩:=hl l hl2;refine⟨h1.n,h1.a,h1.c,?_,h1.at',fun x hx=>?_,h1.nn,h1.cc⟩
     ·have:=h.l;show(S2.K++_).length<=_;rw[h4];simp;omega
     ·rcases List.mem_append.1 hx with hx | hx
      ·exact h1.kt x hx
      rw[List.mem_singleton.1 hx];exact⟨ho,by show l.1 < S2.N.length;omega,h2,g2,(hr r (by simp)).2⟩
   injection e with e;subst e;refine⟨?_,(hr r (by simp)).2⟩;cases last <;> exact h2
def okW (x:Stm):Prop:=(∀ r ∈ x.refs,r.1.size<=64/\r.2.size<=64)/\x.refs.length<=1048576/\x.attrs.length<=20/\(∀ q ∈ x.attrs,q.1.size<=64/\q.2.size<=64)/\x.name.size<=64/\formB x=true
mutual
def okWS : Stm->Prop
 | .mk k n r a b=>okW (.mk k n r a b)/\okWL b
def okWL : List Stm->Prop
 | []=>True
 | x::r=>okWS x/\okWL r
end
theorem okWS_eq (x:Stm):okWS x ↔ okW x/\okWL x.body:=by cases x;rw[okWS];rfl
theorem okWL_cons (x:Stm)(r:List Stm):okWL (x::r) ↔ okWS x/\okWL r:=by rw[okWL]
mutual
theorem okWS_flat (lev:Nat):∀ x:Stm,(∀ q ∈ flatS lev x,okW q.1)->okWS x
 | .mk k n r a b,h=>by
  rw[flatS] at h;rw[okWS];exact⟨h _ List.mem_cons_self,okWL_flat _ b fun q hq=>h q (List.mem_cons_of_mem _ hq)⟩
theorem okWL_flat (lev:Nat):∀ L:List Stm,(∀ q ∈ flatL lev L,okW q.1)->okWL L
 | [],_=>by rw[okWL];trivial
 | x::r,h=>by
  rw[flatL] at h;rw[okWL];exact⟨okWS_flat lev x fun q hq=>h q (List.mem_append_left _ hq),okWL_flat lev r fun q hq=>h q (List.mem_append_right _ hq)⟩
end
mutual
theorem Sml.stm : ∀ (x:Stm) (k:Nat) (p p':Pl) (S S':St),okWS x->Sml (1048576 * k) k S->SmP k p->blkS p S x=.ok (p',S')->Sml (1048576 * (k+cntS x)) (k+cntS x) S'/\SmP (k+cntS x) p'
 | .mk kd n rs al b,k,p,p',S,S',ho,h,hp,he=>by
  rw[okWS] at ho;obtain⟨⟨hr,hrl,hal,ha,hnm,-⟩,hb⟩:=ho;simp only[Stm.refs,Stm.attrs,Stm.name] at hr hrl hal ha hnm;rw[cntS];unfold blkS at he;split at he
  ·cases he
  split at he
  ·split at he
   ·cases he
   rename_i v S2 hm;injection he with he;injection he with h1 h2;subst h1;subst h2;obtain⟨g1,g2,g3,g4,g5⟩:=h.ment hp hnm hm;refine⟨?_,hp.mono (by omega)⟩;have g6:=g1.mono (m':=1048576 * (k+(cntL b+1))) (k':=k+(cntL b+1)) (by omega) (by omega);refine⟨g6.n,by have:=g6.a;simpa using this,g6.c,g6.l,fun L hL=>?_,g6.kt,g6.nn,g6.cc⟩;rcases List.mem_or_eq_of_mem_set hL with hL | hL
   ·exact g6.at' L hL
   rw[hL];have hv:v < S2.A.length:=by rw[g1.a];exact g2
   rw[List.getD_eq_getElem?_getD,List.getElem?_eq_getElem hv];exact((g1.at' _ (List.getElem_mem hv)).mrg hal ha).mono (by omega)
  split at he
  ·split at he
   ·cases he
   rename_i S2 hm;injection he with he;injection he with h1 h2;subst h1;subst h2;have g:=Sml.chain (hp.mono (Nat.le_succ k)) (hp.2.2.2.mrg hal ha) rs (1048576 * k) none S _ (h.mono (Nat.le_refl _) (by omega)) hr (fun l e=>by cases e) hm;exact⟨g.mono (by omega) (by omega),hp.mono (by omega)⟩
  split at he
  ·split at he
   ·injection he with he;injection he with h1 h2;subst h1;subst h2;exact⟨h.mono (by omega) (by omega),hp.1,by have:=hp.2.1;show p.c<=_;omega,(hp.2.2.1.mrg hal ha).mono (by omega),hp.2.2.2.mono (by omega)⟩
   injection he with he;injection he with h1 h2;subst h1;subst h2;exact⟨h.mono (by omega) (by omega),hp.1,by have:=hp.2.1;show p.c<=_;omega,hp.2.2.1.mono (by omega),(hp.2.2.2.mrg hal ha).mono (by omega)⟩
  split at he
  ·split at he
   ·cases he
   split at he
   ·cases he
   rename_i S2 hm;injection he with he;injection he with h1 h2;subst h1;subst h2
   have h3:Sml (1048576 * (k+1)) (k+1) { S with C:=S.C++[(n,p.c)] }:=by
    have h4:=h.mono (m':=1048576 * (k+1)) (k':=k+1) (by omega) (by omega);refine⟨h4.n,h4.a,?_,h4.l,h4.at',h4.kt,h4.nn,fun q hq=>?_⟩
    ·have:=h.c;simp;omega
    rcases List.mem_append.1 hq with hq | hq
    ·exact h4.cc q hq
    rw[List.mem_singleton.1 hq];exact⟨hnm,hp.1,by have:=hp.2.1;show p.c<=_;omega⟩
   have h5:SmP (k+1) { p with c:=S.C.length }:=⟨by show(-1:Int)<=(S.C.length:Int);omega,by have:=h.c;show(S.C.length:Int)<=_;omega,hp.2.2.1.mono (by omega),hp.2.2.2.mono (by omega)⟩;have h6:=Sml.stms b (k+1) _ _ _ hb h3 h5 hm;rw[show k+(cntL b+1)=k+1+cntL b by omega];exact⟨h6,hp.mono (by omega)⟩
  ·injection he with he;injection he with h1 h2;subst h1;subst h2;exact⟨h.mono (by omega) (by omega),hp.mono (by omega)⟩
theorem Sml.stms : ∀ (L:List Stm) (k:Nat) (p:Pl) (S S':St),okWL L->Sml (1048576 * k) k S->SmP k p->blkL p S L=.ok S'->Sml (1048576 * (k+cntL L)) (k+cntL L) S'
 | [],k,p,S,S',_,h,_,he=>by
  unfold blkL at he;injection he with he;subst he;rw[cntL];exact h
 | x::r,k,p,S,S',ho,h,hp,he=>by
  rw[okWL] at ho;unfold blkL at he;split at he
  ·cases he
  ·rename_i p2 S2 hm;obtain⟨g1,g2⟩:=Sml.stm x k p p2 S S2 ho.1 h hp hm;rw[cntL,<- Nat.add_assoc];exact Sml.stms r _ p2 S2 S' ho.2 g1 g2 he
end
end Go.Proofs.YtjaeedbjknejdaaGreatDoor.Nm
