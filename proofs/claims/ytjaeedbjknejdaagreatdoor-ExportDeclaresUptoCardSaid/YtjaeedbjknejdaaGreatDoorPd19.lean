/- Packed texts: NorClus, TreFormB, TreKinds, NorCheck -/
import Derived.Test.YtjaeedbjknejdaaGreatDoorPd18
set_option linter.unusedVariables false
set_option linter.unusedSimpArgs false
set_option maxHeartbeats 16000000
set_option maxRecDepth 100000
namespace Go.Proofs.YtjaeedbjknejdaaGreatDoor.Nm
open Go.RowKit Go.Sort Go.Lib Go.Shelf Fx Lx Tr At
def clusT (p:Pl)(S:St)(n:ByteArray)(b:List Stm):Except Int St :=
 if(S.idx n).isSome=true\/S.taken n=true then .error 6 else blkL { p with c:=S.C.length } { S with C:=S.C++[(n,p.c)] } b
end Go.Proofs.YtjaeedbjknejdaaGreatDoor.Nm

namespace Go.Proofs.YtjaeedbjknejdaaGreatDoor.Tr
open Go.RowKit Go.Sort Go.Lib Go.Shelf Fx Lx
theorem form_else (k:Int)(nm:ByteArray)(r a b:Option Addr)(R A B rc ac bc:Nat)(w:World)(h1:k ≠ 1)(h2:k ≠ 2)(h3:k ≠ 3)(h4:k ≠ 4)(h5:k ≠ 5):
  Calls Tryz.prog 135 #[.agg #[.int .i64 k,.string nm,.slice r R rc,.slice a A ac,.slice b B bc]] w fun e w'=>e=.returned (.int .i64 1)/\Ext w w':=by
 obtain⟨f1,f1'⟩:=ne_facts h1;obtain⟨f2,f2'⟩:=ne_facts h2;obtain⟨f3,f3'⟩:=ne_facts h3;obtain⟨f4,f4'⟩:=ne_facts h4;obtain⟨f5,f5'⟩:=ne_facts h5;clear h1 h2 h3 h4 h5;go_enter Tryz.func135,Tryz.ntmps135;go_wp2;go_ret;exact⟨rfl,(Ext.refl _).alloc _⟩
theorem named_any (k:Int)(w:World):Calls Tryz.prog 136 #[.int .i64 k] w fun e w'=>e=.returned (.bool (decide (k=1\/k=4\/k=5)))/\w=w':=by
 by_cases h1:k=1
 ·subst h1;go_enter Tryz.func136,Tryz.ntmps136;go_wp2;go_ret;exact⟨rfl,rfl⟩
 by_cases h4:k=4
 ·subst h4;go_enter Tryz.func136,Tryz.ntmps136;go_wp2;go_ret;exact⟨rfl,rfl⟩
 by_cases h5:k=5
 ·subst h5;go_enter Tryz.func136,Tryz.ntmps136;go_wp2;go_ret;exact⟨rfl,rfl⟩
 rw[decide_eq_false (by omega)];obtain⟨f1,f1'⟩:=ne_facts h1;obtain⟨f4,f4'⟩:=ne_facts h4;obtain⟨f5,f5'⟩:=ne_facts h5;clear h1 h4 h5;go_enter Tryz.func136,Tryz.ntmps136;go_wp2;go_ret;exact⟨rfl,rfl⟩
theorem litEq (n:ByteArray)(l:List UInt8):(n.toList == l)=decide (n.data.toList=l):=by
 rw[ByteArray.toList_eq,Bool.eq_iff_iff,beq_iff_eq,decide_eq_true_eq]
theorem form_default (nm:ByteArray)(r a b:Option Addr)(R A B rc ac bc:Nat)(w:World):
  Calls Tryz.prog 135 #[.agg #[.int .i64 3,.string nm,.slice r R rc,.slice a A ac,.slice b B bc]] w fun e w'=>e=.returned (.int .i64 (if(decide (R=0) && decide (B=0) && (decide (nm.data.toList=[110,111,100,101]) || decide (nm.data.toList=[101,100,103,101])))=true then 0 else 1))/\Ext w w':=by
 by_cases hR:R=0
 ·by_cases hB:B=0
  ·subst hR;subst hB;have n1:=litEq nm [110,111,100,101];have n2:=litEq nm [101,100,103,101];cases q1:decide (nm.data.toList=[110,111,100,101])
   ·rw[q1] at n1;clear q1;cases q2:decide (nm.data.toList=[101,100,103,101])
    ·rw[q2] at n2;clear q2;go_enter Tryz.func135,Tryz.ntmps135;go_wp2;go_ret;exact⟨rfl,(Ext.refl _).alloc _⟩
    rw[q2] at n2;clear q2;go_enter Tryz.func135,Tryz.ntmps135;go_wp2;go_ret;exact⟨rfl,(Ext.refl _).alloc _⟩
   rw[q1] at n1;clear q1 n2;go_enter Tryz.func135,Tryz.ntmps135;go_wp2;go_ret;exact⟨rfl,(Ext.refl _).alloc _⟩
  subst hR;have f1:((B:Int) == 0)=false:=by simpa using hB
  rw[decide_eq_false hB];clear hB;go_enter Tryz.func135,Tryz.ntmps135;go_wp2;go_ret;exact⟨rfl,(Ext.refl _).alloc _⟩
 have f1:((R:Int) == 0)=false:=by simpa using hR
 rw[decide_eq_false hR];clear hR;go_enter Tryz.func135,Tryz.ntmps135;go_wp2;go_ret;exact⟨rfl,(Ext.refl _).alloc _⟩
theorem form_set (nm:ByteArray)(r a b:Option Addr)(R B rc ac bc:Nat)(al:List Two)(w:World)(h:TwoIn w a al):
  Calls Tryz.prog 135 #[.agg #[.int .i64 4,.string nm,.slice r R rc,.slice a al.length ac,.slice b B bc]] w fun e w'=>e=.returned (.int .i64 (if(decide (R=0) && decide (B=0) && setB al)=true then 0 else 1))/\Ext w w':=by
 by_cases hR:R=0
 ·by_cases hB:B=0
  ·subst hR;subst hB;by_cases h1:al.length=1
   ·obtain⟨⟨k,v⟩,rfl⟩:∃ q,al=[q]:=by
     match al,h1 with
     | [q],_=>exact⟨q,rfl⟩
    obtain⟨g,o,rfl,c0,c1⟩:=h 0 (by simp);simp only[Nat.zero_mul,Nat.add_zero,List.getElem_cons_zero] at c0 c1;have d0:∀ o',(w.alloc o').cell? ⟨g,o,none⟩=some (.string k):=fun o'=>((Ext.refl w).alloc o').cell c0
    have d1:∀ o',(w.alloc o').cell? ⟨g,o+1,none⟩=some (.string v):=fun o'=>((Ext.refl w).alloc o').cell c1
    clear h h1 c1;have n1:=@size0 k;rw[show setB [(k,v)]=decide (k.size=0) from rfl];cases q1:decide (k.size=0)
    ·rw[q1] at n1;clear q1;simp only[List.length_cons,List.length_nil,Nat.zero_add];go_enter Tryz.func135,Tryz.ntmps135;go_wp2;go_ret;exact⟨rfl,(Ext.refl _).alloc _⟩
    rw[q1] at n1;clear q1;simp only[List.length_cons,List.length_nil,Nat.zero_add];go_enter Tryz.func135,Tryz.ntmps135;go_wp2;go_ret;exact⟨rfl,(Ext.refl _).alloc _⟩
   have hm:setB al=false:=by
    unfold setB
    match al,h1 with
    | [],_=>rfl
    | [q],h1=>exact absurd rfl h1
    | _::_::_,_=>rfl
   rw[hm]
   have f1:((al.length:Int) == 1)=false:=by
    rw[beq_eq_false_iff_ne];omega
   clear hm h1 h;generalize al.length=A at *;go_enter Tryz.func135,Tryz.ntmps135;go_wp2;go_ret;exact⟨rfl,(Ext.refl _).alloc _⟩
  subst hR;have f1:((B:Int) == 0)=false:=by simpa using hB
  rw[decide_eq_false hB];clear hB h;generalize al.length=A at *;go_enter Tryz.func135,Tryz.ntmps135;go_wp2;go_ret;exact⟨rfl,(Ext.refl _).alloc _⟩
 have f1:((R:Int) == 0)=false:=by simpa using hR
 rw[decide_eq_false hR];clear hR h;generalize al.length=A at *;go_enter Tryz.func135,Tryz.ntmps135;go_wp2;go_ret;exact⟨rfl,(Ext.refl _).alloc _⟩
theorem isE {α : Type}(L:List α):L.isEmpty=decide (L.length=0):=by cases L <;> rfl
theorem formB_mk (k:Int)(nm:ByteArray)(rs al:List Two)(body:List Stm):formB (.mk k nm rs al body) =
  if k=1 then decide (rs.length=0) && decide (body.length=0)
  else if k=2 then decide (nm.size=0) && decide (body.length=0) && decide (2<=rs.length)
  else if k=3 then decide (rs.length=0) && decide (body.length=0) && (decide (nm.data.toList=[110,111,100,101]) || decide (nm.data.toList=[101,100,103,101]))
  else if k=4 then decide (rs.length=0) && decide (body.length=0) && setB al
  else if k=5 then decide (rs.length=0) && decide (al.length=0)
  else false:=by
 rw[<-isE,<- isE,<- isE];rfl
theorem form_any (k:Int)(nm:ByteArray)(rs al:List Two)(body:List Stm)(r a b:Option Addr)(rc ac bc:Nat)(w:World)(h:TwoIn w a al):
  Calls Tryz.prog 135 #[.agg #[.int .i64 k,.string nm,.slice r rs.length rc,.slice a al.length ac,.slice b body.length bc]] w fun e w'=>e=.returned (.int .i64 (if formB (.mk k nm rs al body)=true then 0 else 1))/\Ext w w':=by
 rw[formB_mk];by_cases h1:k=1
 ·rw[if_pos h1];subst h1;exact form_node nm r a b _ _ _ rc ac bc w
 rw[if_neg h1];by_cases h2:k=2
 ·rw[if_pos h2];subst h2;exact form_edge nm r a b _ _ _ rc ac bc w
 rw[if_neg h2];by_cases h3:k=3
 ·rw[if_pos h3];subst h3;exact form_default nm r a b _ _ _ rc ac bc w
 rw[if_neg h3];by_cases h4:k=4
 ·rw[if_pos h4];subst h4;exact form_set nm r a b _ _ rc ac bc al w h
 rw[if_neg h4];by_cases h5:k=5
 ·rw[if_pos h5];subst h5;exact form_cluster nm r a b _ _ _ rc ac bc w
 rw[if_neg h5];exact form_else k nm r a b _ _ _ rc ac bc w h1 h2 h3 h4 h5
end Go.Proofs.YtjaeedbjknejdaaGreatDoor.Tr

namespace Go.Proofs.YtjaeedbjknejdaaGreatDoor.Tr
open Go.Lib Fx Lx
theorem form_kinds (x:Stm)(h:formB x=true):(x.kind=1\/x.kind=2\/x.kind=3\/x.kind=4\/x.kind=5)/\(x.kind=3->kw x.name.data.toList=true)/\(x.kind=4->∃ q,x.attrs=[q]/\q.1.size=0):=by
 unfold formB at h;by_cases h1:x.kind=1
 ·exact⟨.inl h1,fun h=>by omega,fun h=>by omega⟩
 rw[if_neg h1] at h;by_cases h2:x.kind=2
 ·exact⟨.inr (.inl h2),fun h=>by omega,fun h=>by omega⟩
 rw[if_neg h2] at h;by_cases h3:x.kind=3
 ·rw[if_pos h3] at h;refine⟨.inr (.inr (.inl h3)),fun _=>?_,fun h=>by omega⟩;simp only[Bool.and_eq_true,Bool.or_eq_true,decide_eq_true_eq] at h;rcases h.2 with e | e <;> (rw[e];decide)
 rw[if_neg h3] at h;by_cases h4:x.kind=4
 ·rw[if_pos h4] at h;refine⟨.inr (.inr (.inr (.inl h4))),fun h=>by omega,fun _=>?_⟩;simp only[Bool.and_eq_true] at h;have h5:=h.2;unfold setB at h5;split at h5
  ·rename_i q e;exact⟨q,e,by simpa using h5⟩
  exact absurd h5 (by decide)
 rw[if_neg h4] at h;by_cases h5:x.kind=5
 ·exact⟨.inr (.inr (.inr (.inr h5))),fun h=>by omega,fun h=>by omega⟩
 rw[if_neg h5] at h;exact absurd h (by decide)
end Go.Proofs.YtjaeedbjknejdaaGreatDoor.Tr

namespace Go.Proofs.YtjaeedbjknejdaaGreatDoor.Nm
open Go.RowKit Go.Sort Go.Lib Go.Shelf Fx Lx Tr At
theorem chkGo_none (kd:Int)(q:Two)(r:List Two):chkGo kd none (q::r)=if checkV kd q.1 q.2 ≠ 0 then checkV kd q.1 q.2 else chkGo kd none r:=rfl
end Go.Proofs.YtjaeedbjknejdaaGreatDoor.Nm
