/- Packed texts: TreFldR -/
import Derived.Test.YtjaeedbjknejdaaGreatDoorPu22
set_option linter.unusedVariables false
set_option linter.unusedSimpArgs false
set_option maxHeartbeats 16000000
set_option maxRecDepth 100000
namespace Go.Proofs.YtjaeedbjknejdaaGreatDoor.Tr
open Go.RowKit Go.Sort Go.Lib Go.Shelf Fx Lx
theorem fields_1 (nm:ByteArray)(r a b:Option Addr)(R A B rc ac bc:Nat)(w:World):
    Calls Tryz.prog 84 #[.agg #[.int .i64 1,.string nm,.slice r R rc,.slice a A ac,.slice b B bc]] w fun e w'=>e=.returned (.int .i64 (if(decide (R=0) && decide (B=0))=true then 0 else 1))/\Ext w w':=by
  by_cases hR:R=0
  · subst hR;by_cases hB:B=0
    · subst hB;go_enter Tryz.func84,Tryz.ntmps84;go_wp2;go_returns;exact⟨rfl,(Ext.refl _).alloc _⟩
    skip
    have fB:0 < B:=by omega
    have fB':decide (0 < B)=true:=decide_eq_true fB;rw[decide_eq_false hB];clear hB;go_enter Tryz.func84,Tryz.ntmps84;go_wp2;go_returns;exact⟨rfl,(Ext.refl _).alloc _⟩
  skip
  have fR:0 < R:=by omega
  have fR':decide (0 < R)=true:=decide_eq_true fR;rw[decide_eq_false hR];clear hR;go_enter Tryz.func84,Tryz.ntmps84;go_wp2;go_returns;exact⟨rfl,(Ext.refl _).alloc _⟩
theorem fields_5 (nm:ByteArray)(r a b:Option Addr)(R A B rc ac bc:Nat)(w:World):
    Calls Tryz.prog 84 #[.agg #[.int .i64 5,.string nm,.slice r R rc,.slice a A ac,.slice b B bc]] w fun e w'=>e=.returned (.int .i64 (if(decide (R=0) && decide (A=0))=true then 0 else 1))/\Ext w w':=by
  by_cases hR:R=0
  · subst hR;by_cases hA:A=0
    · subst hA;go_enter Tryz.func84,Tryz.ntmps84;go_wp2;go_returns;exact⟨rfl,(Ext.refl _).alloc _⟩
    skip
    have fA:0 < A:=by omega
    have fA':decide (0 < A)=true:=decide_eq_true fA;rw[decide_eq_false hA];clear hA;go_enter Tryz.func84,Tryz.ntmps84;go_wp2;go_returns;exact⟨rfl,(Ext.refl _).alloc _⟩
  skip
  have fR:0 < R:=by omega
  have fR':decide (0 < R)=true:=decide_eq_true fR;rw[decide_eq_false hR];clear hR;go_enter Tryz.func84,Tryz.ntmps84;go_wp2;go_returns;exact⟨rfl,(Ext.refl _).alloc _⟩
theorem fields_2 (nm:ByteArray)(r a b:Option Addr)(R A B rc ac bc:Nat)(w:World):
    Calls Tryz.prog 84 #[.agg #[.int .i64 2,.string nm,.slice r R rc,.slice a A ac,.slice b B bc]] w fun e w'=>e=.returned (.int .i64 (if(decide (nm.size=0) && decide (B=0) && decide (2<=R))=true then 0 else 1))/\Ext w w':=by
  have hN:=@size0 nm;cases hn:decide (nm.size=0)
  · rw[hn] at hN;clear hn;go_enter Tryz.func84,Tryz.ntmps84;go_wp2;go_returns;exact⟨rfl,(Ext.refl _).alloc _⟩
  rw[hn] at hN;clear hn;by_cases hB:B=0
  · subst hB;by_cases hR:2<=R
    · have f1:decide ((R:Int) < 2)=false:=decide_eq_false (by omega);rw[decide_eq_true hR];clear hR;go_enter Tryz.func84,Tryz.ntmps84;go_wp2;go_returns;exact⟨rfl,(Ext.refl _).alloc _⟩
    have f1:decide ((R:Int) < 2)=true:=decide_eq_true (by omega);rw[decide_eq_false hR];clear hR;go_enter Tryz.func84,Tryz.ntmps84;go_wp2;go_returns;exact⟨rfl,(Ext.refl _).alloc _⟩
  skip
  have fB:0 < B:=by omega
  have fB':decide (0 < B)=true:=decide_eq_true fB;rw[decide_eq_false hB];clear hB;go_enter Tryz.func84,Tryz.ntmps84;go_wp2;go_returns;exact⟨rfl,(Ext.refl _).alloc _⟩
theorem fields_3 (nm:ByteArray)(r a b:Option Addr)(R A B rc ac bc:Nat)(w:World):
    Calls Tryz.prog 84 #[.agg #[.int .i64 3,.string nm,.slice r R rc,.slice a A ac,.slice b B bc]] w fun e w'=>e=.returned (.int .i64 (if(decide (R=0) && decide (B=0) && (decide (nm.data.toList=[110,111,100,101]) || decide (nm.data.toList=[101,100,103,101])))=true then 0 else 1))/\Ext w w':=by
  by_cases hR:R=0
  · subst hR;by_cases hB:B=0
    · subst hB;have n1:=litEq nm [110,111,100,101];have n2:=litEq nm [101,100,103,101];cases q1:decide (nm.data.toList=[110,111,100,101])
      · rw[q1] at n1;clear q1;cases q2:decide (nm.data.toList=[101,100,103,101])
        · rw[q2] at n2;clear q2;go_enter Tryz.func84,Tryz.ntmps84;go_wp2;go_returns;exact⟨rfl,(Ext.refl _).alloc _⟩
        rw[q2] at n2;clear q2;go_enter Tryz.func84,Tryz.ntmps84;go_wp2;go_returns;exact⟨rfl,(Ext.refl _).alloc _⟩
      rw[q1] at n1;clear q1 n2;go_enter Tryz.func84,Tryz.ntmps84;go_wp2;go_returns;exact⟨rfl,(Ext.refl _).alloc _⟩
    skip
    have fB:0 < B:=by omega
    have fB':decide (0 < B)=true:=decide_eq_true fB;rw[decide_eq_false hB];clear hB;go_enter Tryz.func84,Tryz.ntmps84;go_wp2;go_returns;exact⟨rfl,(Ext.refl _).alloc _⟩
  skip
  have fR:0 < R:=by omega
  have fR':decide (0 < R)=true:=decide_eq_true fR;rw[decide_eq_false hR];clear hR;go_enter Tryz.func84,Tryz.ntmps84;go_wp2;go_returns;exact⟨rfl,(Ext.refl _).alloc _⟩
theorem fields_4 (nm:ByteArray)(r a b:Option Addr)(R B rc ac bc:Nat)(al:List Two)(w:World)(h:TwoIn w a al):
    Calls Tryz.prog 84 #[.agg #[.int .i64 4,.string nm,.slice r R rc,.slice a al.length ac,.slice b B bc]] w fun e w'=>e=.returned (.int .i64 (if(decide (R=0) && decide (B=0) && setB al)=true then 0 else 1))/\Ext w w':=by
  by_cases hR:R=0
  · subst hR;by_cases hB:B=0
    · subst hB;by_cases h1:al.length=1
      · obtain⟨⟨k,v⟩,rfl⟩:∃ q,al=[q]:=by
          match al,h1 with
          | [q],_=>exact⟨q,rfl⟩
        obtain⟨g,o,rfl,c0,c1⟩:=h 0 (by simp);simp only[Nat.zero_mul,Nat.add_zero,List.getElem_cons_zero] at c0 c1;have d0:∀ o',(w.alloc o').cell? ⟨g,o,none⟩=some (.string k):=fun o'=>((Ext.refl w).alloc o').cell c0
        have d1:∀ o',(w.alloc o').cell? ⟨g,o+1,none⟩=some (.string v):=fun o'=>((Ext.refl w).alloc o').cell c1
        clear h h1 c1;have n1:=@size0 k;rw[show setB [(k,v)]=decide (k.size=0) from rfl];cases q1:decide (k.size=0)
        all_goals
          rw[q1] at n1;clear q1;simp only[List.length_cons,List.length_nil,Nat.zero_add];go_enter Tryz.func84,Tryz.ntmps84;go_wp2;go_returns;exact⟨rfl,(Ext.refl _).alloc _⟩
      have hm:setB al=false:=by
        unfold setB
        match al,h1 with
        | [],_=>rfl
        | [q],h1=>exact absurd rfl h1
        | _::_::_,_=>rfl
      rw[hm];obtain⟨f1,f2⟩:=ne_facts (x:=(al.length:Int)) (k:=1) (by omega);clear hm h1 h;generalize al.length=A at *;go_enter Tryz.func84,Tryz.ntmps84;go_wp2;go_returns;exact⟨rfl,(Ext.refl _).alloc _⟩
    skip
    have fB:0 < B:=by omega
    have fB':decide (0 < B)=true:=decide_eq_true fB;rw[decide_eq_false hB];clear hB h;generalize al.length=A at *;go_enter Tryz.func84,Tryz.ntmps84;go_wp2;go_returns;exact⟨rfl,(Ext.refl _).alloc _⟩
  skip
  have fR:0 < R:=by omega
  have fR':decide (0 < R)=true:=decide_eq_true fR;rw[decide_eq_false hR];clear hR h;generalize al.length=A at *;go_enter Tryz.func84,Tryz.ntmps84;go_wp2;go_returns;exact⟨rfl,(Ext.refl _).alloc _⟩
theorem fields_else (k:Int)(nm:ByteArray)(r a b:Option Addr)(R A B rc ac bc:Nat)(w:World)(h:k < 1\/5 < k):
    Calls Tryz.prog 84 #[.agg #[.int .i64 k,.string nm,.slice r R rc,.slice a A ac,.slice b B bc]] w fun e w'=>e=.returned (.int .i64 1)/\Ext w w':=by
  by_cases h1:k < 1
  · have f1:decide (k < 1)=true:=decide_eq_true h1;clear h h1;go_enter Tryz.func84,Tryz.ntmps84;go_wp2;go_returns;exact⟨rfl,(Ext.refl _).alloc _⟩
  have f1:decide (k < 1)=false:=decide_eq_false h1;have f2:decide (5 < k)=true:=decide_eq_true (by omega);clear h h1;go_enter Tryz.func84,Tryz.ntmps84;go_wp2;go_returns;exact⟨rfl,(Ext.refl _).alloc _⟩
theorem fields_any (k:Int)(nm:ByteArray)(rs al:List Two)(body:List Stm)(r a b:Option Addr)(rc ac bc:Nat)(w:World)(h:TwoIn w a al):
    Calls Tryz.prog 84 #[.agg #[.int .i64 k,.string nm,.slice r rs.length rc,.slice a al.length ac,.slice b body.length bc]] w fun e w'=>e=.returned (.int .i64 (if formB (.mk k nm rs al body)=true then 0 else 1))/\Ext w w':=by
  rw[formB_mk];by_cases h1:k=1
  · rw[if_pos h1];subst h1;exact fields_1 nm r a b _ _ _ rc ac bc w
  rw[if_neg h1];by_cases h2:k=2
  · rw[if_pos h2];subst h2;exact fields_2 nm r a b _ _ _ rc ac bc w
  rw[if_neg h2];by_cases h3:k=3
  · rw[if_pos h3];subst h3;exact fields_3 nm r a b _ _ _ rc ac bc w
  rw[if_neg h3];by_cases h4:k=4
  · rw[if_pos h4];subst h4;exact fields_4 nm r a b _ _ rc ac bc al w h
  rw[if_neg h4];by_cases h5:k=5
  · rw[if_pos h5];subst h5;exact fields_5 nm r a b _ _ _ rc ac bc w
  rw[if_neg h5];exact fields_else k nm r a b _ _ _ rc ac bc w (by omega)
end Go.Proofs.YtjaeedbjknejdaaGreatDoor.Tr
