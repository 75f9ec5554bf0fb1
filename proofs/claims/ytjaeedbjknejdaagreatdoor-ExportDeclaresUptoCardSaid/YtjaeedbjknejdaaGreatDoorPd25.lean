/- Packed texts: TreStaR, TrePreR, TreVldR -/
import Derived.Test.YtjaeedbjknejdaaGreatDoorPd24
set_option linter.unusedVariables false
set_option linter.unusedSimpArgs false
set_option maxHeartbeats 16000000
set_option maxRecDepth 100000
namespace Go.Proofs.YtjaeedbjknejdaaGreatDoor.Tr
open Go.RowKit Go.Sort Go.Lib Go.Shelf Fx Lx
theorem flat_cells (w:World)(k lev:Int)(nm:ByteArray)(r a b:Option Addr)(R A B rc ac bc:Nat):∀ w1,Ext (w.alloc (.cells #[.int .i64 k,.string nm,.slice r R rc,.slice a A ac,.slice b B bc,.int .i64 lev] 88)) w1 ->
  w1.cell? ⟨w.heap.size,0,none⟩=some (.int .i64 k)/\w1.cell? ⟨w.heap.size,1,none⟩=some (.string nm)/\w1.cell? ⟨w.heap.size,2,none⟩=some (.slice r R rc)/\w1.cell? ⟨w.heap.size,3,none⟩=some (.slice a A ac)/\w1.cell? ⟨w.heap.size,4,none⟩=some (.slice b B bc)/\w1.cell? ⟨w.heap.size,5,none⟩=some (.int .i64 lev):=fun w1 x=>by
 have hb:=heap_alloc_new w (.cells #[.int .i64 k,.string nm,.slice r R rc,.slice a A ac,.slice b B bc,.int .i64 lev] 88);refine⟨x.cell ?_,x.cell ?_,x.cell ?_,x.cell ?_,x.cell ?_,x.cell ?_⟩ <;> rw[Lib.cell_of_heap hb] <;> rfl
theorem statR_any (kind:Int)(nm:ByteArray)(rs al:List Two)(body:List Stm)(r a b:Option Addr)(rc ac bc lev:Nat)(w:World)(hr:TwoIn w r rs)(ha:TwoIn w a al)(hrl:rs.length<=maxLen)(hn:nm.size<=9223372036854775807)
  (hs:∀ q ∈ al,q.1.size<=9223372036854775807/\q.2.size<=9223372036854775807) (ht:∀ q ∈ rs,q.1.size<=9223372036854775807/\q.2.size<=9223372036854775807) :
  Calls Tryz.prog 41 #[.agg #[.int .i64 kind,.string nm,.slice r rs.length rc,.slice a al.length ac,.slice b body.length bc,.int .i64 lev]] w fun e w'=>e=.returned (.int .i64 (stmE (.mk kind nm rs al body,lev)))/\Ext w w':=by
 rw[stmE_eq];have hfm:=fun w' (x:Ext w w')=>fields_any kind nm rs al body r a b rc ac bc w' (ha.ext x)
 have hat:=fun w' (x:Ext w w')=>attrR_any kind nm rs al body r a b rc ac bc w' (ha.ext x) hs
 obtain⟨X,hX⟩:∃ X,X=headE (.mk kind nm rs al body,lev):=⟨_,rfl⟩;rw[<-hX];rw[headE_mk] at hX;rw[show(Stm.mk kind nm rs al body,lev).1.refs=rs from rfl];dsimp only;have hnm:=fun w=>name07_any nm hn w
 have hkd:=form_kinds (.mk kind nm rs al body);have hx0:Ext w (w.alloc (.cells #[.int .i64 kind,.string nm,.slice r rs.length rc,.slice a al.length ac,.slice b body.length bc,.int .i64 lev] 88)):=(Ext.refl _).alloc _;have hcl:=flat_cells w kind lev nm r a b rs.length al.length body.length rc ac bc;generalize formB (.mk kind nm rs al body)=fb at hfm hX hkd;generalize attrsE (.mk kind nm rs al body)=ae at hat ⊢;generalize body.length=B at *;generalize al.length=A at *;generalize nameB nm.data.toList=nb at hnm hX;have HFM:=hid hfm;have HAT:=hid hat;have HNM:=hid hnm;have HCL:=hid hcl;have HR:=hid hr;have HT:=hid ht;obtain⟨N,hN⟩:∃ N,N=rs.length:=⟨_,rfl⟩;rw[<-hN] at HFM HAT HCL hx0 hrl ⊢;have HN:=hid hN;have hrl9:N<=9223372036854775807:=by unfold maxLen at hrl;omega
 obtain⟨k0,k1,k2,k3,k4,k5⟩:=HCL.out _ (Ext.refl _);clear hfm hat hnm hcl hr ht hs ha hn hN hrl;cases fb
 ·rw[if_pos rfl] at hX;subst hX;rw[if_pos (by decide)];clear hkd;go_enter Tryz.func41,Tryz.ntmps41;go_wp2_with (go_at_call 84;refine(HFM.out _ hx0).mono ?_;rintro e w1 ⟨rfl,x1⟩);go_returns;exact⟨rfl,hx0.trans x1⟩
 have hkk:=(hkd rfl).1;simp only[Stm.kind] at hkk;rw[if_neg (by decide)] at hX;clear hkd;by_cases h2:kind=5/\6<=lev
 ·rw[if_pos h2] at hX;subst hX;rw[if_pos (by decide)];obtain⟨rfl,h6⟩:=h2;have g1:decide ((6:Int)<=lev)=true:=decide_eq_true (by omega);clear hkk;go_enter Tryz.func41,Tryz.ntmps41;go_wp2_with (go_at_call 84;refine(HFM.out _ hx0).mono ?_;rintro e w1 ⟨rfl,x1⟩;obtain⟨k0,k1,k2,k3,k4,k5⟩:=HCL.out _ x1);go_returns;exact⟨rfl,hx0.trans x1⟩
 rw[if_neg h2] at hX;obtain⟨F,hF⟩:∃ F,F=rs.all refB:=⟨_,rfl⟩;rw[<-hF];have HF:Hid (F=(rs.drop 0).all refB):=hid hF;clear hF
 have ways:(((kind == 5)=true/\(kind != 2)=true/\(kind == 2)=false/\(kind != 3)=true/\(kind == 3)=false/\decide ((6:Int)<=lev)=false)\/((kind == 5)=false/\(kind != 2)=true/\(kind == 2)=false/\(kind != 3)=true/\(kind == 3)=false/\decide ((6:Int)<=lev)=decide ((6:Int)<=lev)))/\X=(if nb=false then 5 else 0) \/
   ((kind=2\/kind=3)/\X=0):=by
  by_cases q2:kind=2\/kind=3
  ·refine .inr ⟨q2,?_⟩;rw[hX,if_neg (by omega)]
  refine .inl ⟨?_,?_⟩
  ·obtain⟨a1,a2⟩:=ne_facts (x:=kind) (k:=2) (by omega);obtain⟨b1,b2⟩:=ne_facts (x:=kind) (k:=3) (by omega);by_cases h5:kind=5
   ·exact .inl ⟨by rw[h5];rfl,a2,a1,b2,b1,decide_eq_false (fun h=>h2 ⟨h5,by omega⟩)⟩
   exact .inr ⟨(ne_facts h5).1,a2,a1,b2,b1,rfl⟩
  rw[hX];have:kind=1\/kind=4\/kind=5:=by omega
  simp[this]
 have HX:=hid hX;clear hX h2 hkk HX;obtain⟨V,hV⟩:∃ V,V=if F=false then 5 else ae:=⟨_,rfl⟩;have HVV:=hid hV;rw[<-hV];clear hV;rcases ways with⟨ways,hX⟩ | ⟨ways,rfl⟩
 ·cases nb
  ·rw[if_pos rfl] at hX;subst hX;rw[if_pos (by decide)];rcases ways with⟨f5,f2,f2',f3,f3',g6⟩ | ⟨f5,f2,f2',f3,f3',-⟩
   all_goals
    go_enter Tryz.func41,Tryz.ntmps41;go_wp2_with (first | (go_at_call 84;refine(HFM.out _ hx0).mono ?_;rintro e w1 ⟨rfl,x1⟩;obtain⟨k0,k1,k2,k3,k4,k5⟩:=HCL.out _ x1) | (go_at_call 39;refine(HNM.out _).mono ?_;rintro e w3 ⟨rfl,rfl⟩));go_returns;exact⟨rfl,hx0.trans x1⟩
  rw[if_neg (by decide)] at hX;subst hX;rw[if_neg (by decide)];rcases ways with⟨f5,f2,f2',f3,f3',g6⟩ | ⟨f5,f2,f2',f3,f3',-⟩
  all_goals
   go_enter Tryz.func41,Tryz.ntmps41;go_wp2_with (first | (go_at_call 84;refine(HFM.out _ hx0).mono ?_;rintro e w1 ⟨rfl,x1⟩;obtain⟨k0,k1,k2,k3,k4,k5⟩:=HCL.out _ x1) | (go_at_call 39;refine(HNM.out _).mono ?_;rintro e w3 ⟨rfl,rfl⟩))
   go_loopw [4] (fun i' wr=>∃ k:Nat,k<=N/\i'=.int .i64 k/\Ext (w.alloc (.cells #[.int .i64 kind,.string nm,.slice r N rc,.slice a A ac,.slice b B bc,.int .i64 lev] 88)) wr/\Hid (F=(rs.drop k).all refB)) (fun i' _=>N - (RowKit.intOf i').toNat)
   case atStart=>exact⟨0,by omega,rfl,x1,HF⟩
   obtain⟨k,hk,rfl,hx,hb⟩:=hrel;clear HF x1 k0 k1 k2 k3 k4 k5;obtain⟨k0,k1,k2,k3,k4,k5⟩:=HCL.out _ hx;by_cases hlt:k < N
   ·have hkl:k < rs.length:=by rw[<-HN.out];exact hlt
    obtain⟨g,o,rfl,c0,c1⟩:=(HR.out.ext (hx0.trans hx)) k hkl;obtain⟨n,d,hq⟩:∃ n d,rs[k]=(n,d):=⟨_,_,rfl⟩;rw[hq] at c0 c1;have hst:=hb.out;rw[List.drop_eq_getElem_cons hkl,List.all_cons,hq] at hst;have hds:=HT.out _ (List.getElem_mem hkl);rw[hq] at hds;have hx1:=hx.alloc (.cells #[.string n,.string d] 90);have hz:=@size0 d;unfold refB at hst;dsimp only at hst;generalize decide (d.size=0)=z at hst hz;have HDS:=hid hds;clear hq hb hds hkl;cases hp:nameB n.data.toList
    ·have hf:Hid (F=false):=hid (by rw[hst,hp];rfl);clear hst hz;go_wp2_with (go_at_call 39;refine(name07_any _ (by first | exact HDS.out.1 | exact HDS.out.2) _).mono ?_;rintro e w3 ⟨rfl,rfl⟩);go_returns;exact⟨ret_int (by rw[HVV.out,hf.out];rfl),hx0.trans hx1⟩
    skip
    cases z
    ·cases hq2:nameB d.data.toList
     ·have hf:Hid (F=false):=hid (by rw[hst,hp,hq2];rfl);clear hst;go_wp2_with (go_at_call 39;refine(name07_any _ (by first | exact HDS.out.1 | exact HDS.out.2) _).mono ?_;rintro e w3 ⟨rfl,rfl⟩);go_returns;exact⟨ret_int (by rw[HVV.out,hf.out];rfl),hx0.trans hx1⟩
     have hf:Hid (F=(rs.drop (k+1)).all refB):=hid (by rw[hst,hp,hq2];rfl);clear hst;go_wp2_with (go_at_call 39;refine(name07_any _ (by first | exact HDS.out.1 | exact HDS.out.2) _).mono ?_;rintro e w3 ⟨rfl,rfl⟩)
     go_roundw
     case rel=>exact⟨k+1,by omega,by go_num,hx1,hf⟩
     case measure=>simp[RowKit.intOf];omega
    have hf:Hid (F=(rs.drop (k+1)).all refB):=hid (by rw[hst,hp];rfl);clear hst;go_wp2_with (go_at_call 39;refine(name07_any _ (by first | exact HDS.out.1 | exact HDS.out.2) _).mono ?_;rintro e w3 ⟨rfl,rfl⟩)
    go_roundw
    case rel=>exact⟨k+1,by omega,by go_num,hx1,hf⟩
    case measure=>simp[RowKit.intOf];omega
   have hf:Hid (F=true):=hid (by rw[hb.out,List.drop_eq_nil_of_le (by rw[<-HN.out];omega)];rfl);clear hb;go_wp2_with (go_at_call 85;refine(HAT.out _ (hx0.trans hx)).mono ?_;rintro e w3 ⟨rfl,x3⟩);go_returns;exact⟨ret_int (by rw[HVV.out,hf.out];rfl),(hx0.trans hx).trans x3⟩
 rw[if_neg (by decide)];rcases ways with rfl | rfl
 ·skip
  go_enter Tryz.func41,Tryz.ntmps41;go_wp2_with (first | (go_at_call 84;refine(HFM.out _ hx0).mono ?_;rintro e w1 ⟨rfl,x1⟩;obtain⟨k0,k1,k2,k3,k4,k5⟩:=HCL.out _ x1) | (go_at_call 39;refine(HNM.out _).mono ?_;rintro e w3 ⟨rfl,rfl⟩))
  go_loopw [4] (fun i' wr=>∃ k:Nat,k<=N/\i'=.int .i64 k/\Ext (w.alloc (.cells #[.int .i64 2,.string nm,.slice r N rc,.slice a A ac,.slice b B bc,.int .i64 lev] 88)) wr/\Hid (F=(rs.drop k).all refB)) (fun i' _=>N - (RowKit.intOf i').toNat)
  case atStart=>exact⟨0,by omega,rfl,x1,HF⟩
  obtain⟨k,hk,rfl,hx,hb⟩:=hrel;clear HF x1 k0 k1 k2 k3 k4 k5;obtain⟨k0,k1,k2,k3,k4,k5⟩:=HCL.out _ hx;by_cases hlt:k < N
  ·have hkl:k < rs.length:=by rw[<-HN.out];exact hlt
   obtain⟨g,o,rfl,c0,c1⟩:=(HR.out.ext (hx0.trans hx)) k hkl;obtain⟨n,d,hq⟩:∃ n d,rs[k]=(n,d):=⟨_,_,rfl⟩;rw[hq] at c0 c1;have hst:=hb.out;rw[List.drop_eq_getElem_cons hkl,List.all_cons,hq] at hst;have hds:=HT.out _ (List.getElem_mem hkl);rw[hq] at hds;have hx1:=hx.alloc (.cells #[.string n,.string d] 90);have hz:=@size0 d;unfold refB at hst;dsimp only at hst;generalize decide (d.size=0)=z at hst hz;have HDS:=hid hds;clear hq hb hds hkl;cases hp:nameB n.data.toList
   ·have hf:Hid (F=false):=hid (by rw[hst,hp];rfl);clear hst hz;go_wp2_with (go_at_call 39;refine(name07_any _ (by first | exact HDS.out.1 | exact HDS.out.2) _).mono ?_;rintro e w3 ⟨rfl,rfl⟩);go_returns;exact⟨ret_int (by rw[HVV.out,hf.out];rfl),hx0.trans hx1⟩
   skip
   cases z
   ·cases hq2:nameB d.data.toList
    ·have hf:Hid (F=false):=hid (by rw[hst,hp,hq2];rfl);clear hst;go_wp2_with (go_at_call 39;refine(name07_any _ (by first | exact HDS.out.1 | exact HDS.out.2) _).mono ?_;rintro e w3 ⟨rfl,rfl⟩);go_returns;exact⟨ret_int (by rw[HVV.out,hf.out];rfl),hx0.trans hx1⟩
    have hf:Hid (F=(rs.drop (k+1)).all refB):=hid (by rw[hst,hp,hq2];rfl);clear hst;go_wp2_with (go_at_call 39;refine(name07_any _ (by first | exact HDS.out.1 | exact HDS.out.2) _).mono ?_;rintro e w3 ⟨rfl,rfl⟩)
    go_roundw
    case rel=>exact⟨k+1,by omega,by go_num,hx1,hf⟩
    case measure=>simp[RowKit.intOf];omega
   have hf:Hid (F=(rs.drop (k+1)).all refB):=hid (by rw[hst,hp];rfl);clear hst;go_wp2_with (go_at_call 39;refine(name07_any _ (by first | exact HDS.out.1 | exact HDS.out.2) _).mono ?_;rintro e w3 ⟨rfl,rfl⟩)
   go_roundw
   case rel=>exact⟨k+1,by omega,by go_num,hx1,hf⟩
   case measure=>simp[RowKit.intOf];omega
  have hf:Hid (F=true):=hid (by rw[hb.out,List.drop_eq_nil_of_le (by rw[<-HN.out];omega)];rfl);clear hb;go_wp2_with (go_at_call 85;refine(HAT.out _ (hx0.trans hx)).mono ?_;rintro e w3 ⟨rfl,x3⟩);go_returns;exact⟨ret_int (by rw[HVV.out,hf.out];rfl),(hx0.trans hx).trans x3⟩
 skip
 go_enter Tryz.func41,Tryz.ntmps41;go_wp2_with (first | (go_at_call 84;refine(HFM.out _ hx0).mono ?_;rintro e w1 ⟨rfl,x1⟩;obtain⟨k0,k1,k2,k3,k4,k5⟩:=HCL.out _ x1) | (go_at_call 39;refine(HNM.out _).mono ?_;rintro e w3 ⟨rfl,rfl⟩))
 go_loopw [4] (fun i' wr=>∃ k:Nat,k<=N/\i'=.int .i64 k/\Ext (w.alloc (.cells #[.int .i64 3,.string nm,.slice r N rc,.slice a A ac,.slice b B bc,.int .i64 lev] 88)) wr/\Hid (F=(rs.drop k).all refB)) (fun i' _=>N - (RowKit.intOf i').toNat)
 case atStart=>exact⟨0,by omega,rfl,x1,HF⟩
 obtain⟨k,hk,rfl,hx,hb⟩:=hrel;clear HF x1 k0 k1 k2 k3 k4 k5;obtain⟨k0,k1,k2,k3,k4,k5⟩:=HCL.out _ hx;by_cases hlt:k < N
 ·have hkl:k < rs.length:=by rw[<-HN.out];exact hlt
  obtain⟨g,o,rfl,c0,c1⟩:=(HR.out.ext (hx0.trans hx)) k hkl;obtain⟨n,d,hq⟩:∃ n d,rs[k]=(n,d):=⟨_,_,rfl⟩;rw[hq] at c0 c1;have hst:=hb.out;rw[List.drop_eq_getElem_cons hkl,List.all_cons,hq] at hst;have hds:=HT.out _ (List.getElem_mem hkl);rw[hq] at hds;have hx1:=hx.alloc (.cells #[.string n,.string d] 90);have hz:=@size0 d;unfold refB at hst;dsimp only at hst;generalize decide (d.size=0)=z at hst hz;have HDS:=hid hds;clear hq hb hds hkl;cases hp:nameB n.data.toList
  ·have hf:Hid (F=false):=hid (by rw[hst,hp];rfl);clear hst hz;go_wp2_with (go_at_call 39;refine(name07_any _ (by first | exact HDS.out.1 | exact HDS.out.2) _).mono ?_;rintro e w3 ⟨rfl,rfl⟩);go_returns;exact⟨ret_int (by rw[HVV.out,hf.out];rfl),hx0.trans hx1⟩
  skip
  cases z
  ·cases hq2:nameB d.data.toList
   ·have hf:Hid (F=false):=hid (by rw[hst,hp,hq2];rfl);clear hst;go_wp2_with (go_at_call 39;refine(name07_any _ (by first | exact HDS.out.1 | exact HDS.out.2) _).mono ?_;rintro e w3 ⟨rfl,rfl⟩);go_returns;exact⟨ret_int (by rw[HVV.out,hf.out];rfl),hx0.trans hx1⟩
   have hf:Hid (F=(rs.drop (k+1)).all refB):=hid (by rw[hst,hp,hq2];rfl);clear hst;go_wp2_with (go_at_call 39;refine(name07_any _ (by first | exact HDS.out.1 | exact HDS.out.2) _).mono ?_;rintro e w3 ⟨rfl,rfl⟩)
   go_roundw
   case rel=>exact⟨k+1,by omega,by go_num,hx1,hf⟩
   case measure=>simp[RowKit.intOf];omega
  have hf:Hid (F=(rs.drop (k+1)).all refB):=hid (by rw[hst,hp];rfl);clear hst;go_wp2_with (go_at_call 39;refine(name07_any _ (by first | exact HDS.out.1 | exact HDS.out.2) _).mono ?_;rintro e w3 ⟨rfl,rfl⟩)
  go_roundw
  case rel=>exact⟨k+1,by omega,by go_num,hx1,hf⟩
  case measure=>simp[RowKit.intOf];omega
 have hf:Hid (F=true):=hid (by rw[hb.out,List.drop_eq_nil_of_le (by rw[<-HN.out];omega)];rfl);clear hb;go_wp2_with (go_at_call 85;refine(HAT.out _ (hx0.trans hx)).mono ?_;rintro e w3 ⟨rfl,x3⟩);go_returns;exact⟨ret_int (by rw[HVV.out,hf.out];rfl),(hx0.trans hx).trans x3⟩
end Go.Proofs.YtjaeedbjknejdaaGreatDoor.Tr

namespace Go.Proofs.YtjaeedbjknejdaaGreatDoor.Tr
open Go.RowKit Go.Sort Go.Lib Go.Shelf Fx Lx
def flC (p:Stm × Nat)(r a b:Option Addr)(rc ac bc:Nat):List Value:=[.int .i64 p.1.kind,.string p.1.name,.slice r p.1.refs.length rc,.slice a p.1.attrs.length ac,.slice b p.1.body.length bc,.int .i64 p.2]
structure FlatAt (n:Nat)(w:World)(r a b:Option Addr)(rc ac bc:Nat)(p:Stm × Nat):Prop where
 hr:TwoAt n w r p.1.refs
 ha:TwoAt n w a p.1.attrs
 hb:StmsAt n w b p.1.body
 lr:p.1.refs.length<=rc
 la:p.1.attrs.length<=ac
 mr:rc<=maxLen
 ma:ac<=maxLen
 mb:p.1.body.length<=maxLen
theorem FlatAt.below {n:Nat}{w w':World}{r a b:Option Addr}{rc ac bc:Nat}{p:Stm × Nat}(h:FlatAt n w r a b rc ac bc p)(x:Below n w w'):FlatAt n w' r a b rc ac bc p :=
 ⟨h.hr.below x,h.ha.below x,StmsAt.below x _ h.hb,h.lr,h.la,h.mr,h.ma,h.mb⟩
def Sixes (n:Nat)(w:World):List Value->List (Stm × Nat)->Prop
 | C,[]=>C=[]
 | C,p::F=>∃ r a b rc ac bc C',C=flC p r a b rc ac bc++C'/\FlatAt n w r a b rc ac bc p/\Sixes n w C' F
theorem Sixes.below {n:Nat}{w w':World}(x:Below n w w'):∀ {F:List (Stm × Nat)} {C:List Value},Sixes n w C F->Sixes n w' C F
 | [],_,h=>h
 | _::_,_,⟨r,a,b,rc,ac,bc,C',e,h,t⟩=>⟨r,a,b,rc,ac,bc,C',e,h.below x,Sixes.below x t⟩
theorem Sixes.app {n:Nat}{w:World}:∀ {F G:List (Stm × Nat)} {C D:List Value},Sixes n w C F->Sixes n w D G->Sixes n w (C++D) (F++G)
 | [],_,C,D,h,k=>by have:C=[]:=h;subst this;exact k
 | _::_,_,_,D,⟨r,a,b,rc,ac,bc,C',e,h,t⟩,k=>⟨r,a,b,rc,ac,bc,C'++D,by rw[e,List.append_assoc],h,Sixes.app t k⟩
theorem Sixes.len {n:Nat}{w:World}:∀ {F:List (Stm × Nat)} {C:List Value},Sixes n w C F->C.length=F.length * 6
 | [],C,h=>by have:C=[]:=h;subst this;rfl
 | _::F,_,⟨r,a,b,rc,ac,bc,C',e,h,t⟩=>by
  have:=Sixes.len t;rw[e,List.length_append,this,List.length_cons];show 6+F.length * 6=_;omega
theorem Sixes.one {n:Nat}{w:World}:∀ {F:List (Stm × Nat)} {C:List Value},Sixes n w C F->∀ u ∈ C,u.oneCell'=true
 | [],C,h,u,hu=>by have:C=[]:=h;subst this;cases hu
 | _::F,_,⟨r,a,b,rc,ac,bc,C',e,h,t⟩,u,hu=>by
  rw[e,List.mem_append] at hu;rcases hu with hu | hu
  ·simp only[flC,List.mem_cons,List.not_mem_nil,or_false] at hu;rcases hu with rfl | rfl | rfl | rfl | rfl | rfl <;> rfl
  ·exact Sixes.one t u hu
theorem Sixes.at {n:Nat}{w:World}:∀ {F:List (Stm × Nat)} {C:List Value},Sixes n w C F->∀ k (hk:k < F.length),∃ r a b rc ac bc,FlatAt n w r a b rc ac bc F[k]/\∀ j u,(flC F[k] r a b rc ac bc)[j]? = some u->C[k * 6+j]? = some u
 | [],_,_,k,hk=>absurd hk (by simp)
 | p::F,_,⟨r,a,b,rc,ac,bc,C',e,h,t⟩,0,_=>by
  refine⟨r,a,b,rc,ac,bc,h,fun j u hj=>?_⟩;have hj6:j < (flC p r a b rc ac bc).length:=(List.getElem?_eq_some_iff.1 hj).1;rw[e,Nat.zero_mul,Nat.zero_add,List.getElem?_append_left hj6];exact hj
 | p::F,_,⟨r,a,b,rc,ac,bc,C',e,h,t⟩,k+1,hk=>by
  obtain⟨r',a',b',rc',ac',bc',h',q⟩:=Sixes.at t k (by simpa using hk);refine⟨r',a',b',rc',ac',bc',h',fun j u hj=>?_⟩;have l6:(flC p r a b rc ac bc).length=6:=rfl;rw[e,List.getElem?_append_right (by rw[l6];omega),l6,show(k+1) * 6+j - 6=k * 6+j by omega];exact q j u hj
theorem info_flat : (Tryz.prog.info? 88).map (fun i=>(i.zero.map (fun z=>z.cells.size),i.size,i.bytes))=some (some 6,6,104):=by kernel_rfl
def PreRes (n B:Nat)(F:List (Stm × Nat))(e:Ending)(w:World):Prop :=
 ∃ g c C,e=.returned (.slice (some ⟨g,0,none⟩) F.length c)/\w.ownsRow B 88 6 (.slice (some ⟨g,0,none⟩) F.length c) F.length C/\Sixes n w C F
theorem cell_new6 (w:World)(l:List Value)(T:TypeId)(j:Nat)(u:Value)(h:l[j]? = some u):
  (w.alloc (.cells l.toArray T)).cell? ((⟨w.heap.size,0,none⟩:Addr).add j)=some u:=by
 have hb:=heap_alloc_new w (.cells l.toArray T);have e:(⟨w.heap.size,0,none⟩:Addr).add j=⟨w.heap.size,j,none⟩:=by simp[Addr.add];exact fun h=>h.symm
 rw[e,Lib.cell_of_heap hb]
 simpa using h
theorem own_some {w:World}{B n:Nat}{e:TypeId}{v:Value}{size:Nat}{xs:List Value}(h:w.ownsRow B e size v n xs)(hv:v ≠ .slice none 0 0):∃ g cap,v=.slice (some ⟨g,0,none⟩) n cap:=by
 rcases h.2 with⟨h1,_⟩ | ⟨g,cap,cur,hv',_⟩
 ·exact absurd h1 hv
 exact⟨g,cap,hv'⟩
theorem flat_lev : ∀ (M:Nat) (L:List Stm),sizeL L<=M->∀ lev lev':Nat,(flatL lev L).length=(flatL lev' L).length:=by
 intro M
 induction M using Nat.strongRecOn with
 | _ M ih =>
 intro L
 induction L with
 | nil=>intro _ _ _;rw[flatL_nil,flatL_nil]
 | cons x r ihr =>
  intro hM lev lev';rw[sizeL_cons] at hM;have hb:=sizeS_body x;rw[flatL_cons,flatL_cons,List.length_append,List.length_append,flatS_eq,flatS_eq,List.length_cons,List.length_cons,ihr (by omega) lev lev',ih (sizeL x.body) (by omega) x.body (Nat.le_refl _) _ (if x.kind=5 then lev'+1 else lev')]
theorem flat_zero (lev:Nat)(L:List Stm):(flatL lev L).length=(flatL 0 L).length:=flat_lev (sizeL L) L (Nat.le_refl _) lev 0
theorem flat_ge : ∀ L:List Stm,L.length<=(flatL 0 L).length
 | []=>by simp
 | x::r=>by
  have:=flat_ge r;rw[flatL_cons,flatS_eq,List.length_append,List.length_cons,List.length_cons];omega
theorem flat_takes (lev:Nat)(L:List Stm)(k:Nat):(flatL lev (L.take k)).length<=(flatL 0 L).length:=by
 rw[<-flat_zero lev L];have h2:flatL lev L=flatL lev (L.take k)++flatL lev (L.drop k):=by rw[<-flatL_app,List.take_append_drop]
 rw[h2,List.length_append];omega
theorem preR_cnt : ∀ (M:Nat) (L:List Stm) (b:Option Addr) (cap lev n:Nat) (w:World),(flatL 0 L).length<=M->M<=1099511627776->lev+M<=4611686018427387904->StmsAt n w b L->n<=w.heap.size ->
  Calls Tryz.prog 40 #[.slice b L.length cap,.int .i64 lev] w fun e w'=>PreRes n w.heap.size (flatL lev L) e w'/\Ext w w':=by
 intro M
 induction M using Nat.strongRecOn with
 | _ M ih =>
 intro L b cap lev n w hM hmax hlev h hn;obtain⟨N,hN⟩:∃ N,N=L.length:=⟨_,rfl⟩;have hNM:N<=1099511627776:=by have:=flat_ge L;omega
 have hl1:lev<=4611686018427387904:=by omega
 have ho0:(w.alloc (.cells #[] 88)).ownsRow w.heap.size 88 6 (.slice (some ⟨w.heap.size,0,none⟩) 0 0) 0 []:=World.ownsRow_made w #[] 0 (Nat.le_refl _) (by unfold maxLen;omega) rfl;have hx0:Ext w (w.alloc (.cells #[] 88)):=(Ext.refl _).alloc _;rw[<-hN]
 obtain⟨i0,hi,hz0⟩:∃ i,Tryz.prog.info? 88=some i/\(i.zero.map (fun z=>z.cells.size),i.size,i.bytes)=(some 6,6,104):=by
  have:=info_flat;cases hq:Tryz.prog.info? 88 with
  | none=>rw[hq] at this;cases this
  | some i=>rw[hq] at this;exact⟨i,rfl,Option.some.inj this⟩
 obtain⟨z0,hzz,hz3⟩:∃ z,i0.zero=some z/\z.cells.size=6:=by
  have:=(Prod.mk.inj hz0).1;cases hq:i0.zero with
  | none=>rw[hq] at this;cases this
  | some z=>rw[hq] at this;exact⟨z,rfl,Option.some.inj this⟩
 have hz1:i0.size=6:=(Prod.mk.inj (Prod.mk.inj hz0).2).1;have hz2:i0.bytes=104:=(Prod.mk.inj (Prod.mk.inj hz0).2).2;have HN:=hid hN;have HI:=hid h;have HM:=hid hM;have HIH:=hid ih;have HMX:=hid hmax;have HLV:=hid hlev;have HNW:=hid hn;have HO:=hid ho0;clear hN h hM ih hmax hlev hn ho0 hz0;go_enter Tryz.func40,Tryz.ntmps40;go_wp2
 go_loopw [5,6] (fun out i' wr=>∃ (k:Nat) (O:List (Stm × Nat)) (go oc:Nat) (C:List Value),k<=N/\i'=.int .i64 k/\out=.slice (some ⟨go,0,none⟩) O.length oc/\wr.ownsRow w.heap.size 88 6 (.slice (some ⟨go,0,none⟩) O.length oc) O.length C/\Hid (Sixes n wr C O)/\Ext w wr/\Hid (O=flatL lev (L.take k))) (fun _ i' _=>N - (RowKit.intOf i').toNat)
 case atStart=>exact⟨0,[],w.heap.size,0,[],by omega,rfl,rfl,HO.out,hid rfl,hx0,hid (by rw[List.take_zero,flatL_nil])⟩
 obtain⟨k,O,go,oc,C,hk,rfl,rfl,hown,hsx,hx,ho⟩:=hrel;clear HO hx0;by_cases hlt:k < N
 ·have hkl:k < L.length:=by rw[<-HN.out];exact hlt
  have hbn:Below n w wr:=Below.mono hx HNW.out;have hin:=StmsAt.below hbn L HI.out;obtain⟨g,o,rfl,hg,hst⟩:=StmsAt.at L hin k hkl;have hok:O++flatS lev L[k]=flatL lev (L.take (k+1)):=by rw[ho.out,List.take_succ_eq_append_getElem hkl,flatL_snoc]
  have hol':O.length+(flatS lev L[k]).length<=M:=by
   rw[<-List.length_append,hok];exact Nat.le_trans (flat_takes lev L (k+1)) HM.out
  have hol:=Nat.le_trans hol' HMX.out;obtain⟨s,hs⟩:∃ s,s=L[k]:=⟨_,rfl⟩;rw[<-hs] at hst hol' hok hol;clear hs ho hin hbn;obtain⟨kind,nm,rs,al,body⟩:=s;rw[flatS_mk] at hok hol hol'
  have hbd:(flatL 0 body).length < M:=by
   rw[List.length_cons,flat_zero] at hol';omega
  rw[StmAt] at hst;obtain⟨r,rc,a,atc,b',bc,c0,c1,c2,c3,c4,hr,ha,hbs,hl1',hl2,hl3,hl4,hl5⟩:=hst;have hfl:FlatAt n wr r a b' rc atc bc (.mk kind nm rs al body,lev):=⟨hr,ha,hbs,hl1',hl2,hl3,hl4,hl5⟩;obtain⟨F,hF⟩:∃ F,F=flatL (if kind=5 then lev+1 else lev) body:=⟨_,rfl⟩;rw[<-hF,List.length_cons] at hol;rw[<-hF] at hok;have hFl:F.length<=1099511627776:=by omega
  have HOK:=hid hok;have HFL:=hid hfl;have HSX:=hid hsx.out;have HF:=hid hF;have HBD:Hid ((flatL 0 body).length < M):=hid hbd;have HOL:=hid hol;have HBS:=hid hbs;have HG:=hid hg;clear hok hfl hsx hF hbd hol' hr ha hbs hl1' hl2 hl3 hl4 hl5 hol hg;go_wp2_with (at_builtin;refine wpList_append_lies _ rfl _ _ 84 rfl w.heap.size 88 i0 z0 6 104 Tryz.underlying84 hi hzz hz1 hz2 hz3 (by decide) _ _ _ rfl (hown.alloc _) ⟨wr.heap.size,0,none⟩ 1 1 (flC (.mk kind nm rs al body,lev) r a b' rc atc bc) rfl rfl ?c1 ?c2 (by decide) ?c3 ?c4 ?c5 _ rfl ?_)
  case c1=>exact fun j u hj=>cell_new6 wr (flC (.mk kind nm rs al body,lev) r a b' rc atc bc) 88 j u hj
  case c2=>intro u hu;simp only[flC,List.mem_cons,List.not_mem_nil,or_false] at hu;rcases hu with rfl | rfl | rfl | rfl | rfl | rfl <;> rfl
  case c3=>have:=HOL.out;unfold maxLen;omega
  case c4=>have:=HOL.out;omega
  case c5=>have h:=hx.size;simp;omega
  intro g2 cap2 w5 hown' hgrow hat hlt5;have hx5:Ext w w5:=Below.grown (hx.alloc _) hgrow (by have h:=hx.size;simp;omega) (fun k hk=>(hown.lt k hk).1)
  have hb5:Below n wr w5:=by
   refine Below.grown ((Below.refl n wr).alloc (by have h:=hx.size;have:=HNW.out;omega) _) hgrow (by have h:=hx.size;have:=HNW.out;simp;omega) (fun k hk=>Nat.le_trans HNW.out (hown.lt k hk).1)
  have d0:=(hb5.cell (p:=⟨g,o+k * 5,none⟩) HG.out).trans c0;have d4:=(hb5.cell (p:=⟨g,o+k * 5+4,none⟩) HG.out).trans c4;have HS5:=hid (Sixes.app (HSX.out.below hb5) (show Sixes n w5 (flC (.mk kind nm rs al body,lev) r a b' rc atc bc++[]) [(.mk kind nm rs al body,lev)] from⟨r,a,b',rc,atc,bc,[],rfl,HFL.out.below hb5,rfl⟩));rw[List.append_nil] at HS5
  have hrec:Calls Tryz.prog 40 #[.slice b' body.length bc,.int .i64 (if kind=5 then (lev:Int)+1 else lev)] w5 fun e w'=>PreRes n w5.heap.size F e w'/\Ext w5 w':=by
   have hcast:(if kind=5 then (lev:Int)+1 else lev)=((if kind=5 then lev+1 else lev:Nat):Int):=by split <;> simp
   rw[hcast,HF.out];exact HIH.out (flatL 0 body).length HBD.out body b' bc _ n w5 (Nat.le_refl _) (by have:=HMX.out;have:=HBD.out;omega) (by have:=HLV.out;have:=HBD.out;split <;> omega) (StmsAt.below hb5 body HBS.out) (by have h:=hx5.size;have:=HNW.out;omega)
  have HREC:=hid hrec;have HOW:=hid hown';clear hrec hown' hgrow hat hown hb5 c0 c1 c2 c3 c4 HSX HFL;generalize rs.length=R at *;generalize al.length=A at *;generalize body.length=B at *;by_cases h5:kind=5
  ·subst h5;rw[if_pos rfl] at HREC
   go_wp2_with (first
    | (go_at_call 40;refine HREC.out.mono ?_;rintro e w6 ⟨⟨g6,c6,C6,rfl,hown6,hs6⟩,x6⟩)
    | (at_builtin;refine wpList_append_own _ rfl _ _ 84 rfl w.heap.size 88 i0 z0 6 104 Tryz.underlying84 hi hzz hz1 hz2 hz3 (by decide) _ _ _ rfl (own_ext' HOW.out x6) ⟨g6,0,none⟩ F.length c6 C6 rfl (hs6.len) (hown6.cells (g:=g6) rfl) hs6.one ?c6 ?c7 ?c8 ?_))
   case c6=>have:=HOL.out;unfold maxLen;omega
   case c7=>have:=HOL.out;omega
   case c8=>have h:=(hx5.trans x6).size;omega
   intro v7 w7 hown7 hgrow7 hnil7;obtain⟨g7,cap7,rfl⟩:=own_some hown7 (fun e=>hnil7 e);have hx7:Ext w w7:=Below.grown (hx5.trans x6) hgrow7 (by have h:=(hx5.trans x6).size;omega) (fun k hk=>((own_ext' HOW.out x6).lt k hk).1);have hb7:Below n w6 w7:=Below.grown (Below.refl n w6) hgrow7 (by have h:=(hx5.trans x6).size;have:=HNW.out;omega) (fun k hk=>Nat.le_trans HNW.out ((own_ext' HOW.out x6).lt k hk).1);have hb6:Below n w5 w6:=Below.mono x6 (by have h:=hx5.size;have:=HNW.out;omega);have HS7:=hid (Sixes.app ((HS5.out.below hb6).below hb7) (hs6.below hb7));have e7:(O++[(Stm.mk 5 nm rs al body,lev)]++F)=flatL lev (L.take (k+1)):=by rw[<-HOK.out,List.append_assoc];rfl
   rw[e7,List.append_assoc C] at HS7;have l7:O.length+1+F.length=(flatL lev (L.take (k+1))).length:=by rw[<-e7];simp;omega
   rw[l7] at hown7;clear hgrow7 hnil7 hown6 hs6 e7;go_wp2
   go_roundw
   case rel=>exact⟨k+1,flatL lev (L.take (k+1)),g7,cap7,_,by omega,by go_num,by rw[l7],hown7,HS7,hx7,hid rfl⟩
   case measure=>simp[RowKit.intOf];omega
  obtain⟨f5,f5'⟩:=ne_facts h5;rw[if_neg h5] at HREC;clear h5
  go_wp2_with (first
   | (go_at_call 40;refine HREC.out.mono ?_;rintro e w6 ⟨⟨g6,c6,C6,rfl,hown6,hs6⟩,x6⟩)
   | (at_builtin;refine wpList_append_own _ rfl _ _ 84 rfl w.heap.size 88 i0 z0 6 104 Tryz.underlying84 hi hzz hz1 hz2 hz3 (by decide) _ _ _ rfl (own_ext' HOW.out x6) ⟨g6,0,none⟩ F.length c6 C6 rfl (hs6.len) (hown6.cells (g:=g6) rfl) hs6.one ?c6 ?c7 ?c8 ?_))
  case c6=>have:=HOL.out;unfold maxLen;omega
  case c7=>have:=HOL.out;omega
  case c8=>have h:=(hx5.trans x6).size;omega
  intro v7 w7 hown7 hgrow7 hnil7;obtain⟨g7,cap7,rfl⟩:=own_some hown7 (fun e=>hnil7 e);have hx7:Ext w w7:=Below.grown (hx5.trans x6) hgrow7 (by have h:=(hx5.trans x6).size;omega) (fun k hk=>((own_ext' HOW.out x6).lt k hk).1);have hb7:Below n w6 w7:=Below.grown (Below.refl n w6) hgrow7 (by have h:=(hx5.trans x6).size;have:=HNW.out;omega) (fun k hk=>Nat.le_trans HNW.out ((own_ext' HOW.out x6).lt k hk).1);have hb6:Below n w5 w6:=Below.mono x6 (by have h:=hx5.size;have:=HNW.out;omega);have HS7:=hid (Sixes.app ((HS5.out.below hb6).below hb7) (hs6.below hb7));have e7:(O++[(Stm.mk kind nm rs al body,lev)]++F)=flatL lev (L.take (k+1)):=by rw[<-HOK.out,List.append_assoc];rfl
  rw[e7,List.append_assoc C] at HS7;have l7:O.length+1+F.length=(flatL lev (L.take (k+1))).length:=by rw[<-e7];simp;omega
  rw[l7] at hown7;clear hgrow7 hnil7 hown6 hs6 e7;go_wp2
  go_roundw
  case rel=>exact⟨k+1,flatL lev (L.take (k+1)),g7,cap7,_,by omega,by go_num,by rw[l7],hown7,HS7,hx7,hid rfl⟩
  case measure=>simp[RowKit.intOf];omega
 have hf:O=flatL lev L:=by rw[ho.out,List.take_of_length_le (by rw[<-HN.out];omega)]
 have HOF:=hid hf;clear ho hf;go_wp2;go_ret;rw[<-HOF.out];exact⟨⟨go,oc,C,rfl,hown,hsx.out⟩,hx⟩
theorem preR_any (M:Nat)(L:List Stm)(b:Option Addr)(cap lev n:Nat)(w:World)(hs:sizeL L<=M)(hM:M<=1048576)(hl:lev+M<=4611686018427387904)(h:StmsAt n w b L)(hn:n<=w.heap.size):
  Calls Tryz.prog 40 #[.slice b L.length cap,.int .i64 lev] w fun e w'=>PreRes n w.heap.size (flatL lev L) e w'/\Ext w w' :=
 preR_cnt M L b cap lev n w (Nat.le_trans (flatL_len 0 L) hs) (by omega) hl h hn
end Go.Proofs.YtjaeedbjknejdaaGreatDoor.Tr

namespace Go.Proofs.YtjaeedbjknejdaaGreatDoor.Tr
open Go.RowKit Go.Sort Go.Lib Go.Shelf Fx Lx
theorem six_cells {n B g c:Nat}{F:List (Stm × Nat)}{C:List Value}{w:World}(ho:w.ownsRow B 88 6 (.slice (some ⟨g,0,none⟩) F.length c) F.length C)(hs:Sixes n w C F)(k:Nat)(hk:k < F.length):
  ∃ r a b rc ac bc,FlatAt n w r a b rc ac bc F[k]/\w.cell? ⟨g,k * 6,none⟩=some (.int .i64 F[k].1.kind)/\w.cell? ⟨g,k * 6+1,none⟩=some (.string F[k].1.name)/\w.cell? ⟨g,k * 6+2,none⟩=some (.slice r F[k].1.refs.length rc)/\w.cell? ⟨g,k * 6+3,none⟩=some (.slice a F[k].1.attrs.length ac)/\w.cell? ⟨g,k * 6+4,none⟩=some (.slice b F[k].1.body.length bc)/\w.cell? ⟨g,k * 6+5,none⟩=some (.int .i64 F[k].2):=by
 obtain⟨r,a,b,rc,ac,bc,hf,hc⟩:=hs.at k hk;have h:=fun j u hj=>ho.cells (g:=g) rfl (k * 6+j) u (hc j u hj)
 have e:∀ j,(⟨g,0,none⟩:Addr).add j=⟨g,j,none⟩:=fun j=>by unfold Addr.add;split <;> simp_all
 simp only[e] at h;exact⟨r,a,b,rc,ac,bc,hf,h 0 _ rfl,h 1 _ rfl,h 2 _ rfl,h 3 _ rfl,h 4 _ rfl,h 5 _ rfl⟩
theorem mem_flat_size (lev:Nat):∀ (L:List Stm) (p:Stm × Nat),p ∈ flatL lev L->sizeS p.1<=sizeL L:=by
 suffices H:∀ (M:Nat) (L:List Stm) (lev:Nat),sizeL L<=M->∀ p ∈ flatL lev L,sizeS p.1<=sizeL L from fun L p hp=>H (sizeL L) L lev (Nat.le_refl _) p hp
 intro M
 induction M using Nat.strongRecOn with
 | _ M ih =>
 intro L
 induction L with
 | nil=>intro lev _ p hp;rw[flatL_nil] at hp;cases hp
 | cons x r ihr =>
  intro lev hM p hp;rw[sizeL_cons] at hM ⊢;rw[flatL_cons,List.mem_append] at hp;rcases hp with hp | hp
  ·rw[flatS_eq] at hp;rcases List.mem_cons.1 hp with rfl | hp
   ·show sizeS x<=_;omega
   have hb:=sizeS_body x;have:=ih (sizeL x.body) (by omega) x.body _ (Nat.le_refl _) p hp;omega
  ·have:=ihr lev (by omega) p hp;omega
def BigS (x:Stm):Prop:=x.name.size<=9223372036854775807/\(∀ q ∈ x.attrs,q.1.size<=9223372036854775807/\q.2.size<=9223372036854775807)/\∀ q ∈ x.refs,q.1.size<=9223372036854775807/\q.2.size<=9223372036854775807
def BigL (L:List Stm):Prop:=∀ p ∈ flatL 0 L,BigS p.1
theorem big_small {L:List Stm}(h:sizeL L<=1048576):BigL L:=fun p hp=>by
 have h1:=Nat.le_trans (mem_flat_size 0 L p hp) h;have hb:=sizeS_body p.1;exact⟨by omega,fun q hq=>by have:=sizeTwo_at p.1.attrs q hq;omega,fun q hq=>by have:=sizeTwo_at p.1.refs q hq;omega⟩
theorem validR_big (nm:ByteArray)(dir:Bool)(b:Option Addr)(L:List Stm)(cap n:Nat)(w:World)(hn:n<=w.heap.size)(h:StmsAt n w b L)(hs:(flatL 0 L).length<=1099511627776)(hbig:BigL L)(hnm:nm.size<=9223372036854775807):
  Calls Tryz.prog 15 #[.agg #[.string nm,.bool dir,.slice b L.length cap]] w fun e w'=>e=.returned (.int .i64 (validE nm L))/\Ext w w':=by
 have hx0:Ext w (w.alloc (.cells #[.string nm,.bool dir,.slice b L.length cap] 33)):=(Ext.refl _).alloc _;have hcl:=tree_cells w nm dir b L.length cap;have hpre:=fun w1 (x:Ext w w1)=>preR_cnt 1099511627776 L b cap 0 n w1 hs (Nat.le_refl _) (by decide) (StmsAt.below (Below.mono x hn) L h) (by have h:=x.size;omega)
 have hname:=fun w=>name07_any nm hnm w
 obtain⟨V,hV⟩:∃ V,V=validE nm L:=⟨_,rfl⟩;rw[<-hV];unfold validE at hV;obtain⟨k0,k1,k2⟩:=hcl _ (Ext.refl _);have HSM:Hid (∀ p ∈ flatL 0 L,BigS p.1):=hid hbig;have HFS:Hid ((flatL 0 L).length<=1099511627776):=hid hs;generalize flatL 0 L=F at *;generalize L.length=N at *;generalize nameB nm.data.toList=nb at hV hname;have HCL:=hid hcl;have HPRE:=hid hpre;have HNM:=hid hname;have HN:=hid hn;clear hcl hpre hname h hs hbig hnm hn;cases nb
 ·rw[if_pos rfl] at hV;have HF:=hid hV;clear hV;go_enter Tryz.func15,Tryz.ntmps15;go_wp2_with (go_at_call 39;refine(HNM.out _).mono ?_;rintro e w3 ⟨rfl,rfl⟩);go_returns;exact⟨by rw[HF.out];rfl,hx0⟩
 rw[if_neg (by decide)] at hV;by_cases h5:512 < F.length
 ·rw[if_pos h5] at hV;have HF:=hid hV;have g5:decide ((512:Int) < F.length)=true:=decide_eq_true (by omega);clear hV h5;go_enter Tryz.func15,Tryz.ntmps15;go_wp2_with (first | (go_at_call 39;refine(HNM.out _).mono ?_;rintro e w3 ⟨rfl,rfl⟩) | (go_at_call 40;refine(HPRE.out _ hx0).mono ?_;rintro e w4 ⟨⟨g,c,C,rfl,ho,hsx⟩,x4⟩));go_returns;exact⟨by rw[HF.out];rfl,hx0.trans x4⟩
 rw[if_neg h5] at hV;have HF:Hid (V=firstE (F.drop 0)):=hid (by rw[hV,List.drop_zero]);have g5:decide ((512:Int) < F.length)=false:=decide_eq_false (by omega);have h6:F.length<=512:=by omega
 clear hV h5;go_enter Tryz.func15,Tryz.ntmps15;go_wp2_with (first | (go_at_call 39;refine(HNM.out _).mono ?_;rintro e w3 ⟨rfl,rfl⟩) | (go_at_call 40;refine(HPRE.out _ hx0).mono ?_;rintro e w4 ⟨⟨g,c,C,rfl,ho,hsx⟩,x4⟩));have HO:=hid ho;have HSX:=hid hsx;have hx4:=hx0.trans x4;clear ho hsx k0 k1 k2 x4
 go_loopw [4] (fun i' wr=>∃ k:Nat,k<=F.length/\i'=.int .i64 k/\Ext w4 wr/\Hid (V=firstE (F.drop k))) (fun i' _=>F.length - (RowKit.intOf i').toNat)
 case atStart=>exact⟨0,by omega,rfl,Ext.refl _,HF⟩
 obtain⟨k,hk,rfl,hx,hb⟩:=hrel;clear HF;by_cases hlt:k < F.length
 ·obtain⟨r,a,b',rc,ac,bc,hfl,c0,c1,c2,c3,c4,c5⟩:=six_cells (own_ext' HO.out hx) (HSX.out.below (Below.mono hx (by have h:=hx4.size;have:=HN.out;omega))) k hlt;have hst:=hb.out;rw[List.drop_eq_getElem_cons hlt,firstE] at hst;have hsz:=HSM.out F[k] (List.getElem_mem hlt);obtain⟨p,hp⟩:∃ p,p=F[k]:=⟨_,rfl⟩;rw[<-hp] at hst hfl c0 c1 c2 c3 c4 c5 hsz;clear hp hb;obtain⟨⟨kind,sn,rs,al,body⟩,lev⟩:=p;simp only[Stm.body,Stm.name,Stm.refs,Stm.attrs,Stm.kind] at c0 c1 c2 c3 c4 c5;obtain⟨hn1,hs1,ht1⟩:=hsz;simp only[Stm.name,Stm.refs,Stm.attrs] at hn1 hs1 ht1;have hrl:rs.length<=maxLen:=Nat.le_trans hfl.lr hfl.mr;have hsta:=statR_any kind sn rs al body r a b' rc ac bc lev wr hfl.hr.in hfl.ha.in hrl hn1 hs1 ht1;generalize stmE (.mk kind sn rs al body,lev)=E at hst hsta;generalize rs.length=R at *
  generalize al.length=A at *;generalize body.length=B at *;have HSTA:=hid hsta;clear hsta hfl hn1 hs1 ht1 hrl;by_cases hE:E=0
  ·rw[if_neg (fun h=>h hE)] at hst;subst hE;have hf:=hid hst;clear hst;go_wp2_with (go_at_call 41;refine HSTA.out.mono ?_;rintro e w5 ⟨rfl,x5⟩)
   go_roundw
   case rel=>exact⟨k+1,by omega,by go_num,hx.trans x5,hf⟩
   case measure=>simp[RowKit.intOf];omega
  rw[if_pos hE] at hst;obtain⟨f0,f0'⟩:=ne_facts hE;have hf:=hid hst;clear hst hE;go_wp2_with (go_at_call 41;refine HSTA.out.mono ?_;rintro e w5 ⟨rfl,x5⟩);go_returns;exact⟨by rw[hf.out];rfl,hx4.trans (hx.trans x5)⟩
 have hf:Hid (V=0):=hid (by rw[hb.out,List.drop_eq_nil_of_le (by omega)];rfl);clear hb;go_wp2;go_returns;exact⟨by rw[hf.out];rfl,hx4.trans hx⟩
theorem validR_any (nm:ByteArray)(dir:Bool)(b:Option Addr)(L:List Stm)(cap n:Nat)(w:World)(hn:n<=w.heap.size)(h:StmsAt n w b L)(hs:sizeL L<=1048576)(hnm:nm.size<=9223372036854775807):
  Calls Tryz.prog 15 #[.agg #[.string nm,.bool dir,.slice b L.length cap]] w fun e w'=>e=.returned (.int .i64 (validE nm L))/\Ext w w' :=
 validR_big nm dir b L cap n w hn h (Nat.le_trans (flatL_len 0 L) (by omega)) (big_small hs) hnm
end Go.Proofs.YtjaeedbjknejdaaGreatDoor.Tr
