/- Packed texts: TreFldR, TreAtrR -/
import Derived.Test.YtjaeedbjknejdaaGreatDoorPd23
import Derived.Test.YtjaeedbjknejdaaGreatDoorPd22
import Derived.Deep.QuietTactic
set_option linter.unusedVariables false
set_option linter.unusedSimpArgs false
set_option maxHeartbeats 16000000
set_option maxRecDepth 100000
namespace Go.Proofs.YtjaeedbjknejdaaGreatDoor.Tr
open Go.RowKit Go.Sort Go.Lib Go.Shelf Fx Lx
theorem fields_1 (nm:ByteArray)(r a b:Option Addr)(R A B rc ac bc:Nat)(w:World):
  Calls Tryz.prog 84 #[.agg #[.int .i64 1,.string nm,.slice r R rc,.slice a A ac,.slice b B bc]] w fun e w'=>e=.returned (.int .i64 (if(decide (R=0) && decide (B=0))=true then 0 else 1))/\Ext w w':=by
 by_cases hR:R=0
 ·subst hR;by_cases hB:B=0
  ·subst hB;go_enter Tryz.func84,Tryz.ntmps84;go_wp2;go_returns;exact⟨rfl,(Ext.refl _).alloc _⟩
  skip
  have fB:0 < B:=by omega
  have fB':decide (0 < B)=true:=decide_eq_true fB;rw[decide_eq_false hB];clear hB;go_enter Tryz.func84,Tryz.ntmps84;go_wp2;go_returns;exact⟨rfl,(Ext.refl _).alloc _⟩
 skip
 have fR:0 < R:=by omega
 have fR':decide (0 < R)=true:=decide_eq_true fR;rw[decide_eq_false hR];clear hR;go_enter Tryz.func84,Tryz.ntmps84;go_wp2;go_returns;exact⟨rfl,(Ext.refl _).alloc _⟩
theorem fields_5 (nm:ByteArray)(r a b:Option Addr)(R A B rc ac bc:Nat)(w:World):
  Calls Tryz.prog 84 #[.agg #[.int .i64 5,.string nm,.slice r R rc,.slice a A ac,.slice b B bc]] w fun e w'=>e=.returned (.int .i64 (if(decide (R=0) && decide (A=0))=true then 0 else 1))/\Ext w w':=by
 by_cases hR:R=0
 ·subst hR;by_cases hA:A=0
  ·subst hA;go_enter Tryz.func84,Tryz.ntmps84;go_wp2;go_returns;exact⟨rfl,(Ext.refl _).alloc _⟩
  skip
  have fA:0 < A:=by omega
  have fA':decide (0 < A)=true:=decide_eq_true fA;rw[decide_eq_false hA];clear hA;go_enter Tryz.func84,Tryz.ntmps84;go_wp2;go_returns;exact⟨rfl,(Ext.refl _).alloc _⟩
 skip
 have fR:0 < R:=by omega
 have fR':decide (0 < R)=true:=decide_eq_true fR;rw[decide_eq_false hR];clear hR;go_enter Tryz.func84,Tryz.ntmps84;go_wp2;go_returns;exact⟨rfl,(Ext.refl _).alloc _⟩
theorem fields_2 (nm:ByteArray)(r a b:Option Addr)(R A B rc ac bc:Nat)(w:World):
  Calls Tryz.prog 84 #[.agg #[.int .i64 2,.string nm,.slice r R rc,.slice a A ac,.slice b B bc]] w fun e w'=>e=.returned (.int .i64 (if(decide (nm.size=0) && decide (B=0) && decide (2<=R))=true then 0 else 1))/\Ext w w':=by
 have hN:=@size0 nm;cases hn:decide (nm.size=0)
 ·rw[hn] at hN;clear hn;go_enter Tryz.func84,Tryz.ntmps84;go_wp2;go_returns;exact⟨rfl,(Ext.refl _).alloc _⟩
 rw[hn] at hN;clear hn;by_cases hB:B=0
 ·subst hB;by_cases hR:2<=R
  ·have f1:decide ((R:Int) < 2)=false:=decide_eq_false (by omega);rw[decide_eq_true hR];clear hR;go_enter Tryz.func84,Tryz.ntmps84;go_wp2;go_returns;exact⟨rfl,(Ext.refl _).alloc _⟩
  have f1:decide ((R:Int) < 2)=true:=decide_eq_true (by omega);rw[decide_eq_false hR];clear hR;go_enter Tryz.func84,Tryz.ntmps84;go_wp2;go_returns;exact⟨rfl,(Ext.refl _).alloc _⟩
 skip
 have fB:0 < B:=by omega
 have fB':decide (0 < B)=true:=decide_eq_true fB;rw[decide_eq_false hB];clear hB;go_enter Tryz.func84,Tryz.ntmps84;go_wp2;go_returns;exact⟨rfl,(Ext.refl _).alloc _⟩
theorem fields_3 (nm:ByteArray)(r a b:Option Addr)(R A B rc ac bc:Nat)(w:World):
  Calls Tryz.prog 84 #[.agg #[.int .i64 3,.string nm,.slice r R rc,.slice a A ac,.slice b B bc]] w fun e w'=>e=.returned (.int .i64 (if(decide (R=0) && decide (B=0) && (decide (nm.data.toList=[110,111,100,101]) || decide (nm.data.toList=[101,100,103,101])))=true then 0 else 1))/\Ext w w':=by
 by_cases hR:R=0
 ·subst hR;by_cases hB:B=0
  ·subst hB;have n1:=litEq nm [110,111,100,101];have n2:=litEq nm [101,100,103,101];cases q1:decide (nm.data.toList=[110,111,100,101])
   ·rw[q1] at n1;clear q1;cases q2:decide (nm.data.toList=[101,100,103,101])
    ·rw[q2] at n2;clear q2;go_enter Tryz.func84,Tryz.ntmps84;go_wp2;go_returns;exact⟨rfl,(Ext.refl _).alloc _⟩
    rw[q2] at n2;clear q2;go_enter Tryz.func84,Tryz.ntmps84;go_wp2;go_returns;exact⟨rfl,(Ext.refl _).alloc _⟩
   rw[q1] at n1;clear q1 n2;go_enter Tryz.func84,Tryz.ntmps84;go_wp2;go_returns;exact⟨rfl,(Ext.refl _).alloc _⟩
  skip
  have fB:0 < B:=by omega
  have fB':decide (0 < B)=true:=decide_eq_true fB;rw[decide_eq_false hB];clear hB;go_enter Tryz.func84,Tryz.ntmps84;go_wp2;go_returns;exact⟨rfl,(Ext.refl _).alloc _⟩
 skip
 have fR:0 < R:=by omega
 have fR':decide (0 < R)=true:=decide_eq_true fR;rw[decide_eq_false hR];clear hR;go_enter Tryz.func84,Tryz.ntmps84;go_wp2;go_returns;exact⟨rfl,(Ext.refl _).alloc _⟩
theorem fields_4 (nm:ByteArray)(r a b:Option Addr)(R B rc ac bc:Nat)(al:List Two)(w:World)(h:TwoIn w a al):
  Calls Tryz.prog 84 #[.agg #[.int .i64 4,.string nm,.slice r R rc,.slice a al.length ac,.slice b B bc]] w fun e w'=>e=.returned (.int .i64 (if(decide (R=0) && decide (B=0) && setB al)=true then 0 else 1))/\Ext w w':=by
 by_cases hR:R=0
 ·subst hR;by_cases hB:B=0
  ·subst hB;by_cases h1:al.length=1
   ·obtain⟨⟨k,v⟩,rfl⟩:∃ q,al=[q]:=by
     match al,h1 with
     | [q],_=>exact⟨q,rfl⟩
    obtain⟨g,o,rfl,c0,c1⟩:=h 0 (by simp);simp only[Nat.zero_mul,Nat.add_zero,List.getElem_cons_zero] at c0 c1;have d0:∀ o',(w.alloc o').cell? ⟨g,o,none⟩=some (.string k):=fun o'=>((Ext.refl w).alloc o').cell c0
    have d1:∀ o',(w.alloc o').cell? ⟨g,o+1,none⟩=some (.string v):=fun o'=>((Ext.refl w).alloc o').cell c1
    clear h h1 c1;have n1:=@size0 k;rw[show setB [(k,v)]=decide (k.size=0) from rfl];cases q1:decide (k.size=0)
    all_goals
     rw[q1] at n1;clear q1;simp only[List.length_cons,List.length_nil,Nat.zero_add];go_enter Tryz.func84,Tryz.ntmps84;go_wp2;go_returns;exact⟨rfl,(Ext.refl _).alloc _⟩
   have hm:setB al=false:=by
    unfold setB
    match al,h1 with
    | [],_=>rfl
    | [q],h1=>exact absurd rfl h1
    | _::_::_,_=>rfl
   rw[hm];obtain⟨f1,f2⟩:=ne_facts (x:=(al.length:Int)) (k:=1) (by omega);clear hm h1 h;generalize al.length=A at *;go_enter Tryz.func84,Tryz.ntmps84;go_wp2;go_returns;exact⟨rfl,(Ext.refl _).alloc _⟩
  skip
  have fB:0 < B:=by omega
  have fB':decide (0 < B)=true:=decide_eq_true fB;rw[decide_eq_false hB];clear hB h;generalize al.length=A at *;go_enter Tryz.func84,Tryz.ntmps84;go_wp2;go_returns;exact⟨rfl,(Ext.refl _).alloc _⟩
 skip
 have fR:0 < R:=by omega
 have fR':decide (0 < R)=true:=decide_eq_true fR;rw[decide_eq_false hR];clear hR h;generalize al.length=A at *;go_enter Tryz.func84,Tryz.ntmps84;go_wp2;go_returns;exact⟨rfl,(Ext.refl _).alloc _⟩
theorem fields_else (k:Int)(nm:ByteArray)(r a b:Option Addr)(R A B rc ac bc:Nat)(w:World)(h:k < 1\/5 < k):
  Calls Tryz.prog 84 #[.agg #[.int .i64 k,.string nm,.slice r R rc,.slice a A ac,.slice b B bc]] w fun e w'=>e=.returned (.int .i64 1)/\Ext w w':=by
 by_cases h1:k < 1
 ·have f1:decide (k < 1)=true:=decide_eq_true h1;clear h h1;go_enter Tryz.func84,Tryz.ntmps84;go_wp2;go_returns;exact⟨rfl,(Ext.refl _).alloc _⟩
 have f1:decide (k < 1)=false:=decide_eq_false h1;have f2:decide (5 < k)=true:=decide_eq_true (by omega);clear h h1;go_enter Tryz.func84,Tryz.ntmps84;go_wp2;go_returns;exact⟨rfl,(Ext.refl _).alloc _⟩
theorem fields_any (k:Int)(nm:ByteArray)(rs al:List Two)(body:List Stm)(r a b:Option Addr)(rc ac bc:Nat)(w:World)(h:TwoIn w a al):
  Calls Tryz.prog 84 #[.agg #[.int .i64 k,.string nm,.slice r rs.length rc,.slice a al.length ac,.slice b body.length bc]] w fun e w'=>e=.returned (.int .i64 (if formB (.mk k nm rs al body)=true then 0 else 1))/\Ext w w':=by
 rw[formB_mk];by_cases h1:k=1
 ·rw[if_pos h1];subst h1;exact fields_1 nm r a b _ _ _ rc ac bc w
 rw[if_neg h1];by_cases h2:k=2
 ·rw[if_pos h2];subst h2;exact fields_2 nm r a b _ _ _ rc ac bc w
 rw[if_neg h2];by_cases h3:k=3
 ·rw[if_pos h3];subst h3;exact fields_3 nm r a b _ _ _ rc ac bc w
 rw[if_neg h3];by_cases h4:k=4
 ·rw[if_pos h4];subst h4;exact fields_4 nm r a b _ _ rc ac bc al w h
 rw[if_neg h4];by_cases h5:k=5
 ·rw[if_pos h5];subst h5;exact fields_5 nm r a b _ _ _ rc ac bc w
 rw[if_neg h5];exact fields_else k nm r a b _ _ _ rc ac bc w (by omega)
end Go.Proofs.YtjaeedbjknejdaaGreatDoor.Tr

namespace Go.Proofs.YtjaeedbjknejdaaGreatDoor.Tr
open Go.RowKit Go.Sort Go.Lib Go.Shelf Fx Lx
theorem hasA_false {L:List Two}{n:ByteArray}{k:Nat}(h:∀ i (hi:i < L.length),i < k->L[i].1 ≠ n):hasA (L.take k) n=false:=by
 unfold hasA;rw[List.any_eq_false];intro q hq;obtain⟨i,hi,rfl⟩:=List.getElem_of_mem hq;have hi2:i < k/\i < L.length:=by rw[List.length_take] at hi;omega
 rw[List.getElem_take]
 simpa using h i hi2.2 hi2.1
theorem hasA_true {L:List Two}{n:ByteArray}{k j:Nat}(hj:j < k)(hl:j < L.length)(h:L[j].1=n):hasA (L.take k) n=true:=by
 unfold hasA;rw[List.any_eq_true];exact⟨L[j],List.mem_take_iff_getElem.2 ⟨j,by omega,rfl⟩,by simpa using h⟩
theorem attrR_name (kind:Int)(nm:ByteArray)(r a b:Option Addr)(R B rc ac bc:Nat)(al:List Two)(w:World)(hkd:kind ≠ 4)(h:TwoIn w a al)(hs:∀ q ∈ al,q.1.size<=9223372036854775807/\q.2.size<=9223372036854775807)(h16:al.length<=16):
  Calls Tryz.prog 85 #[.agg #[.int .i64 kind,.string nm,.slice r R rc,.slice a al.length ac,.slice b B bc]] w fun e w'=>e=.returned (.int .i64 (attrsGo kind al []))/\Ext w w':=by
 obtain⟨V,hV⟩:∃ V,V=attrsGo kind al []:=⟨_,rfl⟩;rw[<-hV];have HV:Hid (V=attrsGo kind (al.drop 0) (al.take 0)):=hid hV;obtain⟨f4,f4'⟩:=ne_facts hkd;have HKD:=hid hkd;obtain⟨N,hN⟩:∃ N,N=al.length:=⟨_,rfl⟩;have hx0:Ext w (w.alloc (.cells #[.int .i64 kind,.string nm,.slice r R rc,.slice a al.length ac,.slice b B bc] 67)):=(Ext.refl _).alloc _;have hcl:=stm_cells w kind nm r a b R al.length B rc ac bc;rw[<-hN] at h16 hcl hx0 ⊢;have HCL:=hid hcl;have HN:=hid hN;have HI:=hid h;have HS:=hid hs;obtain⟨k0,k1,k2,k3,k4⟩:=hcl _ (Ext.refl _);clear hV hN h hs hcl hkd;go_enter Tryz.func85,Tryz.ntmps85;go_wp2
 go_loopw [3] (fun i' wr=>∃ k:Nat,k<=N/\i'=.int .i64 k/\Ext (w.alloc (.cells #[.int .i64 kind,.string nm,.slice r R rc,.slice a N ac,.slice b B bc] 67)) wr/\Hid (V=attrsGo kind (al.drop k) (al.take k))) (fun i' _=>N - (RowKit.intOf i').toNat)
 case atStart=>exact⟨0,by omega,rfl,Ext.refl _,HV⟩
 obtain⟨k,hk,rfl,hx,ha⟩:=hrel;clear HV k0 k1 k2 k3 k4;obtain⟨s0,s1,s2,s3,s4⟩:=HCL.out wr hx;by_cases hlt:k < N
 ·have hkl:k < al.length:=by rw[<-HN.out];exact hlt
  have hin:=HI.out.ext (hx0.trans hx);obtain⟨g,o,rfl,c0,c1⟩:=hin k hkl;obtain⟨n,d,hq⟩:∃ n d,al[k]=(n,d):=⟨_,_,rfl⟩;rw[hq] at c0 c1;have hst:=ha.out;rw[List.drop_eq_getElem_cons hkl,attrsGo_cons,hq] at hst;have htk:al.take k++[(n,d)]=al.take (k+1):=by rw[List.take_succ_eq_append_getElem hkl,hq]
  rw[htk] at hst;dsimp only at hst;have hds:n.size<=9223372036854775807/\d.size<=9223372036854775807:=by have h:=HS.out _ (List.getElem_mem hkl);rw[hq] at h;exact h
  have hxb:Ext wr (wr.alloc (.cells #[.string n,.string d] 69)):=(Ext.refl _).alloc _;have hnm:=fun w=>name07_any n hds.1 w
  have hdz:=hds.2;obtain⟨t0,t1,t2,t3,t4⟩:=HCL.out _ (hx.trans hxb);have HAT:=hid (atr_cells wr n d);obtain⟨e0,e1⟩:=HAT.out _ (Ext.refl _);generalize hp:nameB n.data.toList=p at hst hnm;have HNM:=hid hnm;have HX:=hid (hx.trans hxb);have HIN:=hid (hin.ext hxb);clear htk hq ha hds hin hnm hp hx hxb;cases p
  ·rw[if_pos ⟨HKD.out,rfl⟩] at hst;have hf:=hid hst;clear hst;go_wp2_with (go_at_call 39;refine(HNM.out _).mono ?_;rintro e w3 ⟨rfl,rfl⟩);go_returns;exact⟨by rw[hf.out];rfl,hx0.trans HX.out⟩
  rw[if_neg (fun h=>absurd h.2 (by decide))] at hst;have HST:=hid hst;clear hst;go_wp2_with (first | fail | (go_at_call 39;refine(HNM.out _).mono ?_;rintro e w3 ⟨rfl,rfl⟩));clear t0 t1 t2 t3 t4 e0 e1 c0 c1 s0 s1 s2 s3 s4
  go_loopw [5] (fun j' wj=>∃ j:Nat,j<=k/\j'=.int .i64 j/\Ext (wr.alloc (.cells #[.string n,.string d] 69)) wj/\Hid (∀ i (hi:i < al.length),i < j->al[i].1 ≠ n)) (fun j' _=>k - (RowKit.intOf j').toNat)
  case atStart=>exact⟨0,by omega,rfl,Ext.refl _,hid (fun i _ h=>absurd h (by omega))⟩
  obtain⟨j,hj,rfl,hxj,hall⟩:=hrel;obtain⟨t0,t1,t2,t3,t4⟩:=HCL.out _ (HX.out.trans hxj);obtain⟨e0,e1⟩:=HAT.out _ hxj;by_cases hjk:j < k
  ·have hjl:j < al.length:=by omega
   obtain⟨g',o',he',d0,_⟩:=(HIN.out.ext hxj) j hjl;injection he' with he';injection he' with e2 e3 _;subst e2;subst e3;obtain⟨z,hz⟩:∃ z,z=al[j].1:=⟨_,rfl⟩;rw[<-hz] at d0;have HZ:=hid hz;clear hz;by_cases heq:z=n
   ·have hf:Hid (V=6):=hid (by rw[HST.out,if_pos (hasA_true hjk hjl (by rw[<-HZ.out];exact heq))]);have g3:(z.toList == n.toList)=true:=by rw[beqs];exact decide_eq_true heq
    clear heq hall HZ HST;go_wp2
    go_quiet (fail)
    go_wp2;go_returns;exact⟨by rw[hf.out];rfl,(hx0.trans (HX.out.trans hxj)).drewN _⟩
   have hf:Hid (∀ i (hi:i < al.length),i < j+1->al[i].1 ≠ n):=hid (fun i hi h=>by
    by_cases e:i=j
    ·subst e;rw[<-HZ.out];exact heq
    exact hall.out i hi (by omega))
   have g3:(z.toList == n.toList)=false:=by rw[beqs];exact decide_eq_false heq
   clear heq hall HZ;go_wp2
   go_quiet (fail)
   go_wp2
   go_roundw
   case rel=>exact⟨j+1,by omega,by go_num,hxj.drewN _,hf⟩
   case measure=>simp[RowKit.intOf];omega
  obtain rfl:j=k:=by omega
  have hst:=HST.out;rw[hasA_false hall.out,if_neg (by decide)] at hst;clear hall HST;by_cases h32:32 < d.size
  ·rw[if_pos h32] at hst;have hf:=hid hst;have g1:decide ((32:Int) < d.size)=true:=decide_eq_true (by omega);clear hst;go_wp2;go_returns;exact⟨by rw[hf.out];rfl,hx0.trans (HX.out.trans hxj)⟩
  rw[if_neg h32] at hst;have g1:decide ((32:Int) < d.size)=false:=decide_eq_false (by omega);obtain⟨q,hq'⟩:∃ q,q=d.data.toList.all okT:=⟨_,rfl⟩;rw[<-hq'] at hst;have HQ:Hid (q=(d.data.toList.drop 0).all okT):=hid (by rw[List.drop_zero];exact hq');have HST:=hid hst;clear hst hq';go_wp2
  go_loop [6] (fun m'=>∃ m:Nat,m<=d.size/\m'=.int .i64 m/\Hid (q=(d.data.toList.drop m).all okT)) (fun m'=>d.size - (RowKit.intOf m').toNat)
  case atStart=>exact⟨0,by omega,rfl,HQ⟩
  obtain⟨m,hm,rfl,hb⟩:=hrel;clear HQ;by_cases hjd:m < d.size
  ·have hb':=hb.out
   have hd:d.data.toList.drop m=d[m]::d.data.toList.drop (m+1):=by
    rw[List.drop_eq_getElem_cons (by rw[<-size_len];exact hjd)];rfl
   rw[hd,List.all_cons] at hb';clear hb hd;by_cases k1:32<=d[m].toNat
   ·by_cases k2:d[m].toNat<=126
    ·have hf:Hid (q=(d.data.toList.drop (m+1)).all okT):=hid (by
      rw[hb'];unfold okT;rw[decide_eq_true k1,decide_eq_true k2];rfl)
     have g2:decide ((126:Int) < d[m].toNat)=false:=decide_eq_false (by omega);have g3:decide ((d[m].toNat:Int) < 32)=false:=decide_eq_false (by omega);clear hb';go_wp2
     go_round
     case rel=>exact⟨m+1,by omega,by go_num,hf⟩
     case measure=>simp[RowKit.intOf];omega
    have hf:Hid (q=false):=hid (by
     rw[hb'];unfold okT;rw[decide_eq_false k2];simp)
    have g2:decide ((126:Int) < d[m].toNat)=true:=decide_eq_true (by omega);have g3:decide ((d[m].toNat:Int) < 32)=false:=decide_eq_false (by omega);clear hb';go_wp2;go_returns;exact⟨ret_int (by rw[HST.out,hf.out];rfl),hx0.trans (HX.out.trans hxj)⟩
   have hf:Hid (q=false):=hid (by
    rw[hb'];unfold okT;rw[decide_eq_false k1];simp)
   have g3:decide ((d[m].toNat:Int) < 32)=true:=decide_eq_true (by omega);clear hb';go_wp2;go_returns;exact⟨ret_int (by rw[HST.out,hf.out];rfl),hx0.trans (HX.out.trans hxj)⟩
  have hf:Hid (V=attrsGo kind (al.drop (j+1)) (al.take (j+1))):=hid (by
   rw[HST.out,hb.out,List.drop_eq_nil_of_le (by rw[<-size_len];omega)];rfl)
  clear hb;go_wp2
  go_roundw
  case rel=>exact⟨j+1,by omega,by go_num,HX.out.trans hxj,hf⟩
  case measure=>simp[RowKit.intOf];omega
 have hf:Hid (V=0):=hid (by rw[ha.out,List.drop_eq_nil_of_le (by rw[<-HN.out];omega)];rfl);clear ha;go_wp2;go_returns;exact⟨by rw[hf.out];rfl,hx0.trans hx⟩
theorem attrR_four (kind:Int)(nm:ByteArray)(r a b:Option Addr)(R B rc ac bc:Nat)(al:List Two)(w:World)(hkd:kind=4)(h:TwoIn w a al)(hs:∀ q ∈ al,q.1.size<=9223372036854775807/\q.2.size<=9223372036854775807)(h16:al.length<=16):
  Calls Tryz.prog 85 #[.agg #[.int .i64 kind,.string nm,.slice r R rc,.slice a al.length ac,.slice b B bc]] w fun e w'=>e=.returned (.int .i64 (attrsGo kind al []))/\Ext w w':=by
 obtain⟨V,hV⟩:∃ V,V=attrsGo kind al []:=⟨_,rfl⟩;rw[<-hV];have HV:Hid (V=attrsGo kind (al.drop 0) (al.take 0)):=hid hV;obtain⟨f4,f4'⟩:=eq_facts hkd;have HKD:=hid hkd;obtain⟨N,hN⟩:∃ N,N=al.length:=⟨_,rfl⟩;have hx0:Ext w (w.alloc (.cells #[.int .i64 kind,.string nm,.slice r R rc,.slice a al.length ac,.slice b B bc] 67)):=(Ext.refl _).alloc _;have hcl:=stm_cells w kind nm r a b R al.length B rc ac bc;rw[<-hN] at h16 hcl hx0 ⊢;have HCL:=hid hcl;have HN:=hid hN;have HI:=hid h;have HS:=hid hs;obtain⟨k0,k1,k2,k3,k4⟩:=hcl _ (Ext.refl _);clear hV hN h hs hcl hkd;go_enter Tryz.func85,Tryz.ntmps85;go_wp2
 go_loopw [3] (fun i' wr=>∃ k:Nat,k<=N/\i'=.int .i64 k/\Ext (w.alloc (.cells #[.int .i64 kind,.string nm,.slice r R rc,.slice a N ac,.slice b B bc] 67)) wr/\Hid (V=attrsGo kind (al.drop k) (al.take k))) (fun i' _=>N - (RowKit.intOf i').toNat)
 case atStart=>exact⟨0,by omega,rfl,Ext.refl _,HV⟩
 obtain⟨k,hk,rfl,hx,ha⟩:=hrel;clear HV k0 k1 k2 k3 k4;obtain⟨s0,s1,s2,s3,s4⟩:=HCL.out wr hx;by_cases hlt:k < N
 ·have hkl:k < al.length:=by rw[<-HN.out];exact hlt
  have hin:=HI.out.ext (hx0.trans hx);obtain⟨g,o,rfl,c0,c1⟩:=hin k hkl;obtain⟨n,d,hq⟩:∃ n d,al[k]=(n,d):=⟨_,_,rfl⟩;rw[hq] at c0 c1;have hst:=ha.out;rw[List.drop_eq_getElem_cons hkl,attrsGo_cons,hq] at hst;have htk:al.take k++[(n,d)]=al.take (k+1):=by rw[List.take_succ_eq_append_getElem hkl,hq]
  rw[htk] at hst;dsimp only at hst;have hds:n.size<=9223372036854775807/\d.size<=9223372036854775807:=by have h:=HS.out _ (List.getElem_mem hkl);rw[hq] at h;exact h
  have hxb:Ext wr (wr.alloc (.cells #[.string n,.string d] 69)):=(Ext.refl _).alloc _;have hnm:=fun w=>name07_any n hds.1 w
  have hdz:=hds.2;obtain⟨t0,t1,t2,t3,t4⟩:=HCL.out _ (hx.trans hxb);have HAT:=hid (atr_cells wr n d);obtain⟨e0,e1⟩:=HAT.out _ (Ext.refl _);generalize hp:nameB n.data.toList=p at hst hnm;have HNM:=hid hnm;have HX:=hid (hx.trans hxb);have HIN:=hid (hin.ext hxb);clear htk hq ha hds hin hnm hp hx hxb;rw[if_neg (fun h=>absurd HKD.out h.1)] at hst;have HST:=hid hst;clear hst;go_wp2_with fail;clear t0 t1 t2 t3 t4 e0 e1 c0 c1 s0 s1 s2 s3 s4
  go_loopw [5] (fun j' wj=>∃ j:Nat,j<=k/\j'=.int .i64 j/\Ext (wr.alloc (.cells #[.string n,.string d] 69)) wj/\Hid (∀ i (hi:i < al.length),i < j->al[i].1 ≠ n)) (fun j' _=>k - (RowKit.intOf j').toNat)
  case atStart=>exact⟨0,by omega,rfl,Ext.refl _,hid (fun i _ h=>absurd h (by omega))⟩
  obtain⟨j,hj,rfl,hxj,hall⟩:=hrel;obtain⟨t0,t1,t2,t3,t4⟩:=HCL.out _ (HX.out.trans hxj);obtain⟨e0,e1⟩:=HAT.out _ hxj;by_cases hjk:j < k
  ·have hjl:j < al.length:=by omega
   obtain⟨g',o',he',d0,_⟩:=(HIN.out.ext hxj) j hjl;injection he' with he';injection he' with e2 e3 _;subst e2;subst e3;obtain⟨z,hz⟩:∃ z,z=al[j].1:=⟨_,rfl⟩;rw[<-hz] at d0;have HZ:=hid hz;clear hz;by_cases heq:z=n
   ·have hf:Hid (V=6):=hid (by rw[HST.out,if_pos (hasA_true hjk hjl (by rw[<-HZ.out];exact heq))]);have g3:(z.toList == n.toList)=true:=by rw[beqs];exact decide_eq_true heq
    clear heq hall HZ HST;go_wp2
    go_quiet (fail)
    go_wp2;go_returns;exact⟨by rw[hf.out];rfl,(hx0.trans (HX.out.trans hxj)).drewN _⟩
   have hf:Hid (∀ i (hi:i < al.length),i < j+1->al[i].1 ≠ n):=hid (fun i hi h=>by
    by_cases e:i=j
    ·subst e;rw[<-HZ.out];exact heq
    exact hall.out i hi (by omega))
   have g3:(z.toList == n.toList)=false:=by rw[beqs];exact decide_eq_false heq
   clear heq hall HZ;go_wp2
   go_quiet (fail)
   go_wp2
   go_roundw
   case rel=>exact⟨j+1,by omega,by go_num,hxj.drewN _,hf⟩
   case measure=>simp[RowKit.intOf];omega
  obtain rfl:j=k:=by omega
  have hst:=HST.out;rw[hasA_false hall.out,if_neg (by decide)] at hst;clear hall HST;by_cases h32:32 < d.size
  ·rw[if_pos h32] at hst;have hf:=hid hst;have g1:decide ((32:Int) < d.size)=true:=decide_eq_true (by omega);clear hst;go_wp2;go_returns;exact⟨by rw[hf.out];rfl,hx0.trans (HX.out.trans hxj)⟩
  rw[if_neg h32] at hst;have g1:decide ((32:Int) < d.size)=false:=decide_eq_false (by omega);obtain⟨q,hq'⟩:∃ q,q=d.data.toList.all okT:=⟨_,rfl⟩;rw[<-hq'] at hst;have HQ:Hid (q=(d.data.toList.drop 0).all okT):=hid (by rw[List.drop_zero];exact hq');have HST:=hid hst;clear hst hq';go_wp2
  go_loop [6] (fun m'=>∃ m:Nat,m<=d.size/\m'=.int .i64 m/\Hid (q=(d.data.toList.drop m).all okT)) (fun m'=>d.size - (RowKit.intOf m').toNat)
  case atStart=>exact⟨0,by omega,rfl,HQ⟩
  obtain⟨m,hm,rfl,hb⟩:=hrel;clear HQ;by_cases hjd:m < d.size
  ·have hb':=hb.out
   have hd:d.data.toList.drop m=d[m]::d.data.toList.drop (m+1):=by
    rw[List.drop_eq_getElem_cons (by rw[<-size_len];exact hjd)];rfl
   rw[hd,List.all_cons] at hb';clear hb hd;by_cases k1:32<=d[m].toNat
   ·by_cases k2:d[m].toNat<=126
    ·have hf:Hid (q=(d.data.toList.drop (m+1)).all okT):=hid (by
      rw[hb'];unfold okT;rw[decide_eq_true k1,decide_eq_true k2];rfl)
     have g2:decide ((126:Int) < d[m].toNat)=false:=decide_eq_false (by omega);have g3:decide ((d[m].toNat:Int) < 32)=false:=decide_eq_false (by omega);clear hb';go_wp2
     go_round
     case rel=>exact⟨m+1,by omega,by go_num,hf⟩
     case measure=>simp[RowKit.intOf];omega
    have hf:Hid (q=false):=hid (by
     rw[hb'];unfold okT;rw[decide_eq_false k2];simp)
    have g2:decide ((126:Int) < d[m].toNat)=true:=decide_eq_true (by omega);have g3:decide ((d[m].toNat:Int) < 32)=false:=decide_eq_false (by omega);clear hb';go_wp2;go_returns;exact⟨ret_int (by rw[HST.out,hf.out];rfl),hx0.trans (HX.out.trans hxj)⟩
   have hf:Hid (q=false):=hid (by
    rw[hb'];unfold okT;rw[decide_eq_false k1];simp)
   have g3:decide ((d[m].toNat:Int) < 32)=true:=decide_eq_true (by omega);clear hb';go_wp2;go_returns;exact⟨ret_int (by rw[HST.out,hf.out];rfl),hx0.trans (HX.out.trans hxj)⟩
  have hf:Hid (V=attrsGo kind (al.drop (j+1)) (al.take (j+1))):=hid (by
   rw[HST.out,hb.out,List.drop_eq_nil_of_le (by rw[<-size_len];omega)];rfl)
  clear hb;go_wp2
  go_roundw
  case rel=>exact⟨j+1,by omega,by go_num,HX.out.trans hxj,hf⟩
  case measure=>simp[RowKit.intOf];omega
 have hf:Hid (V=0):=hid (by rw[ha.out,List.drop_eq_nil_of_le (by rw[<-HN.out];omega)];rfl);clear ha;go_wp2;go_returns;exact⟨by rw[hf.out];rfl,hx0.trans hx⟩
theorem attrR_any (kind:Int)(nm:ByteArray)(rs al:List Two)(body:List Stm)(r a b:Option Addr)(rc ac bc:Nat)(w:World)(h:TwoIn w a al)(hs:∀ q ∈ al,q.1.size<=9223372036854775807/\q.2.size<=9223372036854775807):
  Calls Tryz.prog 85 #[.agg #[.int .i64 kind,.string nm,.slice r rs.length rc,.slice a al.length ac,.slice b body.length bc]] w fun e w'=>e=.returned (.int .i64 (attrsE (.mk kind nm rs al body)))/\Ext w w':=by
 rw[show attrsE (.mk kind nm rs al body)=if 16 < al.length then 2 else attrsGo kind al [] from rfl];by_cases h16:16 < al.length
 ·rw[if_pos h16];have g1:decide ((16:Int) < al.length)=true:=decide_eq_true (by omega);clear h hs h16;generalize al.length=N at *;generalize rs.length=R at *;generalize body.length=B at *;go_enter Tryz.func85,Tryz.ntmps85;go_wp2;go_returns;exact⟨rfl,(Ext.refl _).alloc _⟩
 rw[if_neg h16];by_cases h4:kind=4
 ·exact attrR_four kind nm r a b _ _ rc ac bc al w h4 h hs (by omega)
 exact attrR_name kind nm r a b _ _ rc ac bc al w h4 h hs (by omega)
end Go.Proofs.YtjaeedbjknejdaaGreatDoor.Tr
