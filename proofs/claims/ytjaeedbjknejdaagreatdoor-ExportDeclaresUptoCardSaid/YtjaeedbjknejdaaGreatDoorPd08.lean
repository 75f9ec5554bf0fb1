/- Packed texts: FixFormM -/
import Derived.Test.YtjaeedbjknejdaaGreatDoorPd04
set_option linter.unusedVariables false
set_option linter.unusedSimpArgs false
set_option maxHeartbeats 16000000
set_option maxRecDepth 100000
namespace Go.Proofs.YtjaeedbjknejdaaGreatDoor.Fx
open Go.RowKit Go.Sort Go.Lib Go.Shelf
theorem form_minus (s:ByteArray)(w:World)(hs:s.size<=9223372036854775807)(hp:0 < s.size)(h0:0 < s.size)(ht:(((s[0]'h0).toNat:Int) == 45)=true)(hw:HeadWay s (s.extract 1 s.size) true):
  Calls Tryz.prog 243 #[.string s] w fun e w'=>e=.returned (formV (form s.data.toList))/\w=w':=by
 obtain⟨hm,he⟩:=hw
 have HFM:Hid (form s.data.toList=form3 true (splitDot (s.extract 1 s.size).data.toList).2.2 (splitDot (s.extract 1 s.size).data.toList).1 (splitDot (s.extract 1 s.size).data.toList).2.1):=by
  rw[he];unfold form;rw[hm];exact rfl
 clear hm he;generalize form s.data.toList=FR at HFM ⊢;have tl:(s.extract 1 s.size).size+1=s.size:=by rw[extract_from,size_mk];simp;omega
 obtain⟨t,hte⟩:∃ t,s.extract 1 s.size=t:=⟨_,rfl⟩;rw[hte] at HFM tl;go_enter Tryz.func243,Tryz.ntmps243;go_wp2_with fail
 go_loop [7,8] (fun d' i'=>∃ d k:Nat,k<=t.size/\d<=t.size/\ScI t.data.toList k d/\d'=.int .i64 d/\i'=.int .i64 k) (fun _ i'=>t.size - (RowKit.intOf i').toNat)
 case atStart=>exact⟨t.size,0,by omega,by omega,by have:=ScI.start t.data.toList;rw[<-size_len] at this;exact this,rfl,rfl⟩
 obtain⟨d,k,hk,hd,hI,rfl,rfl⟩:=hrel;by_cases hlt:k < t.size
 ·rcases byte_ways t k d hlt hI with⟨⟨c1,c2⟩,hI'⟩ | ⟨⟨c1,c2,c3⟩,hI'⟩ | ⟨⟨c1,c2,c3⟩,hI'⟩ | ⟨⟨c1,c2⟩,hI'⟩ | ⟨⟨c1,c2,c3⟩,hI'⟩
  ·have HI:=hid hI';clear hI hI';go_wp2
   go_round
   case rel=>exact⟨k,k+1,by omega,by omega,HI.out,rfl,by go_num⟩
   case measure=>simp[RowKit.intOf];omega
  ·have HI:=hid hI';clear hI hI';go_wp2
   go_round
   case rel=>exact⟨d,k+1,by omega,by omega,HI.out,rfl,by go_num⟩
   case measure=>simp[RowKit.intOf];omega
  all_goals
   have HF:=hid (f3_scan (m:=true) (pt:=(splitDot t.data.toList).2.2) hI');clear hI hI';go_wp2;go_returns;exact⟨ret_val (by rw[HFM.out,HF.out];rfl),rfl⟩
 obtain rfl:k=t.size:=by omega
 have hfin:ScI t.data.toList t.data.toList.length d:=by rw[<-size_len];exact hI
 have hfin':=hfin.fin;clear hI hfin hlt hk;obtain⟨a,hae⟩:∃ a,t.extract 0 d=a:=⟨_,rfl⟩;have haT:a.data.toList=t.data.toList.take d:=by rw[<-hae,extract_upto]
 have hal:a.size=d:=by rw[size_len,haT,List.length_take,<- size_len];omega
 by_cases hds:d < t.size
 ·rcases hfin' with⟨f1,-,-⟩ | ⟨-,f2,f3,f4⟩
  ·rw[<-size_len] at f1;omega
  obtain⟨p,hpe⟩:∃ p,t.extract (d+1) t.size=p:=⟨_,rfl⟩;have hpT:p.data.toList=t.data.toList.drop (d+1):=by rw[<-hpe,extract_from]
  have hpl:p.size+d+1=t.size:=by rw[size_len,hpT,List.length_drop,<- size_len];omega
  rw[f2] at HFM;rw[<-haT] at f3 HFM;rw[<-hpT] at f4 HFM;have HAD:=hid f3;have HPD:=hid f4;clear f2 f3 f4 haT hpT;have HAL:=hid hal;clear hal;have hal2:a.size<=t.size:=by have:=HAL.out;omega
  have hpl2:p.size<=t.size:=by omega
  have HPL:=hid hpl;clear hpl;rcases Nat.eq_zero_or_pos p.size with hp0 | hp0
  ·have HF:=hid (f3_part (m:=true) (w:=a.data.toList) (p:=p.data.toList) (Or.inl (by rw[<-size_len];omega)));go_wp2;go_returns;exact⟨ret_val (by rw[HFM.out,HF.out];rfl),rfl⟩
  by_cases hp3:3 < p.size
  ·have HF:=hid (f3_part (m:=true) (w:=a.data.toList) (p:=p.data.toList) (Or.inr (Or.inl (by rw[<-size_len];omega))));go_wp2;go_returns;exact⟨ret_val (by rw[HFM.out,HF.out];rfl),rfl⟩
  obtain⟨j,hj⟩:∃ j,p.size=j+1:=⟨p.size - 1,by omega⟩;have hjl:j < p.size:=Nat.lt_of_lt_of_eq (Nat.lt_succ_self j) hj.symm;have hl:=atLast p j hj;have HJ:=hid hj;rcases bl_ways p j hjl with⟨y1,y2⟩ | ⟨y1,y2⟩
  ·have HF:=hid (f3_part (m:=true) (w:=a.data.toList) (p:=p.data.toList) (Or.inr (Or.inr (by rw[hl];exact y1))));clear y1 hl;go_wp2;go_returns;exact⟨ret_val (by rw[HFM.out,HF.out];rfl),rfl⟩
  have HP3:=hid (show 1<=p.data.toList.length/\p.data.toList.length<=3/\p.data.toList[p.data.toList.length - 1]?.getD 0 ≠ 48 from⟨by rw[<-size_len];omega,by rw[<-size_len];omega,by rw[hl];exact y1⟩);obtain⟨p1,p2,p3⟩:=tl_cons p hp0;have HPN:=hid p3;clear y1 hl p3;rcases Nat.eq_zero_or_pos a.size with ha0 | ha0
  ·obtain⟨e1,e2,e3⟩:=tl_nil a ha0;have HF:=hid (f3_word (m:=true) (pt:=true) (p:=p.data.toList) (Or.inl e3));clear e3 ha0;go_wp2;go_returns;exact⟨ret_val (by rw[HFM.out,HF.out];rfl),rfl⟩
  obtain⟨e1,e2,e3⟩:=tl_cons a ha0;have hz:=at0 a ha0;rcases b0_ways a ha0 with⟨z1,z2⟩ | ⟨z1,z2⟩
  ·by_cases ha1:1 < a.size
   ·have HF:=hid (f3_word (m:=true) (pt:=true) (p:=p.data.toList) (Or.inr (Or.inl ⟨by rw[<-size_len];exact ha1,by rw[hz];exact z1⟩)));clear e3 z1 hz;go_wp2;go_returns;exact⟨ret_val (by rw[HFM.out,HF.out];rfl),rfl⟩
   have HN:=hid (show ¬ (1 < a.data.toList.length/\a.data.toList[0]?.getD 0=48) by rw[<-size_len];omega);have HF:=hid (f3_ok (m:=true) (pt:=true) (w:=a.data.toList) (p:=p.data.toList) HAD.out HPD.out (fun _=>HP3.out) e3 HN.out (fun h=>HPN.out h.2.2));clear e3 z1 hz;by_cases hq:a.toList=[48]
   ·have hq':(a.toList == [48])=true:=by rw[hq];rfl
    clear hq;go_wp2;go_returns;exact⟨ret_val (by rw[HFM.out,HF.out];rfl),rfl⟩
   have hq':(a.toList == [48])=false:=by rw[beq_eq_false_iff_ne];exact hq
   clear hq;go_wp2;go_returns;exact⟨ret_val (by rw[HFM.out,HF.out];rfl),rfl⟩
  have HN:=hid (show ¬ (1 < a.data.toList.length/\a.data.toList[0]?.getD 0=48) by rw[hz];exact fun h=>z1 h.2);by_cases ha1:1 < a.size
  all_goals
   have HF:=hid (f3_ok (m:=true) (pt:=true) (w:=a.data.toList) (p:=p.data.toList) HAD.out HPD.out (fun _=>HP3.out) e3 HN.out (fun h=>HPN.out h.2.2));clear e3 z1 hz;by_cases hq:a.toList=[48]
   ·have hq':(a.toList == [48])=true:=by rw[hq];rfl
    clear hq;go_wp2;go_returns;exact⟨ret_val (by rw[HFM.out,HF.out];rfl),rfl⟩
   have hq':(a.toList == [48])=false:=by rw[beq_eq_false_iff_ne];exact hq
   clear hq;go_wp2;go_returns;exact⟨ret_val (by rw[HFM.out,HF.out];rfl),rfl⟩
 have hde:d=t.size:=by omega
 rcases hfin' with⟨-,f2,f3⟩ | ⟨f1,-,-,-⟩
 rotate_left
 ·rw[<-size_len] at f1;omega
 rw[hde,size_len,List.take_length] at haT;rw[f2] at HFM;rw[<-haT] at f3 HFM;have HAD:=hid f3;have HAL:=hid hal;have HDE:=hid hde;have hal2:a.size<=t.size:=by omega
 clear f2 f3 haT hde hal;rcases Nat.eq_zero_or_pos a.size with ha0 | ha0
 ·obtain⟨e1,e2,e3⟩:=tl_nil a ha0;have HF:=hid (f3_word (m:=true) (pt:=false) (p:=[]) (Or.inl e3));clear e3 ha0;go_wp2;go_returns;exact⟨ret_val (by rw[HFM.out,HF.out];rfl),rfl⟩
 obtain⟨e1,e2,e3⟩:=tl_cons a ha0;have hz:=at0 a ha0;rcases b0_ways a ha0 with⟨z1,z2⟩ | ⟨z1,z2⟩
 ·by_cases ha1:1 < a.size
  ·have HF:=hid (f3_word (m:=true) (pt:=false) (p:=[]) (Or.inr (Or.inl ⟨by rw[<-size_len];exact ha1,by rw[hz];exact z1⟩)));clear e3 z1 hz;go_wp2;go_returns;exact⟨ret_val (by rw[HFM.out,HF.out];rfl),rfl⟩
  have HN:=hid (show ¬ (1 < a.data.toList.length/\a.data.toList[0]?.getD 0=48) by rw[<-size_len];omega);by_cases hq:a.toList=[48]
  ·have hq':(a.toList == [48])=true:=by rw[hq];rfl
   have HF:=hid (f3_word (m:=true) (pt:=false) (w:=a.data.toList) (p:=[]) (Or.inr (Or.inr ⟨rfl,by rw[<-ByteArray.toList_eq];exact hq,rfl⟩)));clear hq e3 z1 hz;go_wp2;go_returns;exact⟨ret_val (by rw[HFM.out,HF.out];rfl),rfl⟩
  have hq':(a.toList == [48])=false:=by rw[beq_eq_false_iff_ne];exact hq
  have HF:=hid (f3_ok (m:=true) (pt:=false) (w:=a.data.toList) (p:=[]) HAD.out rfl (fun h=>by cases h) e3 HN.out (fun h=>hq (by rw[ByteArray.toList_eq];exact h.2.1)));clear hq e3 z1 hz;go_wp2;go_returns;exact⟨ret_val (by rw[HFM.out,HF.out];rfl),rfl⟩
 have HN:=hid (show ¬ (1 < a.data.toList.length/\a.data.toList[0]?.getD 0=48) by rw[hz];exact fun h=>z1 h.2);by_cases ha1:1 < a.size
 all_goals
  by_cases hq:a.toList=[48]
  ·have hq':(a.toList == [48])=true:=by rw[hq];rfl
   have HF:=hid (f3_word (m:=true) (pt:=false) (w:=a.data.toList) (p:=[]) (Or.inr (Or.inr ⟨rfl,by rw[<-ByteArray.toList_eq];exact hq,rfl⟩)));clear hq e3 z1 hz;go_wp2;go_returns;exact⟨ret_val (by rw[HFM.out,HF.out];rfl),rfl⟩
  have hq':(a.toList == [48])=false:=by rw[beq_eq_false_iff_ne];exact hq
  have HF:=hid (f3_ok (m:=true) (pt:=false) (w:=a.data.toList) (p:=[]) HAD.out rfl (fun h=>by cases h) e3 HN.out (fun h=>hq (by rw[ByteArray.toList_eq];exact h.2.1)));clear hq e3 z1 hz;go_wp2;go_returns;exact⟨ret_val (by rw[HFM.out,HF.out];rfl),rfl⟩
end Go.Proofs.YtjaeedbjknejdaaGreatDoor.Fx
