/- Packed texts: FixFormP, FixParseR, AttVal, AttSplit, AttSplitW -/
import Derived.Test.YtjaeedbjknejdaaGreatDoorPd08
import Derived.Test.YtjaeedbjknejdaaGreatDoorPd07
import Derived.BigQuiet
set_option linter.unusedVariables false
set_option linter.unusedSimpArgs false
set_option maxHeartbeats 16000000
set_option maxRecDepth 100000
namespace Go.Proofs.YtjaeedbjknejdaaGreatDoor.Fx
open Go.RowKit Go.Sort Go.Lib Go.Shelf
theorem form_plus (s:ByteArray)(w:World)(hs:s.size<=9223372036854775807)(hp:0 < s.size)(h0:0 < s.size)(ht:(((s[0]'h0).toNat:Int) == 45)=false)(hw:HeadWay s s false):
  Calls Tryz.prog 243 #[.string s] w fun e w'=>e=.returned (formV (form s.data.toList))/\w=w':=by
 obtain⟨hm,he⟩:=hw
 have HFM:Hid (form s.data.toList=form3 false (splitDot s.data.toList).2.2 (splitDot s.data.toList).1 (splitDot s.data.toList).2.1):=by
  unfold form;rw[hm,<- he];exact rfl
 clear hm he;generalize form s.data.toList=FR at HFM ⊢;go_enter Tryz.func243,Tryz.ntmps243;go_wp2_with fail
 go_loop [7,8] (fun d' i'=>∃ d k:Nat,k<=s.size/\d<=s.size/\ScI s.data.toList k d/\d'=.int .i64 d/\i'=.int .i64 k) (fun _ i'=>s.size - (RowKit.intOf i').toNat)
 case atStart=>exact⟨s.size,0,by omega,by omega,by have:=ScI.start s.data.toList;rw[<-size_len] at this;exact this,rfl,rfl⟩
 obtain⟨d,k,hk,hd,hI,rfl,rfl⟩:=hrel;by_cases hlt:k < s.size
 ·rcases byte_ways s k d hlt hI with⟨⟨c1,c2⟩,hI'⟩ | ⟨⟨c1,c2,c3⟩,hI'⟩ | ⟨⟨c1,c2,c3⟩,hI'⟩ | ⟨⟨c1,c2⟩,hI'⟩ | ⟨⟨c1,c2,c3⟩,hI'⟩
  ·have HI:=hid hI';clear hI hI';go_wp2
   go_round
   case rel=>exact⟨k,k+1,by omega,by omega,HI.out,rfl,by go_num⟩
   case measure=>simp[RowKit.intOf];omega
  ·have HI:=hid hI';clear hI hI';go_wp2
   go_round
   case rel=>exact⟨d,k+1,by omega,by omega,HI.out,rfl,by go_num⟩
   case measure=>simp[RowKit.intOf];omega
  all_goals
   have HF:=hid (f3_scan (m:=false) (pt:=(splitDot s.data.toList).2.2) hI');clear hI hI';go_wp2;go_returns;exact⟨ret_val (by rw[HFM.out,HF.out];rfl),rfl⟩
 obtain rfl:k=s.size:=by omega
 have hfin:ScI s.data.toList s.data.toList.length d:=by rw[<-size_len];exact hI
 have hfin':=hfin.fin;clear hI hfin hlt hk;obtain⟨a,hae⟩:∃ a,s.extract 0 d=a:=⟨_,rfl⟩;have haT:a.data.toList=s.data.toList.take d:=by rw[<-hae,extract_upto]
 have hal:a.size=d:=by rw[size_len,haT,List.length_take,<- size_len];omega
 by_cases hds:d < s.size
 ·rcases hfin' with⟨f1,-,-⟩ | ⟨-,f2,f3,f4⟩
  ·rw[<-size_len] at f1;omega
  obtain⟨p,hpe⟩:∃ p,s.extract (d+1) s.size=p:=⟨_,rfl⟩;have hpT:p.data.toList=s.data.toList.drop (d+1):=by rw[<-hpe,extract_from]
  have hpl:p.size+d+1=s.size:=by rw[size_len,hpT,List.length_drop,<- size_len];omega
  rw[f2] at HFM;rw[<-haT] at f3 HFM;rw[<-hpT] at f4 HFM;have HAD:=hid f3;have HPD:=hid f4;clear f2 f3 f4 haT hpT;have HAL:=hid hal;clear hal;have hal2:a.size<=s.size:=by have:=HAL.out;omega
  have hpl2:p.size<=s.size:=by omega
  have HPL:=hid hpl;clear hpl;rcases Nat.eq_zero_or_pos p.size with hp0 | hp0
  ·have HF:=hid (f3_part (m:=false) (w:=a.data.toList) (p:=p.data.toList) (Or.inl (by rw[<-size_len];omega)));go_wp2;go_returns;exact⟨ret_val (by rw[HFM.out,HF.out];rfl),rfl⟩
  by_cases hp3:3 < p.size
  ·have HF:=hid (f3_part (m:=false) (w:=a.data.toList) (p:=p.data.toList) (Or.inr (Or.inl (by rw[<-size_len];omega))));go_wp2;go_returns;exact⟨ret_val (by rw[HFM.out,HF.out];rfl),rfl⟩
  obtain⟨j,hj⟩:∃ j,p.size=j+1:=⟨p.size - 1,by omega⟩;have hjl:j < p.size:=Nat.lt_of_lt_of_eq (Nat.lt_succ_self j) hj.symm;have hl:=atLast p j hj;have HJ:=hid hj;rcases bl_ways p j hjl with⟨y1,y2⟩ | ⟨y1,y2⟩
  ·have HF:=hid (f3_part (m:=false) (w:=a.data.toList) (p:=p.data.toList) (Or.inr (Or.inr (by rw[hl];exact y1))));clear y1 hl;go_wp2;go_returns;exact⟨ret_val (by rw[HFM.out,HF.out];rfl),rfl⟩
  have HP3:=hid (show 1<=p.data.toList.length/\p.data.toList.length<=3/\p.data.toList[p.data.toList.length - 1]?.getD 0 ≠ 48 from⟨by rw[<-size_len];omega,by rw[<-size_len];omega,by rw[hl];exact y1⟩);obtain⟨p1,p2,p3⟩:=tl_cons p hp0;have HPN:=hid p3;clear y1 hl p3;rcases Nat.eq_zero_or_pos a.size with ha0 | ha0
  ·obtain⟨e1,e2,e3⟩:=tl_nil a ha0;have HF:=hid (f3_word (m:=false) (pt:=true) (p:=p.data.toList) (Or.inl e3));clear e3 ha0;go_wp2;go_returns;exact⟨ret_val (by rw[HFM.out,HF.out];rfl),rfl⟩
  obtain⟨e1,e2,e3⟩:=tl_cons a ha0;have hz:=at0 a ha0;rcases b0_ways a ha0 with⟨z1,z2⟩ | ⟨z1,z2⟩
  ·by_cases ha1:1 < a.size
   ·have HF:=hid (f3_word (m:=false) (pt:=true) (p:=p.data.toList) (Or.inr (Or.inl ⟨by rw[<-size_len];exact ha1,by rw[hz];exact z1⟩)));clear e3 z1 hz;go_wp2;go_returns;exact⟨ret_val (by rw[HFM.out,HF.out];rfl),rfl⟩
   have HN:=hid (show ¬ (1 < a.data.toList.length/\a.data.toList[0]?.getD 0=48) by rw[<-size_len];omega);have HF:=hid (f3_ok (m:=false) (pt:=true) (w:=a.data.toList) (p:=p.data.toList) HAD.out HPD.out (fun _=>HP3.out) e3 HN.out (fun h=>HPN.out h.2.2));clear e3 z1 hz;by_cases hq:a.toList=[48]
   ·have hq':(a.toList == [48])=true:=by rw[hq];rfl
    clear hq;go_wp2;go_returns;exact⟨ret_val (by rw[HFM.out,HF.out];rfl),rfl⟩
   have hq':(a.toList == [48])=false:=by rw[beq_eq_false_iff_ne];exact hq
   clear hq;go_wp2;go_returns;exact⟨ret_val (by rw[HFM.out,HF.out];rfl),rfl⟩
  have HN:=hid (show ¬ (1 < a.data.toList.length/\a.data.toList[0]?.getD 0=48) by rw[hz];exact fun h=>z1 h.2);by_cases ha1:1 < a.size
  all_goals
   have HF:=hid (f3_ok (m:=false) (pt:=true) (w:=a.data.toList) (p:=p.data.toList) HAD.out HPD.out (fun _=>HP3.out) e3 HN.out (fun h=>HPN.out h.2.2));clear e3 z1 hz;by_cases hq:a.toList=[48]
   ·have hq':(a.toList == [48])=true:=by rw[hq];rfl
    clear hq;go_wp2;go_returns;exact⟨ret_val (by rw[HFM.out,HF.out];rfl),rfl⟩
   have hq':(a.toList == [48])=false:=by rw[beq_eq_false_iff_ne];exact hq
   clear hq;go_wp2;go_returns;exact⟨ret_val (by rw[HFM.out,HF.out];rfl),rfl⟩
 have hde:d=s.size:=by omega
 rcases hfin' with⟨-,f2,f3⟩ | ⟨f1,-,-,-⟩
 rotate_left
 ·rw[<-size_len] at f1;omega
 rw[hde,size_len,List.take_length] at haT;rw[f2] at HFM;rw[<-haT] at f3 HFM;have HAD:=hid f3;have HAL:=hid hal;have HDE:=hid hde;have hal2:a.size<=s.size:=by omega
 clear f2 f3 haT hde hal;rcases Nat.eq_zero_or_pos a.size with ha0 | ha0
 ·obtain⟨e1,e2,e3⟩:=tl_nil a ha0;have HF:=hid (f3_word (m:=false) (pt:=false) (p:=[]) (Or.inl e3));clear e3 ha0;go_wp2;go_returns;exact⟨ret_val (by rw[HFM.out,HF.out];rfl),rfl⟩
 obtain⟨e1,e2,e3⟩:=tl_cons a ha0;have hz:=at0 a ha0;rcases b0_ways a ha0 with⟨z1,z2⟩ | ⟨z1,z2⟩
 ·by_cases ha1:1 < a.size
  ·have HF:=hid (f3_word (m:=false) (pt:=false) (p:=[]) (Or.inr (Or.inl ⟨by rw[<-size_len];exact ha1,by rw[hz];exact z1⟩)));clear e3 z1 hz;go_wp2;go_returns;exact⟨ret_val (by rw[HFM.out,HF.out];rfl),rfl⟩
  have HN:=hid (show ¬ (1 < a.data.toList.length/\a.data.toList[0]?.getD 0=48) by rw[<-size_len];omega);have HF:=hid (f3_ok (m:=false) (pt:=false) (w:=a.data.toList) (p:=[]) HAD.out rfl (fun h=>by cases h) e3 HN.out (fun h=>by cases h.1));clear e3 z1 hz;go_wp2;go_returns;exact⟨ret_val (by rw[HFM.out,HF.out];rfl),rfl⟩
 have HN:=hid (show ¬ (1 < a.data.toList.length/\a.data.toList[0]?.getD 0=48) by rw[hz];exact fun h=>z1 h.2);by_cases ha1:1 < a.size
 all_goals
  have HF:=hid (f3_ok (m:=false) (pt:=false) (w:=a.data.toList) (p:=[]) HAD.out rfl (fun h=>by cases h) e3 HN.out (fun h=>by cases h.1));clear e3 z1 hz;go_wp2;go_returns;exact⟨ret_val (by rw[HFM.out,HF.out];rfl),rfl⟩
end Go.Proofs.YtjaeedbjknejdaaGreatDoor.Fx

namespace Go.Proofs.YtjaeedbjknejdaaGreatDoor.Fx
open Go.RowKit Go.Sort Go.Lib Go.Shelf
theorem form_empty (s:ByteArray)(w:World)(h:s.size=0):
  Calls Tryz.prog 243 #[.string s] w fun e w'=>e=.returned (formV (form s.data.toList))/\w=w':=by
 have e:s.data.toList=[]:=List.eq_nil_of_length_eq_zero (by rw[<-size_len];exact h);obtain rfl:s=⟨#[]⟩:=by cases s;rename_i d;cases d;simp at e;subst e;rfl
 go_enter Tryz.func243,Tryz.ntmps243;go_wp2_with fail;refine wp_loop_rounds 1 ?_;rw[rounds_succ];go_wp2;go_returns;exact⟨rfl,rfl⟩
theorem form_any (s:ByteArray)(w:World)(hs:s.size<=9223372036854775807):
  Calls Tryz.prog 243 #[.string s] w fun e w'=>e=.returned (formV (form s.data.toList))/\w=w':=by
 rcases head_ways s with⟨hp,⟨h0,ht⟩,hw⟩ | ⟨hp,⟨h0,ht⟩,hw⟩ | ⟨hp,hw⟩
 ·exact form_minus s w hs hp h0 ht hw
 ·exact form_plus s w hs hp h0 ht hw
 exact form_empty s w hp
theorem form_none (s:ByteArray)(w:World)(hs:s.size<=9223372036854775807)(h:form s.data.toList=none):
  Calls Tryz.prog 243 #[.string s] w fun e w'=>e=.returned (.tuple #[.bool false,.string ⟨#[]⟩,.string ⟨#[]⟩,.bool false])/\w=w':=by
 have:=form_any s w hs;rw[h] at this;exact this
theorem form_some (s a b:ByteArray)(m:Bool)(w:World)(hs:s.size<=9223372036854775807)(h:form s.data.toList=some (m,a.data.toList,b.data.toList)):
  Calls Tryz.prog 243 #[.string s] w fun e w'=>e=.returned (.tuple #[.bool m,.string a,.string b,.bool true])/\w=w':=by
 have:=form_any s w hs;rw[h] at this;exact this
theorem form_len (s:List UInt8)(m:Bool)(w p:List UInt8)(h:form s=some (m,w,p)):w.length<=s.length/\p.length<=3/\w.all isD=true/\p.all isD=true/\w ≠ []:=by
 unfold form at h;generalize hm:hasPrefix s [45]=mm at h;have h1:=splitDot_le (trimPrefix s [45]);have h2:(trimPrefix s [45]).length<=s.length:=by unfold trimPrefix;split <;> simp
 have h3:=splitDot_none (trimPrefix s [45]);generalize (splitDot (trimPrefix s [45])).2.2=pt at h h3;generalize (splitDot (trimPrefix s [45])).1=W at h h1;generalize (splitDot (trimPrefix s [45])).2.1=P at h h1 h3;unfold form3 partOk at h;split at h
 ·cases h
 rename_i c1;split at h
 ·cases h
 rename_i c2;split at h
 ·cases h
 rename_i c3;simp only[Option.some.injEq,Prod.mk.injEq] at h;obtain⟨rfl,rfl,rfl⟩:=h;have c1':W.all isD=true/\P.all isD=true:=by simpa using c1
 refine⟨by omega,?_,c1'.1,c1'.2,?_⟩
 ·cases pt
  ·rw[h3 rfl];simp
  simp at c2;exact c2.1.2
 intro e;subst e;simp at c3
theorem valL_snoc : ∀ (l:List UInt8) (b:UInt8) (a:Nat),valL a (l++[b])=match valL a l with | none=>none | some n=>if 268435456 < 10 * n+(b.toNat - 48) then none else some (10 * n+(b.toNat - 48))
 | [],b,a=>by simp[valL]
 | c::r,b,a=>by
  show(if 268435456 < 10 * a+(c.toNat - 48) then none else valL (10 * a+(c.toNat - 48)) (r++[b]))=match (if 268435456 < 10 * a+(c.toNat - 48) then none else valL (10 * a+(c.toNat - 48)) r) with | none=>none | some n=>if 268435456 < 10 * n+(b.toNat - 48) then none else some (10 * n+(b.toNat - 48))
  split
  ·rfl
  ·exact valL_snoc r b _
theorem valL_none : ∀ (l q:List UInt8) (a:Nat),valL a l=none->valL a (l++q)=none
 | [],_,_,h=>by cases h
 | c::r,q,a,h=>by
  have h':(if 268435456 < 10 * a+(c.toNat - 48) then none else valL (10 * a+(c.toNat - 48)) r)=none:=h;show(if 268435456 < 10 * a+(c.toNat - 48) then none else valL (10 * a+(c.toNat - 48)) (r++q))=none;split
  ·rfl
  ·rename_i hc;rw[if_neg hc] at h';exact valL_none r q _ h'
theorem pad_snoc (b:List UInt8)(h:b.length < 3):pad3 (b++[48])=pad3 b:=by
 unfold pad3;have e:3 - b.length=(3 - (b++[48]).length)+1:=by simp;omega
 rw[e,List.replicate_succ,List.append_assoc];rfl
theorem pad_full (b:List UInt8)(h:3<=b.length):pad3 b=b:=by
 unfold pad3;rw[show 3 - b.length=0 by omega];simp
theorem take_succ_b (t:ByteArray)(k:Nat)(hk:k < t.size):t.data.toList.take (k+1)=t.data.toList.take k++[t[k]]:=by
 have hk':k < t.data.toList.length:=by rw[<-size_len];exact hk
 rw[List.take_succ_eq_append_getElem hk'];rfl
theorem isD_at (t:ByteArray)(k:Nat)(hk:k < t.size)(h:t.data.toList.all isD=true):48<=t[k].toNat/\t[k].toNat<=57:=by
 have hk':k < t.data.toList.length:=by rw[<-size_len];exact hk
 have:=List.all_eq_true.1 h t[k] (by show t.data.toList[k] ∈ _;exact List.getElem_mem hk');unfold isD at this;simpa using this
theorem parseR_any (s:ByteArray)(w:World)(hs:s.size<=4294967280):
  Calls Tryz.prog 209 #[.string s] w fun e w'=>e=.returned (.tuple #[.int .i64 (parse s.data.toList).1,.int .i64 (parse s.data.toList).2])/\w=w':=by
 rw[parse_eq];unfold parseR;cases hF:form s.data.toList with
 | none =>
  have HF:=hid hF;clear hF;go_enter Tryz.func209,Tryz.ntmps209;go_wp2_with (go_at_call 243;refine(form_none s _ (by omega) HF.out).mono ?_;rintro e w ⟨rfl,rfl⟩)
  go_ret2
  exact⟨rfl,rfl⟩
 | some f =>
  obtain⟨m,W,P⟩:=f;obtain⟨l1,l2,l3,l4,l5⟩:=form_len _ _ _ _ hF;obtain⟨a,ha⟩:∃ a:ByteArray,a.data.toList=W:=⟨⟨W.toArray⟩,rfl⟩;obtain⟨b,hb⟩:∃ b:ByteArray,b.data.toList=P:=⟨⟨P.toArray⟩,rfl⟩;subst ha;subst hb;rw[<-size_len] at l1 l2;rw[<-size_len] at l1;have HF:=hid hF;clear hF
  have HD:=hid (show(a.data.toList++pad3 b.data.toList).all isD=true by
   rw[List.all_append,l3,Bool.true_and];unfold pad3;rw[List.all_append,l4,Bool.true_and,List.all_eq_true]
   intro x hx;rw[(List.mem_replicate.1 hx).2];rfl)
  obtain⟨L,hL⟩:∃ L,a.data.toList++pad3 b.data.toList=L:=⟨_,rfl⟩;have HV:Hid (valR (some (m,a.data.toList,b.data.toList))=match valL 0 L with | none=>(0,16) | some n=>(if m then -(n:Int) else n,0)):=by rw[<-hL];rfl
  rw[hL] at HD;have HL:=hid hL;clear l3 l4 l5 hL;go_enter Tryz.func209,Tryz.ntmps209;go_wp2_with (go_at_call 243;refine(form_some s a b m _ (by omega) HF.out).mono ?_;rintro e w ⟨rfl,rfl⟩)
  go_loop [6] (fun p'=>∃ c:ByteArray,c.size<=3/\pad3 c.data.toList=pad3 b.data.toList/\p'=.string c) (fun p'=>3 - Lib.strSize p')
  case atStart=>exact⟨b,l2,rfl,rfl⟩
  case round =>
   obtain⟨c,hc3,hcp,rfl⟩:=hrel;by_cases hlt:c.size < 3
   ·have hn:pad3 (c++⟨#[48]⟩).data.toList=pad3 b.data.toList:=by
     rw[data_app,<- hcp];exact pad_snoc _ (by rw[<-size_len];exact hlt)
    have HN:=hid hn;clear hn hcp;go_wp2
    go_round
    case rel=>exact⟨_,by rw[ByteArray.size_append'];show c.size+1<=3;omega,HN.out,rfl⟩
    case measure=>show 3 - (c++⟨#[48]⟩:ByteArray).size < 3 - c.size;rw[ByteArray.size_append'];show 3 - (c.size+1) < _;omega
   have hall:(a++c).data.toList=L:=by
    rw[data_app,<- HL.out,<- hcp,pad_full _ (by rw[<-size_len];omega)]
   obtain⟨t,ht⟩:∃ t,a++c=t:=⟨_,rfl⟩;rw[ht] at hall;have htl:t.size<=4294967283:=by rw[<-ht,ByteArray.size_append'];omega
   have HT:=hid hall;clear hcp hall;go_wp2_with fail
   go_loop [8,10] (fun n' i'=>∃ (k n:Nat),k<=t.size/\n<=268435456/\valL 0 (t.data.toList.take k)=some n/\n'=.int .i64 n/\i'=.int .i64 k) (fun _ i'=>t.size - (RowKit.intOf i').toNat)
   case atStart=>exact⟨0,0,by omega,by omega,rfl,rfl,rfl⟩
   obtain⟨k,n,hk,hn,hv,rfl,rfl⟩:=hrel;by_cases hkl:k < t.size
   ·have hD:=isD_at t k hkl (by rw[HT.out];exact HD.out);obtain⟨d,hd⟩:∃ d:Nat,t[k].toNat=d+48:=⟨t[k].toNat - 48,by omega⟩;have hst:=valL_snoc (t.data.toList.take k) t[k] 0;rw[<-take_succ_b t k hkl,hv] at hst;have hst2:valL 0 (t.data.toList.take (k+1))=if 268435456 < 10 * n+(t[k].toNat - 48) then none else some (10 * n+(t[k].toNat - 48)):=hst;rw[show t[k].toNat - 48=d by omega] at hst2;have d9:d<=9:=by omega
    have hdi:(t[k].toNat:Int)=(d:Int)+48:=by omega
    have HS:=hid hst2;clear hst hst2 hv hd hD;by_cases hbig:268435456 < 10 * n+d
    ·have hno:=HS.out;rw[if_pos hbig] at hno
     have hLn:valL 0 L=none:=by
      have:=valL_none _ (t.data.toList.drop (k+1)) 0 hno;rw[List.take_append_drop,HT.out] at this;exact this
     have HLN:=hid hLn;clear hno hLn;go_wp2
     go_ret2
     exact⟨ret_pair (by rw[HV.out,HLN.out]) (by rw[HV.out,HLN.out]),rfl⟩
    have hyes:=HS.out;rw[if_neg hbig] at hyes;have HY:=hid hyes;clear hyes;go_wp2
    go_round
    case rel=>exact⟨k+1,10 * n+d,by omega,by omega,HY.out,by go_num,by go_num⟩
    case measure=>simp[RowKit.intOf];omega
   have hfin:valL 0 L=some n:=by
    rw[List.take_of_length_le (by rw[<-size_len];omega),HT.out] at hv;exact hv
   have HF2:=hid hfin;clear hfin hv;cases m
   all_goals
    go_wp2
    go_ret2
    exact⟨ret_pair (by rw[HV.out,HF2.out];rfl) (by rw[HV.out,HF2.out]),rfl⟩
end Go.Proofs.YtjaeedbjknejdaaGreatDoor.Fx

namespace Go.Proofs.YtjaeedbjknejdaaGreatDoor.At
open Go.RowKit Go.Sort Go.Lib Go.Shelf Fx Lx
def valN (r:Rul)(n:Int):Int × Bool:=(n,decide (r.2.1<=n) && decide (n<=r.2.2.1))
def valT (r:Rul)(T:Int × Int):Int × Bool :=
 if T.2 ≠ 0 then (0,false) else if r.1=3 then (if T.1.tmod 1000 ≠ 0 then (0,false) else valN r (T.1.tdiv 1000)) else valN r T.1
theorem value_any (a lo hi d:Int)(s:ByteArray)(w:World)(hs:s.size<=4294967280):
  Calls Tryz.prog 156 #[knownV (a,lo,hi,d),.string s] w fun e w'=>e=.returned (.tuple #[.int .i64 (valT (a,lo,hi,d) (parse s.data.toList)).1,.bool (valT (a,lo,hi,d) (parse s.data.toList)).2])/\Ext w w':=by
 unfold knownV;dsimp only;obtain⟨v,c,hp⟩:∃ v c,parse s.data.toList=(v,c):=⟨_,_,rfl⟩;have hpa:=fun w=>parseR_any s w hs
 have hb:c=0->v<=268435456 /\ -268435456<=v:=fun h=>by rw[h] at hp;exact(exact_ok _ _ hp).2
 have hx0:Ext w (w.alloc (.cells #[.int .i64 a,.int .i64 lo,.int .i64 hi,.int .i64 d] 216)):=(Ext.refl _).alloc _;rw[hp] at hpa ⊢;have HPA:=hid hpa;clear hp hpa hs;unfold valT;dsimp only;by_cases k0:c=0
 ·obtain⟨fc,fc2⟩:=eq_facts k0;obtain⟨b1,b2⟩:=hb k0;rw[if_neg (fun h=>h k0)];clear hb;by_cases k3:a=3
  ·obtain⟨f3,_⟩:=eq_facts k3;rw[if_pos k3];by_cases k4:v.tmod 1000=0
   ·obtain⟨f4,f4b⟩:=eq_facts k4;rw[if_neg (fun h=>h k4)]
    have hd:Int.tdiv v 1000<=268435456 /\ -268435456<=Int.tdiv v 1000:=by
     have h:=Int.natAbs_tdiv_le_natAbs v 1000;omega
    unfold valN;dsimp only;by_cases k1:lo<=Int.tdiv v 1000
    ·have g1:decide (lo<=Int.tdiv v 1000)=true:=decide_eq_true k1;rw[g1,Bool.true_and];by_cases k2:Int.tdiv v 1000<=hi
     ·have g2:decide (Int.tdiv v 1000<=hi)=true:=decide_eq_true k2;rw[g2];clear k1 k2 k0 k3 k4;go_enter Tryz.func156,Tryz.ntmps156;go_wp2_with (go_at_call 209;refine(HPA.out _).mono ?_;rintro e w1 ⟨rfl,rfl⟩)
      go_quiet (fail)
      go_wp2;go_returns;exact⟨rfl,hx0.drewN _⟩
     have g2:decide (Int.tdiv v 1000<=hi)=false:=decide_eq_false k2;rw[g2];clear k1 k2 k0 k3 k4;go_enter Tryz.func156,Tryz.ntmps156;go_wp2_with (go_at_call 209;refine(HPA.out _).mono ?_;rintro e w1 ⟨rfl,rfl⟩)
     go_quiet (fail)
     go_wp2;go_returns;exact⟨rfl,hx0.drewN _⟩
    have g1:decide (lo<=Int.tdiv v 1000)=false:=decide_eq_false k1;rw[g1,Bool.false_and];clear k1 k0 k3 k4;go_enter Tryz.func156,Tryz.ntmps156;go_wp2_with (go_at_call 209;refine(HPA.out _).mono ?_;rintro e w1 ⟨rfl,rfl⟩)
    go_quiet (fail)
    go_wp2;go_returns;exact⟨rfl,hx0.drewN _⟩
   obtain⟨f4,f4b⟩:=ne_facts k4;rw[if_pos k4];clear k0 k3 k4;go_enter Tryz.func156,Tryz.ntmps156;go_wp2_with (go_at_call 209;refine(HPA.out _).mono ?_;rintro e w1 ⟨rfl,rfl⟩);go_returns;exact⟨rfl,hx0⟩
  obtain⟨f3,_⟩:=ne_facts k3;rw[if_neg k3];unfold valN;dsimp only;by_cases k1:lo<=v
  ·have g1:decide (lo<=v)=true:=decide_eq_true k1;rw[g1,Bool.true_and];by_cases k2:v<=hi
   ·have g2:decide (v<=hi)=true:=decide_eq_true k2;rw[g2];clear k1 k2 k0 k3;go_enter Tryz.func156,Tryz.ntmps156;go_wp2_with (go_at_call 209;refine(HPA.out _).mono ?_;rintro e w1 ⟨rfl,rfl⟩)
    go_quiet (fail)
    go_wp2;go_returns;exact⟨rfl,hx0.drewN _⟩
   have g2:decide (v<=hi)=false:=decide_eq_false k2;rw[g2];clear k1 k2 k0 k3;go_enter Tryz.func156,Tryz.ntmps156;go_wp2_with (go_at_call 209;refine(HPA.out _).mono ?_;rintro e w1 ⟨rfl,rfl⟩)
   go_quiet (fail)
   go_wp2;go_returns;exact⟨rfl,hx0.drewN _⟩
  have g1:decide (lo<=v)=false:=decide_eq_false k1;rw[g1,Bool.false_and];clear k1 k0 k3;go_enter Tryz.func156,Tryz.ntmps156;go_wp2_with (go_at_call 209;refine(HPA.out _).mono ?_;rintro e w1 ⟨rfl,rfl⟩)
  go_quiet (fail)
  go_wp2;go_returns;exact⟨rfl,hx0.drewN _⟩
 obtain⟨fc,fc2⟩:=ne_facts k0;rw[if_pos k0];clear k0 hb;go_enter Tryz.func156,Tryz.ntmps156;go_wp2_with (go_at_call 209;refine(HPA.out _).mono ?_;rintro e w1 ⟨rfl,rfl⟩);go_returns;exact⟨rfl,hx0⟩
end Go.Proofs.YtjaeedbjknejdaaGreatDoor.At

namespace Go.Proofs.YtjaeedbjknejdaaGreatDoor.At
open Go.RowKit Go.Sort Go.Lib Go.Shelf Fx Lx
def splitFrom (s:ByteArray)(a i:Nat):Nat->List ByteArray
 | 0=>[s.extract a s.size]
 | f+1 =>
  if i+1 < s.size then
   if bt s.data.toList i=44/\bt s.data.toList (i+1)=32 then s.extract a i::splitFrom s (i+2) (i+2) f
   else splitFrom s a (i+1) f
  else [s.extract a s.size]
theorem occ2 (l:List UInt8)(i:Nat)(h:i+1 < l.length):Lib.occAt l [44,32] i=(decide (bt l i=44) && decide (bt l (i+1)=32)):=by
 rw[Lib.occAt_iff_take l [44,32] i (by simp;omega)];have h0:i < l.length:=by omega
 have e:(l.drop i).take ([44,32]:List UInt8).length=[l[i],l[i+1]]:=by
  rw[List.drop_eq_getElem_cons h0,List.drop_eq_getElem_cons h];rfl
 rw[e];unfold bt;rw[List.getElem?_eq_getElem h0,List.getElem?_eq_getElem h];rw[Bool.eq_iff_iff,beq_iff_eq,Bool.and_eq_true,decide_eq_true_eq,decide_eq_true_eq];exact⟨fun h=>by injection h with h1 h2;injection h2 with h2 _;exact⟨h1,h2⟩,fun⟨h1,h2⟩=>by rw[show l[i]=44 from h1,show l[i+1]=32 from h2]⟩
theorem split_from (s:ByteArray):∀ (f a i:Nat),a<=i->s.size<=i+f->i<=s.size->Lib.NoOcc (s.extract a s.size).data.toList [44,32] (i - a)->splitFrom s a i f=parts (s.extract a s.size)
 | 0,a,i,ha,hf,hi,hn=>by
  have hm:Lib.indexB (s.extract a s.size) comma = -1:=by
   refine Lib.index_past (i:=i - a) (by decide) hn ?_;rw[<-size_len,ByteArray.size_extract,show comma.data.toList.length=2 from rfl];omega
  show [s.extract a s.size]=parts _;unfold parts;rw[Lib.splitB_miss _ _ _ _ hm]
 | f+1,a,i,ha,hf,hi,hn=>by
  have hl:(s.extract a s.size).data.toList.length=s.size - a:=by rw[<-size_len,ByteArray.size_extract];omega
  have hbt:∀ j,a<=j->bt (s.extract a s.size).data.toList (j - a)=bt s.data.toList j:=fun j hj=>by
   unfold bt;rw[extract_from,List.getElem?_drop,show a+(j - a)=j by omega]
  unfold splitFrom;by_cases h1:i+1 < s.size
  ·rw[if_pos h1];have ho:=occ2 (s.extract a s.size).data.toList (i - a) (by omega);rw[show i - a+1=(i+1) - a by omega,hbt i ha,hbt (i+1) (by omega)] at ho;by_cases h2:bt s.data.toList i=44/\bt s.data.toList (i+1)=32
   ·rw[if_pos h2];rw[decide_eq_true h2.1,decide_eq_true h2.2] at ho;have hx:Lib.indexB (s.extract a s.size) comma=(i - a:Nat):=Lib.index_hit hn (by rw[hl];omega) ho;have ih:=split_from s f (i+2) (i+2) (Nat.le_refl _) (by omega) (by omega) (by rw[Nat.sub_self];exact Lib.NoOcc.zero _ _);rw[ih];have hc:=Lib.countB_hit (s.extract a s.size) comma (i - a) (by decide) hx
    have e2:(s.extract a s.size).extract (i - a+comma.size) (s.extract a s.size).size=s.extract (i+2) s.size:=by
     apply ByteArray.ext;apply Array.toList_inj.1;rw[extract_from,extract_from,extract_from,List.drop_drop,show comma.size=2 from rfl,show a+(i - a+2)=i+2 by omega]
    have e1:(s.extract a s.size).extract 0 (i - a)=s.extract a i:=by
     rw[ByteArray.extract_extract]
     congr 1 <;> omega
    rw[e2] at hc;show _=Lib.splitB comma 0 (Lib.countB (s.extract a s.size) comma) (s.extract a s.size);rw[hc,show ∀ n:Nat,1+n=n+1 from fun n=>Nat.add_comm 1 n,Lib.splitB_hit _ _ _ _ _ hx,e2];show _=(s.extract a s.size).extract 0 (i - a)::_;rw[e1]
    rfl
   rw[if_neg h2]
   have ho':Lib.occAt (s.extract a s.size).data.toList [44,32] (i - a)=false:=by
    rw[ho];by_cases h3:bt s.data.toList i=44
    ·rw[decide_eq_true h3,decide_eq_false (fun e=>h2 ⟨h3,e⟩)];rfl
    rw[decide_eq_false h3];rfl
   exact split_from s f a (i+1) (by omega) (by omega) (by omega) (by rw[show i+1 - a=(i - a)+1 by omega];exact Lib.NoOcc.succ hn ho')
  ·rw[if_neg h1]
   have hm:Lib.indexB (s.extract a s.size) comma = -1:=by
    refine Lib.index_past (i:=i - a) (by decide) hn ?_;rw[hl,show comma.data.toList.length=2 from rfl];omega
   unfold parts;rw[Lib.splitB_miss _ _ _ _ hm]
theorem split_all (s:ByteArray)(f:Nat)(h:s.size<=f):splitFrom s 0 0 f=parts s:=by
 have:=split_from s f 0 0 (Nat.le_refl _) (by omega) (by omega) (Lib.NoOcc.zero _ _);rw[this]
 congr 1
 apply ByteArray.ext;apply Array.toList_inj.1;rw[extract_from];rfl
end Go.Proofs.YtjaeedbjknejdaaGreatDoor.At

namespace Go.Proofs.YtjaeedbjknejdaaGreatDoor.At
open Go.RowKit Go.Sort Go.Lib Go.Shelf Fx Lx
theorem info_str : (Tryz.prog.info? 9).map (fun i=>(i.zero,i.size,i.bytes))=some (some (.string ⟨#[]⟩),1,16):=by kernel_rfl
theorem splitFrom_step (s:ByteArray)(a i f:Nat)(h:i+1 < s.size):splitFrom s a i (f+1) =
  if s[i].toNat=44/\s[i+1].toNat=32 then s.extract a i::splitFrom s (i+2) (i+2) f else splitFrom s a (i+1) f:=by
 show(if i+1 < s.size then _ else _)=_;rw[if_pos h,bt_at s i (by omega),bt_at s (i+1) h];have e:∀ b c:UInt8,b=c ↔ b.toNat=c.toNat:=fun b c=>⟨fun h=>by rw[h],fun h=>UInt8.toNat_inj.1 h⟩
 by_cases h1:s[i]=44/\s[i+1]=32
 ·rw[if_pos h1,if_pos ⟨by rw[h1.1];rfl,by rw[h1.2];rfl⟩]
 rw[if_neg h1,if_neg (fun h2=>h1 ⟨(e _ _).2 h2.1,(e _ _).2 h2.2⟩)]
theorem splitFrom_end (s:ByteArray)(a i f:Nat)(h:¬ i+1 < s.size):splitFrom s a i f=[s.extract a s.size]:=by
 cases f with
 | zero=>rfl
 | succ f=>show(if i+1 < s.size then _ else _)=_;rw[if_neg h]
theorem splitR_any (s:ByteArray)(w:World)(hs:s.size<=4294967281):
  Calls Tryz.prog 207 #[.string s] w fun e w'=>(∃ v,e=.returned v/\w'.ownsRow w.heap.size 9 1 v (parts s).length ((parts s).map Value.string))/\Ext w w':=by
 obtain⟨R,hR⟩:∃ R,R=parts s:=⟨_,rfl⟩;have HR:Hid (R=[]++splitFrom s 0 0 s.size):=hid (by rw[hR,split_all s _ (Nat.le_refl _)];rfl);rw[<-hR];clear hR;obtain⟨i0,hi,hz0,hz1,hz2⟩:=info_parts info_str;go_enter Tryz.func207,Tryz.ntmps207;go_wp2_with fail;have ho0:(w.alloc (.cells #[] 9)).ownsRow w.heap.size 9 1 (.slice (some ⟨w.heap.size,0,none⟩) 0 0) 0 []:=World.ownsRow_made w #[] 0 (Nat.le_refl _) (by unfold maxLen;omega) rfl;have hx0:Ext w (w.alloc (.cells #[] 9)):=(Ext.refl _).alloc _
 go_loopw [3,4,5] (fun out a' i' wr=>∃ (a i f:Nat) (D:List ByteArray),a'=.int .i64 a/\i'=.int .i64 i/\a<=i/\i<=s.size/\s.size<=i+f/\wr.ownsRow w.heap.size 9 1 out D.length (D.map Value.string)/\Ext w wr/\Hid (R=D++splitFrom s a i f)/\D.length<=i)
  (fun _ _ i' _=>s.size - (RowKit.intOf i').toNat)
 case atStart=>exact⟨0,0,s.size,[],rfl,rfl,by omega,by omega,by omega,ho0,hx0,HR,by simp⟩
 obtain⟨a,i,f,D,rfl,rfl,hai,hi1,hf,hown,hx,ha,hD⟩:=hrel;clear HR;have hxs:=hx.size;by_cases hp:i+1 < s.size
 ·obtain⟨f,rfl⟩:∃ f',f=f'+1:=⟨f - 1,by omega⟩;have hst:=ha.out;rw[splitFrom_step s a i f hp] at hst;clear ha;by_cases h1:s[i].toNat=44
  ·obtain⟨f1,_⟩:=eq_facts (x:=(s[i].toNat:Int)) (k:=44) (by omega);by_cases h2:s[i+1].toNat=32
   ·rw[if_pos ⟨h1,h2⟩] at hst;obtain⟨f2,_⟩:=eq_facts (x:=(s[i+1].toNat:Int)) (k:=32) (by omega);have hf2:Hid (R=(D++[s.extract a i])++splitFrom s (i+2) (i+2) f):=hid (by rw[hst];simp);clear hst h1 h2;go_wp2_with (at_builtin;refine wpList_append_own _ rfl _ _ 43 rfl w.heap.size 9 i0 _ 1 16 Tryz.underlying43 hi hz0 hz1 hz2 rfl (by decide) _ _ _ rfl (hown.alloc _) ⟨wr.heap.size,0,none⟩ 1 1 [.string (s.extract a i)] rfl rfl ?c1 ?c2 ?c3 ?c4 ?c5 ?_)
    case c1=>exact fun j u hj=>cell_new1 wr [.string (s.extract a i)] 9 j u hj
    case c2=>intro u hu;simp at hu;rcases hu with rfl;rfl
    case c3=>unfold maxLen;omega
    case c4=>omega
    case c5=>simp;omega
    intro v' w5 hown' hgrow _;have hown2:w5.ownsRow w.heap.size 9 1 v' (D++[s.extract a i]).length ((D++[s.extract a i]).map Value.string):=by simpa using hown'
    have hx5:Ext w w5:=Below.grown (hx.alloc _) hgrow (by simp;omega) (fun k hk=>(hown.lt k hk).1);clear hown' hgrow hown;go_wp2
    go_roundw
    case rel=>exact⟨i+2,i+2,f,D++[s.extract a i],by go_num,by go_num,by omega,by omega,by omega,hown2,hx5,hf2,by simp;omega⟩
    case measure=>simp[RowKit.intOf];omega
   rw[if_neg (fun h=>h2 h.2)] at hst;obtain⟨f2,_⟩:=ne_facts (x:=(s[i+1].toNat:Int)) (k:=32) (by omega);have hf2:=hid hst;clear hst h1 h2;go_wp2
   go_roundw
   case rel=>exact⟨a,i+1,f,D,rfl,by go_num,by omega,by omega,by omega,hown,hx,hf2,by omega⟩
   case measure=>simp[RowKit.intOf];omega
  rw[if_neg (fun h=>h1 h.1)] at hst;obtain⟨f1,_⟩:=ne_facts (x:=(s[i].toNat:Int)) (k:=44) (by omega);have hf2:=hid hst;clear hst h1;go_wp2
  go_roundw
  case rel=>exact⟨a,i+1,f,D,rfl,by go_num,by omega,by omega,by omega,hown,hx,hf2,by omega⟩
  case measure=>simp[RowKit.intOf];omega
 have hf2:Hid (R=D++[s.extract a s.size]):=hid (by rw[ha.out,splitFrom_end s a i f hp]);clear ha;go_wp2_with (at_builtin;refine wpList_append_own _ rfl _ _ 43 rfl w.heap.size 9 i0 _ 1 16 Tryz.underlying43 hi hz0 hz1 hz2 rfl (by decide) _ _ _ rfl (hown.alloc _) ⟨wr.heap.size,0,none⟩ 1 1 [.string (s.extract a s.size)] rfl rfl ?c1 ?c2 ?c3 ?c4 ?c5 ?_)
 case c1=>exact fun j u hj=>cell_new1 wr [.string (s.extract a s.size)] 9 j u hj
 case c2=>intro u hu;simp at hu;rcases hu with rfl;rfl
 case c3=>unfold maxLen;omega
 case c4=>omega
 case c5=>simp;omega
 intro v' w5 hown' hgrow _;have hown2:w5.ownsRow w.heap.size 9 1 v' (D++[s.extract a s.size]).length ((D++[s.extract a s.size]).map Value.string):=by simpa using hown'
 have hx5:Ext w w5:=Below.grown (hx.alloc _) hgrow (by simp;omega) (fun k hk=>(hown.lt k hk).1);clear hown' hgrow hown;go_wp2;go_returns;rw[hf2.out];exact⟨⟨_,rfl,hown2⟩,hx5⟩
end Go.Proofs.YtjaeedbjknejdaaGreatDoor.At
