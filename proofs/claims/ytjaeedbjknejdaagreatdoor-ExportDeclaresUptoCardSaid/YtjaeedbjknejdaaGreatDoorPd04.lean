/- Packed texts: FixParse, FixForm -/
import Derived.Test.YtjaeedbjknejdaaGreatDoorPd03
import Derived.Lib.Atoi
import Derived.Lib.UnsafeStr
import Derived.Handy
set_option linter.unusedVariables false
set_option linter.unusedSimpArgs false
set_option maxHeartbeats 16000000
set_option maxRecDepth 100000
namespace Go.Proofs.YtjaeedbjknejdaaGreatDoor.Fx
open Go.RowKit Go.Sort Go.Lib Go.Shelf
def Env (w:World):Prop:=Pows w/\∃ m,w.cell? ⟨0,0,none⟩=some (.int .i64 m)
theorem Env.ext {w w':World}(h:Env w)(k:Ext w w'):Env w':=⟨h.1.ext k,h.2.elim fun m hm=>⟨m,k.cell hm⟩⟩
theorem digitVal_isD {b:UInt8}(h:isD b=true):digitVal b=some (b.toNat - 48):=by
 unfold isD at h;unfold digitVal;rw[if_pos (by simpa using h)]
theorem decFrom_val : ∀ (l:List UInt8) (a:Nat),l.all isD=true->decFrom a l=some (valF a l)
 | [],a,_=>rfl
 | b::r,a,h=>by
  simp only[List.all_cons,Bool.and_eq_true] at h;have ih:=decFrom_val r (10 * a+(b.toNat - 48)) h.2;show(match digitVal b with | some d=>decFrom (a * 10+d) r | none=>none)=some (valF (10 * a+(b.toNat - 48)) r);rw[digitVal_isD h.1,Nat.mul_comm a 10];exact ih
theorem atoi_val (l:List UInt8)(h:l.all isD=true)(hne:l ≠ []):atoi l=some (valF 0 l:Int):=by
 cases l with
 | nil=>exact absurd rfl hne
 | cons b r =>
  have hb:isD b=true:=by simp at h;exact h.1
  have h48:48<=b.toNat/\b.toNat<=57:=by unfold isD at hb;simpa using hb
  have n1:(b == 45)=false:=by rw[beq_eq_false_iff_ne];intro e;subst e;exact absurd h48.1 (by decide)
  have n2:(b == 43)=false:=by rw[beq_eq_false_iff_ne];intro e;subst e;exact absurd h48.1 (by decide)
  show(if b == 45 then _ else if b == 43 then _ else (decNat (b::r)).map fun(m:Nat)=>(m:Int))=_;rw[n1,n2];simp only[Bool.false_eq_true,if_false];unfold decNat;rw[if_neg (by simp),decFrom_val _ _ h]
  rfl
theorem valF_lt : ∀ (l:List UInt8) (a:Nat),l.all isD=true->valF a l < (a+1) * 10 ^ l.length
 | [],a,_=>by simp[valF]
 | b::r,a,h=>by
  simp only[List.all_cons,Bool.and_eq_true] at h;have h48:48<=b.toNat/\b.toNat<=57:=by have:=h.1;unfold isD at this;simpa using this
  have ih:=valF_lt r (10 * a+(b.toNat - 48)) h.2;show valF (10 * a+(b.toNat - 48)) r < (a+1) * 10 ^ (r.length+1);refine Nat.lt_of_lt_of_le ih ?_;rw[Nat.pow_succ,<- Nat.mul_assoc,Nat.mul_right_comm];exact Nat.mul_le_mul_right _ (by omega)
theorem size_len (s:ByteArray):s.size=s.data.toList.length:=by simp
theorem cutPrefix_n (s r:ByteArray)(m:Bool)(w:World)(hr:(⟨(trimPrefix s.data.toList [45]).toArray⟩:ByteArray)=r)(hm:hasPrefix s.data.toList [45]=m):
  Calls Tryz.prog 169 #[.string s,.string ⟨#[45]⟩] w fun e w'=>e=.returned (.tuple #[.string r,.bool m])/\w=w':=by
 subst hr;subst hm;refine(Tryz.strings_CutPrefix s ⟨#[45]⟩ w).mono ?_;rintro e w' ⟨rfl,rfl⟩;exact⟨rfl,rfl⟩
theorem cut_n (s a b:ByteArray)(p:Bool)(w:World)(hs:s.size < 4294967281)(he:Env w)(ha:(⟨(splitDot s.data.toList).1.toArray⟩:ByteArray)=a)(hb:(⟨(splitDot s.data.toList).2.1.toArray⟩:ByteArray)=b)(hp:(splitDot s.data.toList).2.2=p):
  Calls Tryz.prog 113 #[.string s,.string ⟨#[46]⟩] w fun e w'=>e=.returned (.tuple #[.string a,.string b,.bool p])/\Ext w w':=by
 subst ha;subst hb;subst hp;obtain⟨m,hm⟩:=he.2;have h:=Tryz.strings_Cut s ⟨#[46]⟩ m w hs hm;rw[show(⟨#[46]⟩:ByteArray).data.toList=[46] from rfl,cut_dot] at h;refine h.mono ?_;rintro e w' ⟨rfl,n,rfl⟩;exact⟨rfl,(Ext.refl _).drewN n⟩
theorem digits_n (s:ByteArray)(d:Bool)(hd:digs s.data.toList=d)(hs:s.size<=9223372036854775807)(w:World):
  Calls Tryz.prog 170 #[.string s] w fun e w'=>e=.returned (.bool d)/\w=w':=by
 subst hd;exact digits_any s hs w
theorem atoi_n (s:ByteArray)(v:Nat)(hv:valF 0 s.data.toList=v)(hd:s.data.toList.all isD=true)(h1:1<=s.size)(hl:s.size<=18)(w:World):
  Calls Tryz.prog 171 #[.string s] w fun e w'=>e=.returned (.tuple #[.int .i64 v,.nilIface])/\Ext w w':=by
 subst hv;refine(Tryz.strconv_Atoi s _ hl (atoi_val _ hd (fun e=>by have h:=size_len s;rw[e] at h;simp only[List.length_nil] at h;omega)) w).mono ?_;rintro e w' ⟨rfl,t,rfl⟩;exact⟨rfl,below_freeze ((Ext.refl w).drew.alloc _) (Nat.le_refl _) _⟩
theorem splitDot_le : ∀ l:List UInt8,(splitDot l).1.length<=l.length/\(splitDot l).2.1.length<=l.length
 | []=>⟨Nat.le_refl _,Nat.le_refl _⟩
 | b::r=>by
  have ih:=splitDot_le r;unfold splitDot;split
  ·exact⟨by simp,by simp⟩
  ·exact⟨by simp;exact ih.1,by simp;omega⟩
theorem parse_parts (s:ByteArray):∃ (r a b:ByteArray) (m p:Bool),(⟨(trimPrefix s.data.toList [45]).toArray⟩:ByteArray)=r/\hasPrefix s.data.toList [45]=m /\
  (⟨(splitDot r.data.toList).1.toArray⟩:ByteArray)=a/\(⟨(splitDot r.data.toList).2.1.toArray⟩:ByteArray)=b/\(splitDot r.data.toList).2.2=p/\r.size<=s.size/\a.size<=s.size/\b.size<=s.size /\
  parse s.data.toList=parse3 m p a.data.toList b.data.toList:=by
 refine⟨_,_,_,_,_,rfl,rfl,rfl,rfl,rfl,?_,?_,?_,rfl⟩
 ·rw[size_mk,size_len s];unfold trimPrefix;split <;> simp
 ·rw[size_mk,size_len s];have h1:=(splitDot_le (trimPrefix s.data.toList [45])).1;have h2:(trimPrefix s.data.toList [45]).length<=s.data.toList.length:=by unfold trimPrefix;split <;> simp
  exact Nat.le_trans h1 h2
 rw[size_mk,size_len s];have h1:=(splitDot_le (trimPrefix s.data.toList [45])).2;have h2:(trimPrefix s.data.toList [45]).length<=s.data.toList.length:=by unfold trimPrefix;split <;> simp
 exact Nat.le_trans h1 h2
theorem at0 (a:ByteArray)(h:0 < a.size):a.data.toList[0]?.getD 0=a[0]:=by
 have h':0 < a.data.toList.length:=by rw[<-size_len];exact h
 rw[List.getElem?_eq_getElem h'];rfl
theorem atLast (a:ByteArray)(k:Nat)(h:a.size=k+1):a.data.toList[a.data.toList.length - 1]?.getD 0=a[k]:=by
 have e:a.data.toList.length - 1=k:=by rw[<-size_len];omega
 have h':k < a.data.toList.length:=by rw[<-size_len];omega
 rw[e,List.getElem?_eq_getElem h'];rfl
theorem leaf_word {m p:Bool}{A B:List UInt8}(h:digs A=false):parse3 m p A B=(0,4):=by unfold parse3;simp[h]
theorem leaf_zero {m p:Bool}{A B:List UInt8}(h1:1 < A.length)(h2:A[0]?.getD 0=48):parse3 m p A B=(0,4):=by unfold parse3;simp[h1,h2]
theorem leaf_frac {m:Bool}{A B:List UInt8}(h:digs B=false\/3 < B.length\/B[B.length - 1]?.getD 0=48):parse3 m true A B=(0,4):=by
 unfold parse3;split
 ·rfl
 rw[if_pos];rcases h with h | h | h <;> simp[h]
theorem leaf_minus {B:List UInt8}:parse3 true false [48] B=(0,4):=by
 unfold parse3;split
 ·rfl
 simp
def NumWay (m p:Bool)(A B:List UInt8):Prop:=digs A=true/\¬ (1 < A.length/\A[0]?.getD 0=48)/\(p=true->digs B=true/\B.length<=3/\B[B.length - 1]?.getD 0 ≠ 48)/\(p=false->¬ (m=true/\A=[48]))
theorem way_eq {m p:Bool}{A B:List UInt8}(h:NumWay m p A B):parse3 m p A B=if 9 < A.length then (0,16) else if 268435456 < valF 0 (A++(B++[48,48,48]).take 3) then (0,16) else (if m then -(valF 0 (A++(B++[48,48,48]).take 3):Int) else valF 0 (A++(B++[48,48,48]).take 3),0):=by
 obtain⟨h1,h2,h3,h4⟩:=h;unfold parse3;rw[if_neg,if_neg,if_neg]
 ·intro hc;cases p
  ·exact h4 rfl (by simpa using hc)
  simp at hc
 ·intro hc;cases p
  ·simp at hc
  obtain⟨k1,k2,k3⟩:=h3 rfl;simp[k1,k3] at hc;omega
 intro hc;simp[h1] at hc;exact h2 hc
theorem num_bytes (a b:ByteArray)(ha:a.data.toList.all isD=true)(_:b.size<=3)(hb:b.data.toList.all isD=true)(h9:a.size<=9):
  Hid (valF 0 (a++(b++⟨#[48,48,48]⟩).extract 0 3).data.toList=valF 0 (a.data.toList++(b.data.toList++[48,48,48]).take 3))/\Hid ((a++(b++⟨#[48,48,48]⟩).extract 0 3).data.toList.all isD=true) /\
   Hid (a.size<=(a++(b++⟨#[48,48,48]⟩).extract 0 3).size/\(a++(b++⟨#[48,48,48]⟩).extract 0 3).size<=12)/\valF 0 (a.data.toList++(b.data.toList++[48,48,48]).take 3) < 1000000000000:=by
 have e:(a++(b++⟨#[48,48,48]⟩).extract 0 3).data.toList=a.data.toList++(b.data.toList++[48,48,48]).take 3:=by
  rw[data_app,extract_upto,data_app]
 have hl:((b.data.toList++[48,48,48]).take 3).length=3:=by simp
 have hd:(a.data.toList++(b.data.toList++[48,48,48]).take 3).all isD=true:=by
  rw[List.all_append,ha,Bool.true_and];rw[List.all_eq_true];intro x hx;have hx:=List.mem_of_mem_take hx;rw[List.mem_append] at hx;rcases hx with hx | hx
  ·exact(List.all_eq_true.1 hb) x hx
  simp at hx;subst hx;decide
 have hlen:(a.data.toList++(b.data.toList++[48,48,48]).take 3).length=a.size+3:=by rw[List.length_append,hl,<- size_len]
 have hsz:(a++(b++⟨#[48,48,48]⟩).extract 0 3).size=a.size+3:=by rw[size_len,e,hlen]
 refine⟨?_,?_,?_,?_⟩
 ·exact hid (by rw[e])
 ·exact hid (by rw[e];exact hd)
 ·exact hid (by rw[hsz];omega)
 have h1:=valF_lt _ 0 hd;rw[hlen] at h1;have h2:10 ^ (a.size+3)<=10 ^ 12:=Nat.pow_le_pow_right (by omega) (by omega);omega
theorem parse_any (s:ByteArray)(w:World)(hs:s.size < 4294967281)(he:Env w):
  Calls Tryz.prog 110 #[.string s] w fun e w'=>e=.returned (.tuple #[.int .i64 (parse s.data.toList).1,.int .i64 (parse s.data.toList).2])/\Ext w w':=by
 obtain⟨r,a,b,m,p,hr,hm,ha,hb,hp,rl,al,bl,hpar⟩:=parse_parts s;rw[hpar];have hBn:p=false->b.data.toList=[]:=fun h=>by rw[<-hb];exact splitDot_none _ (by rw[hp];exact h)
 have HBN:=hid hBn;have HR:=hid hr;have HM:=hid hm;have HA:=hid ha;have HB:=hid hb;have HP:=hid hp;clear hr hm ha hb hp hpar hBn;have HE:=hid he;clear he;have sl:=size_len a;have sb:=size_len b;have HSL:=hid sl;have HSB:=hid sb;obtain⟨dW,hdW⟩:∃ dW,digs a.data.toList=dW:=⟨_,rfl⟩;obtain⟨dF,hdF⟩:∃ dF,digs b.data.toList=dF:=⟨_,rfl⟩;have HDW:=hid hdW;have HDF:=hid hdF;cases dW
 ·have HF:=hid (leaf_word (m:=m) (p:=p) (B:=b.data.toList) hdW);clear hdW hdF sl sb;go_enter Tryz.func110,Tryz.ntmps110
  go_wp2_with (first
   | (go_at_call 169;refine(cutPrefix_n s r m _ HR.out HM.out).mono ?_;rintro e w ⟨rfl,rfl⟩)
   | (go_at_call 113;refine(cut_n r a b p _ (by omega) HE.out HA.out HB.out HP.out).mono ?_;rintro e w1 ⟨rfl,hx1⟩)
   | (go_at_call_of 170 (Value.string a);refine(digits_n a _ HDW.out (by omega) _).mono ?_;rintro e w ⟨rfl,rfl⟩))
  go_ret2
  exact⟨ret_pair (by rw[HF.out]) (by rw[HF.out]),hx1⟩
 have hne:1<=a.size:=by
  rcases Nat.eq_zero_or_pos a.size with h | h
  ·have e:a.data.toList=[]:=List.eq_nil_of_length_eq_zero (by rw[<-sl];exact h);rw[e] at hdW;simp[digs] at hdW
  exact h
 have h0:=at0 a hne;by_cases h1:1 < a.size/\a[0]=48
 ·obtain⟨h1,hz⟩:=h1;have ht:((a[0].toNat:Int) == 48)=true:=by rw[hz];rfl
  have HF:=hid (leaf_zero (m:=m) (p:=p) (B:=b.data.toList) (by rw[<-sl];exact h1) (by rw[h0];exact hz));clear hdW hdF sl sb hz h0;go_enter Tryz.func110,Tryz.ntmps110
  go_wp2_with (first
   | (go_at_call 169;refine(cutPrefix_n s r m _ HR.out HM.out).mono ?_;rintro e w ⟨rfl,rfl⟩)
   | (go_at_call 113;refine(cut_n r a b p _ (by omega) HE.out HA.out HB.out HP.out).mono ?_;rintro e w1 ⟨rfl,hx1⟩)
   | (go_at_call_of 170 (Value.string a);refine(digits_n a _ HDW.out (by omega) _).mono ?_;rintro e w ⟨rfl,rfl⟩))
  go_ret2
  exact⟨ret_pair (by rw[HF.out]) (by rw[HF.out]),hx1⟩
 have hn1:¬ (1 < a.data.toList.length/\a.data.toList[0]?.getD 0=48):=by rw[<-sl,h0];exact h1
 have hsz:¬ 1 < a.size\/(1 < a.size/\((a[0].toNat:Int) == 48)=false):=by
  by_cases h:1 < a.size
  ·refine Or.inr ⟨h,?_⟩;rw[beq_eq_false_iff_ne];intro e;exact h1 ⟨h,UInt8.toNat_inj.1 (by have e48:(48:UInt8).toNat=48:=rfl;omega)⟩
  exact Or.inl h
 clear h1 h0;have HN1:=hid hn1;clear hn1;cases p
 ·have hbe:=HBN.out rfl;have hb0:b.size=0:=by rw[sb,hbe];rfl
  by_cases hmz:m=true/\a.data.toList=[48]
  ·obtain⟨rfl,hq⟩:=hmz;obtain rfl:a=⟨#[48]⟩:=by cases a;rename_i d;cases d;simp at hq;subst hq;rfl
   have HF:=hid (leaf_minus (B:=b.data.toList));clear hdW hdF sl sb hbe hb0 hq;rcases hsz with hsz | ⟨hsz,ht⟩
   all_goals
    go_enter Tryz.func110,Tryz.ntmps110
    go_wp2_with (first
     | (go_at_call 169;refine(cutPrefix_n s r _ _ HR.out HM.out).mono ?_;rintro e w ⟨rfl,rfl⟩)
     | (go_at_call 113;refine(cut_n r _ b _ _ (by omega) HE.out HA.out HB.out HP.out).mono ?_;rintro e w1 ⟨rfl,hx1⟩)
     | (go_at_call 170;refine(digits_n _ _ HDW.out (by decide) _).mono ?_;rintro e w ⟨rfl,rfl⟩))
    go_ret2
    exact⟨ret_pair (by first | rw[HF.out] | rfl) (by first | rw[HF.out] | rfl),hx1⟩
  have hway:NumWay m false a.data.toList b.data.toList:=⟨hdW,HN1.out,(fun h=>by cases h),fun _=>hmz⟩;have hb3:b.size<=3:=by omega
  have hball:b.data.toList.all isD=true:=by rw[hbe];rfl
  have hq:m=true->(a.toList == [48])=false:=fun h=>by
   rw[beq_eq_false_iff_ne];intro e;exact hmz ⟨h,by rw[<-e,ByteArray.toList_eq]⟩
  clear hbe hb0 hmz;have HQ:=hid hq;clear hq;cases m
  ·skip
   have HWY:=hid (way_eq hway);have hall:a.data.toList.all isD=true:=by have:=hway.1;unfold digs at this;simp at this;simpa using this.1
   have hvb:=num_bytes a b hall hb3 hball;obtain⟨v,hv⟩:∃ v,valF 0 (a.data.toList++(b.data.toList++[48,48,48]).take 3)=v:=⟨_,rfl⟩;rw[hv] at HWY hvb;rw[<-sl] at HWY;clear hdW hdF sl sb hall hball hway hv;by_cases h9:9 < a.size
   ·rw[if_pos h9] at HWY;clear hvb;rcases hsz with hsz | ⟨hsz,ht⟩
    ·omega
    all_goals
     go_enter Tryz.func110,Tryz.ntmps110
     go_wp2_with (first
      | (go_at_call 169;refine(cutPrefix_n s r _ _ HR.out HM.out).mono ?_;rintro e w ⟨rfl,rfl⟩)
      | (go_at_call 113;refine(cut_n r _ _ _ _ (by omega) HE.out HA.out HB.out HP.out).mono ?_;rintro e w1 ⟨rfl,hx1⟩)
      | (go_at_call_of 170 (Value.string a);refine(digits_n a _ HDW.out (by omega) _).mono ?_;rintro e w ⟨rfl,rfl⟩)
      | (go_at_call_of 170 (Value.string b);refine(digits_n b _ HDF.out (by omega) _).mono ?_;rintro e w ⟨rfl,rfl⟩))
     go_ret2
     exact⟨ret_pair (by rw[HWY.out]) (by rw[HWY.out]),hx1⟩
   rw[if_neg h9] at HWY;obtain⟨HV,HVD,HVS,hvl⟩:=hvb (by omega);clear hvb;have hv0:(0:Int)<=v:=by omega
   have hv1:(v:Int)<=999999999999:=by omega
   by_cases hbig:268435456 < v
   ·rw[if_pos hbig] at HWY;rcases hsz with hsz | ⟨hsz,ht⟩
    all_goals
     go_enter Tryz.func110,Tryz.ntmps110
     go_wp2_with (first
      | (go_at_call 169;refine(cutPrefix_n s r _ _ HR.out HM.out).mono ?_;rintro e w ⟨rfl,rfl⟩)
      | (go_at_call 113;refine(cut_n r _ _ _ _ (by omega) HE.out HA.out HB.out HP.out).mono ?_;rintro e w1 ⟨rfl,hx1⟩)
      | (go_at_call_of 170 (Value.string a);refine(digits_n a _ HDW.out (by omega) _).mono ?_;rintro e w ⟨rfl,rfl⟩)
      | (go_at_call_of 170 (Value.string b);refine(digits_n b _ HDF.out (by omega) _).mono ?_;rintro e w ⟨rfl,rfl⟩)
      | (go_at_call 171;refine(atoi_n _ v HV.out HVD.out (by have:=HVS.out;omega) (by have:=HVS.out;omega) _).mono ?_;rintro e w2 ⟨rfl,hx2⟩))
     go_ret2
     exact⟨ret_pair (by rw[HWY.out]) (by rw[HWY.out]),hx1.trans hx2⟩
   rw[if_neg hbig] at HWY;rcases hsz with hsz | ⟨hsz,ht⟩
   all_goals
    go_enter Tryz.func110,Tryz.ntmps110
    go_wp2_with (first
     | (go_at_call 169;refine(cutPrefix_n s r _ _ HR.out HM.out).mono ?_;rintro e w ⟨rfl,rfl⟩)
     | (go_at_call 113;refine(cut_n r _ _ _ _ (by omega) HE.out HA.out HB.out HP.out).mono ?_;rintro e w1 ⟨rfl,hx1⟩)
     | (go_at_call_of 170 (Value.string a);refine(digits_n a _ HDW.out (by omega) _).mono ?_;rintro e w ⟨rfl,rfl⟩)
     | (go_at_call_of 170 (Value.string b);refine(digits_n b _ HDF.out (by omega) _).mono ?_;rintro e w ⟨rfl,rfl⟩)
     | (go_at_call 171;refine(atoi_n _ v HV.out HVD.out (by have:=HVS.out;omega) (by have:=HVS.out;omega) _).mono ?_;rintro e w2 ⟨rfl,hx2⟩))
    go_ret2
    exact⟨ret_pair (by rw[HWY.out];rfl) (by rw[HWY.out]),hx1.trans hx2⟩
  have hq:=HQ.out rfl;have HWY:=hid (way_eq hway);have hall:a.data.toList.all isD=true:=by have:=hway.1;unfold digs at this;simp at this;simpa using this.1
  have hvb:=num_bytes a b hall hb3 hball;obtain⟨v,hv⟩:∃ v,valF 0 (a.data.toList++(b.data.toList++[48,48,48]).take 3)=v:=⟨_,rfl⟩;rw[hv] at HWY hvb;rw[<-sl] at HWY;clear hdW hdF sl sb hall hball hway hv;by_cases h9:9 < a.size
  ·rw[if_pos h9] at HWY;clear hvb;rcases hsz with hsz | ⟨hsz,ht⟩
   ·omega
   all_goals
    go_enter Tryz.func110,Tryz.ntmps110
    go_wp2_with (first
     | (go_at_call 169;refine(cutPrefix_n s r _ _ HR.out HM.out).mono ?_;rintro e w ⟨rfl,rfl⟩)
     | (go_at_call 113;refine(cut_n r _ _ _ _ (by omega) HE.out HA.out HB.out HP.out).mono ?_;rintro e w1 ⟨rfl,hx1⟩)
     | (go_at_call_of 170 (Value.string a);refine(digits_n a _ HDW.out (by omega) _).mono ?_;rintro e w ⟨rfl,rfl⟩)
     | (go_at_call_of 170 (Value.string b);refine(digits_n b _ HDF.out (by omega) _).mono ?_;rintro e w ⟨rfl,rfl⟩))
    go_ret2
    exact⟨ret_pair (by rw[HWY.out]) (by rw[HWY.out]),hx1⟩
  rw[if_neg h9] at HWY;obtain⟨HV,HVD,HVS,hvl⟩:=hvb (by omega);clear hvb;have hv0:(0:Int)<=v:=by omega
  have hv1:(v:Int)<=999999999999:=by omega
  by_cases hbig:268435456 < v
  ·rw[if_pos hbig] at HWY;rcases hsz with hsz | ⟨hsz,ht⟩
   all_goals
    go_enter Tryz.func110,Tryz.ntmps110
    go_wp2_with (first
     | (go_at_call 169;refine(cutPrefix_n s r _ _ HR.out HM.out).mono ?_;rintro e w ⟨rfl,rfl⟩)
     | (go_at_call 113;refine(cut_n r _ _ _ _ (by omega) HE.out HA.out HB.out HP.out).mono ?_;rintro e w1 ⟨rfl,hx1⟩)
     | (go_at_call_of 170 (Value.string a);refine(digits_n a _ HDW.out (by omega) _).mono ?_;rintro e w ⟨rfl,rfl⟩)
     | (go_at_call_of 170 (Value.string b);refine(digits_n b _ HDF.out (by omega) _).mono ?_;rintro e w ⟨rfl,rfl⟩)
     | (go_at_call 171;refine(atoi_n _ v HV.out HVD.out (by have:=HVS.out;omega) (by have:=HVS.out;omega) _).mono ?_;rintro e w2 ⟨rfl,hx2⟩))
    go_ret2
    exact⟨ret_pair (by rw[HWY.out]) (by rw[HWY.out]),hx1.trans hx2⟩
  rw[if_neg hbig] at HWY;rcases hsz with hsz | ⟨hsz,ht⟩
  all_goals
   go_enter Tryz.func110,Tryz.ntmps110
   go_wp2_with (first
    | (go_at_call 169;refine(cutPrefix_n s r _ _ HR.out HM.out).mono ?_;rintro e w ⟨rfl,rfl⟩)
    | (go_at_call 113;refine(cut_n r _ _ _ _ (by omega) HE.out HA.out HB.out HP.out).mono ?_;rintro e w1 ⟨rfl,hx1⟩)
    | (go_at_call_of 170 (Value.string a);refine(digits_n a _ HDW.out (by omega) _).mono ?_;rintro e w ⟨rfl,rfl⟩)
    | (go_at_call_of 170 (Value.string b);refine(digits_n b _ HDF.out (by omega) _).mono ?_;rintro e w ⟨rfl,rfl⟩)
    | (go_at_call 171;refine(atoi_n _ v HV.out HVD.out (by have:=HVS.out;omega) (by have:=HVS.out;omega) _).mono ?_;rintro e w2 ⟨rfl,hx2⟩))
   go_ret2
   exact⟨ret_pair (by rw[HWY.out];rfl) (by rw[HWY.out]),hx1.trans hx2⟩
 cases dF
 ·skip
  have HF:=hid (leaf_frac (m:=m) (A:=a.data.toList) (Or.inl hdF));clear hdW hdF sl sb;rcases hsz with hsz | ⟨hsz,ht⟩
  all_goals
   go_enter Tryz.func110,Tryz.ntmps110
   go_wp2_with (first
    | (go_at_call 169;refine(cutPrefix_n s r _ _ HR.out HM.out).mono ?_;rintro e w ⟨rfl,rfl⟩)
    | (go_at_call 113;refine(cut_n r _ _ _ _ (by omega) HE.out HA.out HB.out HP.out).mono ?_;rintro e w1 ⟨rfl,hx1⟩)
    | (go_at_call_of 170 (Value.string a);refine(digits_n a _ HDW.out (by omega) _).mono ?_;rintro e w ⟨rfl,rfl⟩)
    | (go_at_call_of 170 (Value.string b);refine(digits_n b _ HDF.out (by omega) _).mono ?_;rintro e w ⟨rfl,rfl⟩))
   go_ret2
   exact⟨ret_pair (by rw[HF.out]) (by rw[HF.out]),hx1⟩
 have hbne:1<=b.size:=by
  rcases Nat.eq_zero_or_pos b.size with h | h
  ·have e:b.data.toList=[]:=List.eq_nil_of_length_eq_zero (by rw[<-sb];exact h);rw[e] at hdF;simp[digs] at hdF
  exact h
 have hball:b.data.toList.all isD=true:=by have:=hdF;unfold digs at this;simp at this;simpa using this.1
 by_cases h3:3 < b.size
 ·skip
  have HF:=hid (leaf_frac (m:=m) (A:=a.data.toList) (Or.inr (Or.inl (by rw[<-sb];exact h3))));clear hdW hdF sl sb hball;rcases hsz with hsz | ⟨hsz,ht⟩
  all_goals
   go_enter Tryz.func110,Tryz.ntmps110
   go_wp2_with (first
    | (go_at_call 169;refine(cutPrefix_n s r _ _ HR.out HM.out).mono ?_;rintro e w ⟨rfl,rfl⟩)
    | (go_at_call 113;refine(cut_n r _ _ _ _ (by omega) HE.out HA.out HB.out HP.out).mono ?_;rintro e w1 ⟨rfl,hx1⟩)
    | (go_at_call_of 170 (Value.string a);refine(digits_n a _ HDW.out (by omega) _).mono ?_;rintro e w ⟨rfl,rfl⟩)
    | (go_at_call_of 170 (Value.string b);refine(digits_n b _ HDF.out (by omega) _).mono ?_;rintro e w ⟨rfl,rfl⟩))
   go_ret2
   exact⟨ret_pair (by rw[HF.out]) (by rw[HF.out]),hx1⟩
 obtain⟨k,hk⟩:∃ k,b.size=k+1:=⟨b.size - 1,by omega⟩;have hkl:k < b.size:=Nat.lt_of_lt_of_eq (Nat.lt_succ_self k) hk.symm;have hl:=atLast b k hk;have HK:=hid hk;by_cases h48:b[k]'hkl=48
 ·have hbt:(((b[k]'hkl).toNat:Int) == 48)=true:=by rw[h48];rfl
  have HF:=hid (leaf_frac (m:=m) (A:=a.data.toList) (Or.inr (Or.inr (by rw[hl];exact h48))));clear hdW hdF sl sb hball hl h48;rcases hsz with hsz | ⟨hsz,ht⟩
  all_goals
   go_enter Tryz.func110,Tryz.ntmps110
   go_wp2_with (first
    | (go_at_call 169;refine(cutPrefix_n s r _ _ HR.out HM.out).mono ?_;rintro e w ⟨rfl,rfl⟩)
    | (go_at_call 113;refine(cut_n r _ _ _ _ (by omega) HE.out HA.out HB.out HP.out).mono ?_;rintro e w1 ⟨rfl,hx1⟩)
    | (go_at_call_of 170 (Value.string a);refine(digits_n a _ HDW.out (by omega) _).mono ?_;rintro e w ⟨rfl,rfl⟩)
    | (go_at_call_of 170 (Value.string b);refine(digits_n b _ HDF.out (by omega) _).mono ?_;rintro e w ⟨rfl,rfl⟩))
   go_ret2
   exact⟨ret_pair (by rw[HF.out]) (by rw[HF.out]),hx1⟩
 have hbt:(((b[k]'hkl).toNat:Int) == 48)=false:=by
  rw[beq_eq_false_iff_ne];intro e;exact h48 (UInt8.toNat_inj.1 (by have e48:(48:UInt8).toNat=48:=rfl;omega))
 have hway:NumWay m true a.data.toList b.data.toList:=⟨hdW,HN1.out,fun _=>⟨hdF,by rw[<-sb];omega,by rw[hl];exact h48⟩,(fun h=>by cases h)⟩;have hb3:b.size<=3:=by omega
 clear hl h48;cases m
 all_goals
  have HWY:=hid (way_eq hway);have hall:a.data.toList.all isD=true:=by have:=hway.1;unfold digs at this;simp at this;simpa using this.1
  have hvb:=num_bytes a b hall hb3 hball;obtain⟨v,hv⟩:∃ v,valF 0 (a.data.toList++(b.data.toList++[48,48,48]).take 3)=v:=⟨_,rfl⟩;rw[hv] at HWY hvb;rw[<-sl] at HWY;clear hdW hdF sl sb hall hball hway hv;by_cases h9:9 < a.size
  ·rw[if_pos h9] at HWY;clear hvb;rcases hsz with hsz | ⟨hsz,ht⟩
   ·omega
   all_goals
    go_enter Tryz.func110,Tryz.ntmps110
    go_wp2_with (first
     | (go_at_call 169;refine(cutPrefix_n s r _ _ HR.out HM.out).mono ?_;rintro e w ⟨rfl,rfl⟩)
     | (go_at_call 113;refine(cut_n r _ _ _ _ (by omega) HE.out HA.out HB.out HP.out).mono ?_;rintro e w1 ⟨rfl,hx1⟩)
     | (go_at_call_of 170 (Value.string a);refine(digits_n a _ HDW.out (by omega) _).mono ?_;rintro e w ⟨rfl,rfl⟩)
     | (go_at_call_of 170 (Value.string b);refine(digits_n b _ HDF.out (by omega) _).mono ?_;rintro e w ⟨rfl,rfl⟩))
    go_ret2
    exact⟨ret_pair (by rw[HWY.out]) (by rw[HWY.out]),hx1⟩
  rw[if_neg h9] at HWY;obtain⟨HV,HVD,HVS,hvl⟩:=hvb (by omega);clear hvb;have hv0:(0:Int)<=v:=by omega
  have hv1:(v:Int)<=999999999999:=by omega
  by_cases hbig:268435456 < v
  ·rw[if_pos hbig] at HWY;rcases hsz with hsz | ⟨hsz,ht⟩
   all_goals
    go_enter Tryz.func110,Tryz.ntmps110
    go_wp2_with (first
     | (go_at_call 169;refine(cutPrefix_n s r _ _ HR.out HM.out).mono ?_;rintro e w ⟨rfl,rfl⟩)
     | (go_at_call 113;refine(cut_n r _ _ _ _ (by omega) HE.out HA.out HB.out HP.out).mono ?_;rintro e w1 ⟨rfl,hx1⟩)
     | (go_at_call_of 170 (Value.string a);refine(digits_n a _ HDW.out (by omega) _).mono ?_;rintro e w ⟨rfl,rfl⟩)
     | (go_at_call_of 170 (Value.string b);refine(digits_n b _ HDF.out (by omega) _).mono ?_;rintro e w ⟨rfl,rfl⟩)
     | (go_at_call 171;refine(atoi_n _ v HV.out HVD.out (by have:=HVS.out;omega) (by have:=HVS.out;omega) _).mono ?_;rintro e w2 ⟨rfl,hx2⟩))
    go_ret2
    exact⟨ret_pair (by rw[HWY.out]) (by rw[HWY.out]),hx1.trans hx2⟩
  rw[if_neg hbig] at HWY;rcases hsz with hsz | ⟨hsz,ht⟩
  all_goals
   go_enter Tryz.func110,Tryz.ntmps110
   go_wp2_with (first
    | (go_at_call 169;refine(cutPrefix_n s r _ _ HR.out HM.out).mono ?_;rintro e w ⟨rfl,rfl⟩)
    | (go_at_call 113;refine(cut_n r _ _ _ _ (by omega) HE.out HA.out HB.out HP.out).mono ?_;rintro e w1 ⟨rfl,hx1⟩)
    | (go_at_call_of 170 (Value.string a);refine(digits_n a _ HDW.out (by omega) _).mono ?_;rintro e w ⟨rfl,rfl⟩)
    | (go_at_call_of 170 (Value.string b);refine(digits_n b _ HDF.out (by omega) _).mono ?_;rintro e w ⟨rfl,rfl⟩)
    | (go_at_call 171;refine(atoi_n _ v HV.out HVD.out (by have:=HVS.out;omega) (by have:=HVS.out;omega) _).mono ?_;rintro e w2 ⟨rfl,hx2⟩))
   go_ret2
   exact⟨ret_pair (by rw[HWY.out];rfl) (by rw[HWY.out]),hx1.trans hx2⟩
end Go.Proofs.YtjaeedbjknejdaaGreatDoor.Fx

namespace Go.Proofs.YtjaeedbjknejdaaGreatDoor.Fx
open Go.RowKit Go.Sort Go.Lib Go.Shelf
theorem isD_dot : isD 46=false:=by decide
theorem splitDot_all : ∀ l:List UInt8,l.all isD=true->splitDot l=(l,[],false)
 | [],_=>rfl
 | b::r,h=>by
  simp only[List.all_cons,Bool.and_eq_true] at h
  have hb:(b == 46)=false:=by
   rw[beq_eq_false_iff_ne];intro e;subst e;rw[isD_dot] at h;exact absurd h.1 (by decide)
  unfold splitDot;rw[hb,splitDot_all r h.2];rfl
theorem splitDot_at : ∀ (l:List UInt8) (d:Nat),(l.take d).all isD=true->l[d]? = some 46->splitDot l=(l.take d,l.drop (d+1),true)
 | [],d,_,h=>by simp at h
 | b::r,0,_,h=>by
  simp at h;subst h;unfold splitDot;simp
 | b::r,d+1,h,hd=>by
  simp only[List.take_succ_cons,List.all_cons,Bool.and_eq_true] at h
  have hb:(b == 46)=false:=by
   rw[beq_eq_false_iff_ne];intro e;subst e;rw[isD_dot] at h;exact absurd h.1 (by decide)
  unfold splitDot;rw[hb,splitDot_at r d h.2 (by simpa using hd)];simp
def ScI (l:List UInt8)(i dot:Nat):Prop:=(dot=l.length/\(l.take i).all isD=true)\/(dot < i/\dot < l.length/\(l.take dot).all isD=true/\l[dot]? = some 46/\((l.take i).drop (dot+1)).all isD=true)
theorem ScI.start (l:List UInt8):ScI l 0 l.length:=Or.inl ⟨rfl,by simp⟩
theorem ScI.digit {l:List UInt8}{i dot:Nat}(h:ScI l i dot)(hi:i < l.length)(hd:isD l[i]=true):ScI l (i+1) dot:=by
 have e:=List.take_succ_eq_append_getElem hi;rcases h with⟨h1,h2⟩ | ⟨h1,h2,h3,h4,h5⟩
 ·exact Or.inl ⟨h1,by rw[e,List.all_append,h2];simp[hd]⟩
 refine Or.inr ⟨by omega,h2,h3,h4,?_⟩;rw[e,List.drop_append,List.all_append,h5];have:dot+1 - (l.take i).length=0:=by simp;omega
 rw[this];simp[hd]
theorem ScI.dot {l:List UInt8}{i:Nat}(h:ScI l i l.length)(hi:i < l.length)(hd:l[i]=46):ScI l (i+1) i:=by
 rcases h with⟨h1,h2⟩ | ⟨h1,h2,_⟩
 ·refine Or.inr ⟨by omega,hi,h2,by rw[List.getElem?_eq_getElem hi,hd],?_⟩;rw[List.drop_eq_nil_of_le (by simp;omega)];rfl
 omega
theorem ScI.bad {l:List UInt8}{i dot:Nat}(h:ScI l i dot)(hi:i < l.length)(hd:isD l[i]=false)(hn:¬ (l[i]=46/\dot=l.length)):((splitDot l).1.all isD && (splitDot l).2.1.all isD)=false:=by
 rcases h with⟨h1,h2⟩ | ⟨h1,h2,h3,h4,h5⟩
 ·have h46:l[i] ≠ 46:=fun e=>hn ⟨e,h1⟩
  have key:∀ (l:List UInt8) (i:Nat) (hi:i < l.length),isD l[i]=false->l[i] ≠ 46->(l.take i).all isD=true->(splitDot l).1.all isD=false:=by
   intro l
   induction l with
   | nil=>intro i hi;simp at hi
   | cons b r ih =>
    intro i hi hd h46 ht;cases i with
    | zero =>
     simp at hd h46;have hb:(b == 46)=false:=by simpa using h46
     unfold splitDot;rw[hb];simp[hd]
    | succ i =>
     simp only[List.take_succ_cons,List.all_cons,Bool.and_eq_true] at ht
     have hb:(b == 46)=false:=by
      rw[beq_eq_false_iff_ne];intro e;subst e;rw[isD_dot] at ht;exact absurd ht.1 (by decide)
     unfold splitDot;rw[hb];have:=ih i (by simpa using hi) (by simpa using hd) (by simpa using h46) ht.2;simp[this]
  rw[key l i hi hd h46 h2];rfl
 rw[splitDot_at l dot h3 h4]
 have:(l.drop (dot+1)).all isD=false:=by
  rw[List.all_eq_false];refine⟨l[i],?_,by simp[hd]⟩;rw[List.mem_iff_getElem];exact⟨i - (dot+1),by simp;omega,by simp;congr 1;omega⟩
 simp[this]
theorem ScI.fin {l:List UInt8}{dot:Nat}(h:ScI l l.length dot):(dot=l.length/\splitDot l=(l,[],false)/\l.all isD=true)\/(dot < l.length/\splitDot l=(l.take dot,l.drop (dot+1),true)/\(l.take dot).all isD=true/\(l.drop (dot+1)).all isD=true):=by
 rcases h with⟨h1,h2⟩ | ⟨h1,h2,h3,h4,h5⟩
 ·rw[List.take_length] at h2;exact Or.inl ⟨h1,splitDot_all l h2,h2⟩
 rw[List.take_length] at h5;exact Or.inr ⟨h2,splitDot_at l dot h3 h4,h3,h5⟩
def formV : Option (Bool × List UInt8 × List UInt8)->Value
 | none=>.tuple #[.bool false,.string ⟨#[]⟩,.string ⟨#[]⟩,.bool false]
 | some (m,w,p)=>.tuple #[.bool m,.string ⟨w.toArray⟩,.string ⟨p.toArray⟩,.bool true]
theorem f3_scan {m pt:Bool}{w p:List UInt8}(h:(w.all isD && p.all isD)=false):form3 m pt w p=none:=by unfold form3;simp[h]
theorem f3_part {m:Bool}{w p:List UInt8}(h:p.length < 1\/3 < p.length\/p[p.length - 1]?.getD 0=48):form3 m true w p=none:=by
 unfold form3 partOk;split
 ·rfl
 rw[if_pos];rcases h with h | h | h
 ·have:p=[]:=List.eq_nil_of_length_eq_zero (by omega);simp[this]
 ·simp;omega
 simp[h]
theorem f3_word {m pt:Bool}{w p:List UInt8}(h:w=[]\/(1 < w.length/\w[0]?.getD 0=48)\/(m=true/\w=[48]/\p=[])):form3 m pt w p=none:=by
 unfold form3;split
 ·rfl
 split
 ·rfl
 rw[if_pos];rcases h with h | ⟨h1,h2⟩ | ⟨h1,h2,h3⟩
 ·simp[h]
 ·simp[h1,h2]
 simp[h1,h2,h3]
theorem f3_ok {m pt:Bool}{w p:List UInt8}(h1:w.all isD=true)(h2:p.all isD=true)(h3:pt=true->1<=p.length/\p.length<=3/\p[p.length - 1]?.getD 0 ≠ 48)(h4:w ≠ [])(h5:¬ (1 < w.length/\w[0]?.getD 0=48))(h6:¬ (m=true/\w=[48]/\p=[])):form3 m pt w p=some (m,w,p):=by
 unfold form3 partOk;rw[if_neg (by simp[h1,h2]),if_neg,if_neg]
 ·intro hc;simp at hc;rcases hc with(hc | hc) | hc
  ·exact h4 hc
  ·exact h5 hc
  exact h6 ⟨hc.1.1,hc.1.2,hc.2⟩
 intro hc;cases pt
 ·simp at hc
 obtain⟨a,b,c⟩:=h3 rfl;simp[b,c] at hc;exact absurd a (by rw[hc];decide)
def HeadWay (s t:ByteArray)(m:Bool):Prop:=hasPrefix s.data.toList [45]=m/\t.data.toList=trimPrefix s.data.toList [45]
theorem head_ways (s:ByteArray):(0 < s.size/\(∃ h:0 < s.size,(((s[0]'h).toNat:Int) == 45)=true)/\HeadWay s (s.extract 1 s.size) true)\/(0 < s.size/\(∃ h:0 < s.size,(((s[0]'h).toNat:Int) == 45)=false)/\HeadWay s s false)\/(s.size=0/\HeadWay s s false):=by
 unfold HeadWay trimPrefix hasPrefix;rcases Nat.eq_zero_or_pos s.size with h | h
 ·have e:s.data.toList=[]:=List.eq_nil_of_length_eq_zero (by rw[<-size_len];exact h);rw[e];exact Or.inr (Or.inr ⟨h,rfl,rfl⟩)
 ·have h':0 < s.data.toList.length:=by rw[<-size_len];exact h
  have e0:s.data.toList[0]=s[0]:=rfl;cases hl:s.data.toList with
  | nil=>rw[hl] at h';simp at h'
  | cons b r =>
   have hb:s[0]=b:=by rw[<-e0];simp[hl]
   by_cases hc:b=45
   ·refine Or.inl ⟨h,⟨h,by rw[hb,hc];rfl⟩,by subst hc;simp[List.isPrefixOf],?_⟩;have e1:(s.extract 1 s.size).data.toList=s.data.toList.drop 1:=by rw[extract_from]
    rw[e1,hl,hc];simp[List.isPrefixOf]
   ·have hp:List.isPrefixOf [45] (b::r)=false:=by simp[List.isPrefixOf];exact fun h=>hc h.symm
    refine Or.inr (Or.inl ⟨h,⟨h,?_⟩,hp,by rw[hp];rfl⟩);rw[hb,beq_eq_false_iff_ne];intro e;exact hc (UInt8.toNat_inj.1 (by have e48:(45:UInt8).toNat=45:=rfl;omega))
theorem byte_ways (t:ByteArray)(k d:Nat)(hk:k < t.size)(h:ScI t.data.toList k d):
  ((((t[k].toNat:Int) == 46)=true/\((d:Int) == (t.size:Int))=true)/\ScI t.data.toList (k+1) k) \/
  ((((t[k].toNat:Int) == 46)=false/\(48:Int)<=t[k].toNat/\(t[k].toNat:Int)<=57)/\ScI t.data.toList (k+1) d) \/
  ((((t[k].toNat:Int) == 46)=true/\((d:Int) == (t.size:Int))=false/\(t[k].toNat:Int) < 48)/\((splitDot t.data.toList).1.all isD && (splitDot t.data.toList).2.1.all isD)=false) \/
  ((((t[k].toNat:Int) == 46)=false/\(t[k].toNat:Int) < 48)/\((splitDot t.data.toList).1.all isD && (splitDot t.data.toList).2.1.all isD)=false) \/
  ((((t[k].toNat:Int) == 46)=false/\¬ (t[k].toNat:Int) < 48/\(57:Int) < t[k].toNat)/\((splitDot t.data.toList).1.all isD && (splitDot t.data.toList).2.1.all isD)=false):=by
 have hk':k < t.data.toList.length:=by rw[<-size_len];exact hk
 have e0:t.data.toList[k]=t[k]:=rfl;have hd:isD t[k]=decide (48<=t[k].toNat/\t[k].toNat<=57):=rfl;have e46:(46:UInt8).toNat=46:=rfl;by_cases hc:t[k]=46
 ·have b46:((t[k].toNat:Int) == 46)=true:=by rw[hc];rfl
  have n46:t[k].toNat=46:=by rw[hc];rfl
  by_cases hds:d=t.size
  ·refine Or.inl ⟨⟨b46,by simp[hds]⟩,?_⟩;rw[hds,size_len] at h;exact h.dot hk' (by rw[e0];exact hc)
  refine Or.inr (Or.inr (Or.inl ⟨⟨b46,by rw[beq_eq_false_iff_ne];omega,by omega⟩,?_⟩));exact h.bad hk' (by rw[e0,hd];simp;omega) (fun x=>hds (by rw[x.2,size_len]))
 have b46:((t[k].toNat:Int) == 46)=false:=by rw[beq_eq_false_iff_ne];intro e;exact hc (UInt8.toNat_inj.1 (by omega))
 by_cases h1:t[k].toNat < 48
 ·exact Or.inr (Or.inr (Or.inr (Or.inl ⟨⟨b46,by omega⟩,h.bad hk' (by rw[e0,hd];simp;omega) (fun x=>hc (by rw[<-e0];exact x.1))⟩)))
 by_cases h2:57 < t[k].toNat
 ·exact Or.inr (Or.inr (Or.inr (Or.inr ⟨⟨b46,by omega,by omega⟩,h.bad hk' (by rw[e0,hd];simp;omega) (fun x=>hc (by rw[<-e0];exact x.1))⟩)))
 exact Or.inr (Or.inl ⟨⟨b46,by omega,by omega⟩,h.digit hk' (by rw[e0,hd];simp;omega)⟩)
theorem tl_nil (a:ByteArray)(h:a.size=0):a.toList=[]/\a.toList.isEmpty=true/\a.data.toList=[]:=by
 have e:a.data.toList=[]:=List.eq_nil_of_length_eq_zero (by rw[<-size_len];exact h);rw[ByteArray.toList_eq,e];exact⟨rfl,rfl,rfl⟩
theorem tl_cons (a:ByteArray)(h:0 < a.size):¬ a.toList=[]/\a.toList.isEmpty=false/\a.data.toList ≠ []:=by
 have e:a.data.toList ≠ []:=fun e=>by have:=size_len a;rw[e] at this;simp only[List.length_nil] at this;omega
 rw[ByteArray.toList_eq];exact⟨e,by simpa using e,e⟩
theorem b0_ways (a:ByteArray)(h:0 < a.size):(a[0]=48/\((a[0].toNat:Int) == 48)=true)\/(a[0] ≠ 48/\((a[0].toNat:Int) == 48)=false):=by
 have e48:(48:UInt8).toNat=48:=rfl;by_cases hc:a[0]=48
 ·exact Or.inl ⟨hc,by rw[hc];rfl⟩
 exact Or.inr ⟨hc,by rw[beq_eq_false_iff_ne];intro e;exact hc (UInt8.toNat_inj.1 (by omega))⟩
theorem bl_ways (a:ByteArray)(k:Nat)(h:k < a.size):(a[k]=48/\((a[k].toNat:Int) == 48)=true)\/(a[k] ≠ 48/\((a[k].toNat:Int) == 48)=false):=by
 have e48:(48:UInt8).toNat=48:=rfl;by_cases hc:a[k]=48
 ·exact Or.inl ⟨hc,by rw[hc];rfl⟩
 exact Or.inr ⟨hc,by rw[beq_eq_false_iff_ne];intro e;exact hc (UInt8.toNat_inj.1 (by omega))⟩
theorem ret_val {a b:Value}(h:a=b):Ending.returned a=.returned b:=by rw[h]
end Go.Proofs.YtjaeedbjknejdaaGreatDoor.Fx
