/- Packed texts: FixParse -/
import Derived.Test.YtjaeedbjknejdaaGreatDoorPu03
import Derived.Lib.Atoi
import Derived.Lib.UnsafeStr
set_option linter.unusedVariables false
set_option linter.unusedSimpArgs false
set_option maxHeartbeats 16000000
set_option maxRecDepth 100000
namespace Go.Proofs.YtjaeedbjknejdaaGreatDoor.Fx
open Go.RowKit Go.Sort Go.Lib Go.Shelf
def Env (w:World):Prop:=Pows w/\∃ m,w.cell? ⟨0,0,none⟩=some (.int .i64 m)
theorem Env.ext {w w':World}(h:Env w)(k:Ext w w'):Env w':=⟨h.1.ext k,h.2.elim fun m hm=>⟨m,k.cell hm⟩⟩
theorem digitVal_isD {b:UInt8}(h:isD b=true):digitVal b=some (b.toNat - 48):=by
  unfold isD at h;unfold digitVal;rw[if_pos (by simpa using h)]
theorem decFrom_val : ∀ (l:List UInt8) (a:Nat),l.all isD=true->decFrom a l=some (valF a l)
  | [],a,_=>rfl
  | b::r,a,h=>by
    simp only[List.all_cons,Bool.and_eq_true] at h;have ih:=decFrom_val r (10 * a+(b.toNat - 48)) h.2;show(match digitVal b with | some d=>decFrom (a * 10+d) r | none=>none)=some (valF (10 * a+(b.toNat - 48)) r);rw[digitVal_isD h.1,Nat.mul_comm a 10];exact ih
theorem atoi_val (l:List UInt8)(h:l.all isD=true)(hne:l ≠ []):atoi l=some (valF 0 l:Int):=by
  cases l with
  | nil=>exact absurd rfl hne
  | cons b r =>
    have hb:isD b=true:=by simp at h;exact h.1
    have h48:48<=b.toNat/\b.toNat<=57:=by unfold isD at hb;simpa using hb
    have n1:(b == 45)=false:=by rw[beq_eq_false_iff_ne];intro e;subst e;exact absurd h48.1 (by decide)
    have n2:(b == 43)=false:=by rw[beq_eq_false_iff_ne];intro e;subst e;exact absurd h48.1 (by decide)
    show(if b == 45 then _ else if b == 43 then _ else (decNat (b::r)).map fun(m:Nat)=>(m:Int))=_;rw[n1,n2];simp only[Bool.false_eq_true,if_false];unfold decNat;rw[if_neg (by simp),decFrom_val _ _ h]
    rfl
theorem valF_lt : ∀ (l:List UInt8) (a:Nat),l.all isD=true->valF a l < (a+1) * 10 ^ l.length
  | [],a,_=>by simp[valF]
  | b::r,a,h=>by
    simp only[List.all_cons,Bool.and_eq_true] at h;have h48:48<=b.toNat/\b.toNat<=57:=by have:=h.1;unfold isD at this;simpa using this
    have ih:=valF_lt r (10 * a+(b.toNat - 48)) h.2;show valF (10 * a+(b.toNat - 48)) r < (a+1) * 10 ^ (r.length+1);refine Nat.lt_of_lt_of_le ih ?_;rw[Nat.pow_succ,<- Nat.mul_assoc,Nat.mul_right_comm];exact Nat.mul_le_mul_right _ (by omega)
theorem size_len (s:ByteArray):s.size=s.data.toList.length:=by simp
theorem cutPrefix_n (s r:ByteArray)(m:Bool)(w:World)(hr:(⟨(trimPrefix s.data.toList [45]).toArray⟩:ByteArray)=r)(hm:hasPrefix s.data.toList [45]=m):
    Calls Tryz.prog 169 #[.string s,.string ⟨#[45]⟩] w fun e w'=>e=.returned (.tuple #[.string r,.bool m])/\w=w':=by
  subst hr;subst hm;refine(Tryz.strings_CutPrefix s ⟨#[45]⟩ w).mono ?_;rintro e w' ⟨rfl,rfl⟩;exact⟨rfl,rfl⟩
theorem cut_n (s a b:ByteArray)(p:Bool)(w:World)(hs:s.size < 4294967281)(he:Env w)(ha:(⟨(splitDot s.data.toList).1.toArray⟩:ByteArray)=a)(hb:(⟨(splitDot s.data.toList).2.1.toArray⟩:ByteArray)=b)(hp:(splitDot s.data.toList).2.2=p):
    Calls Tryz.prog 113 #[.string s,.string ⟨#[46]⟩] w fun e w'=>e=.returned (.tuple #[.string a,.string b,.bool p])/\Ext w w':=by
  subst ha;subst hb;subst hp;obtain⟨m,hm⟩:=he.2;have h:=Tryz.strings_Cut s ⟨#[46]⟩ m w hs hm;rw[show(⟨#[46]⟩:ByteArray).data.toList=[46] from rfl,cut_dot] at h;refine h.mono ?_;rintro e w' ⟨rfl,n,rfl⟩;exact⟨rfl,(Ext.refl _).drewN n⟩
theorem digits_n (s:ByteArray)(d:Bool)(hd:digs s.data.toList=d)(hs:s.size<=9223372036854775807)(w:World):
    Calls Tryz.prog 170 #[.string s] w fun e w'=>e=.returned (.bool d)/\w=w':=by
  subst hd;exact digits_any s hs w
theorem atoi_n (s:ByteArray)(v:Nat)(hv:valF 0 s.data.toList=v)(hd:s.data.toList.all isD=true)(h1:1<=s.size)(hl:s.size<=18)(w:World):
    Calls Tryz.prog 171 #[.string s] w fun e w'=>e=.returned (.tuple #[.int .i64 v,.nilIface])/\Ext w w':=by
  subst hv;refine(Tryz.strconv_Atoi s _ hl (atoi_val _ hd (fun e=>by have h:=size_len s;rw[e] at h;simp only[List.length_nil] at h;omega)) w).mono ?_;rintro e w' ⟨rfl,t,rfl⟩;exact⟨rfl,below_freeze ((Ext.refl w).drew.alloc _) (Nat.le_refl _) _⟩
theorem splitDot_le : ∀ l:List UInt8,(splitDot l).1.length<=l.length/\(splitDot l).2.1.length<=l.length
  | []=>⟨Nat.le_refl _,Nat.le_refl _⟩
  | b::r=>by
    have ih:=splitDot_le r;unfold splitDot;split
    · exact⟨by simp,by simp⟩
    · exact⟨by simp;exact ih.1,by simp;omega⟩
theorem parse_parts (s:ByteArray):∃ (r a b:ByteArray) (m p:Bool),(⟨(trimPrefix s.data.toList [45]).toArray⟩:ByteArray)=r/\hasPrefix s.data.toList [45]=m /\
    (⟨(splitDot r.data.toList).1.toArray⟩:ByteArray)=a/\(⟨(splitDot r.data.toList).2.1.toArray⟩:ByteArray)=b/\(splitDot r.data.toList).2.2=p/\r.size<=s.size/\a.size<=s.size/\b.size<=s.size /\
    parse s.data.toList=parse3 m p a.data.toList b.data.toList:=by
  refine⟨_,_,_,_,_,rfl,rfl,rfl,rfl,rfl,?_,?_,?_,rfl⟩
  · rw[size_mk,size_len s];unfold trimPrefix;split <;> simp
  · rw[size_mk,size_len s];have h1:=(splitDot_le (trimPrefix s.data.toList [45])).1;have h2:(trimPrefix s.data.toList [45]).length<=s.data.toList.length:=by unfold trimPrefix;split <;> simp
    exact Nat.le_trans h1 h2
  rw[size_mk,size_len s];have h1:=(splitDot_le (trimPrefix s.data.toList [45])).2;have h2:(trimPrefix s.data.toList [45]).length<=s.data.toList.length:=by unfold trimPrefix;split <;> simp
  exact Nat.le_trans h1 h2
theorem at0 (a:ByteArray)(h:0 < a.size):a.data.toList[0]?.getD 0=a[0]:=by
  have h':0 < a.data.toList.length:=by rw[<-size_len];exact h
  rw[List.getElem?_eq_getElem h'];rfl
theorem atLast (a:ByteArray)(k:Nat)(h:a.size=k+1):a.data.toList[a.data.toList.length - 1]?.getD 0=a[k]:=by
  have e:a.data.toList.length - 1=k:=by rw[<-size_len];omega
  have h':k < a.data.toList.length:=by rw[<-size_len];omega
  rw[e,List.getElem?_eq_getElem h'];rfl
theorem leaf_word {m p:Bool}{A B:List UInt8}(h:digs A=false):parse3 m p A B=(0,4):=by unfold parse3;simp[h]
theorem leaf_zero {m p:Bool}{A B:List UInt8}(h1:1 < A.length)(h2:A[0]?.getD 0=48):parse3 m p A B=(0,4):=by unfold parse3;simp[h1,h2]
theorem leaf_frac {m:Bool}{A B:List UInt8}(h:digs B=false\/3 < B.length\/B[B.length - 1]?.getD 0=48):parse3 m true A B=(0,4):=by
  unfold parse3;split
  · rfl
  rw[if_pos];rcases h with h | h | h <;> simp[h]
theorem leaf_minus {B:List UInt8}:parse3 true false [48] B=(0,4):=by
  unfold parse3;split
  · rfl
  simp
def NumWay (m p:Bool)(A B:List UInt8):Prop:=digs A=true/\¬ (1 < A.length/\A[0]?.getD 0=48)/\(p=true->digs B=true/\B.length<=3/\B[B.length - 1]?.getD 0 ≠ 48)/\(p=false->¬ (m=true/\A=[48]))
theorem way_eq {m p:Bool}{A B:List UInt8}(h:NumWay m p A B):parse3 m p A B=if 9 < A.length then (0,16) else if 268435456 < valF 0 (A++(B++[48,48,48]).take 3) then (0,16) else (if m then -(valF 0 (A++(B++[48,48,48]).take 3):Int) else valF 0 (A++(B++[48,48,48]).take 3),0):=by
  obtain⟨h1,h2,h3,h4⟩:=h;unfold parse3;rw[if_neg,if_neg,if_neg]
  · intro hc;cases p
    · exact h4 rfl (by simpa using hc)
    simp at hc
  · intro hc;cases p
    · simp at hc
    obtain⟨k1,k2,k3⟩:=h3 rfl;simp[k1,k3] at hc;omega
  intro hc;simp[h1] at hc;exact h2 hc
theorem num_bytes (a b:ByteArray)(ha:a.data.toList.all isD=true)(_:b.size<=3)(hb:b.data.toList.all isD=true)(h9:a.size<=9):
    Hid (valF 0 (a++(b++⟨#[48,48,48]⟩).extract 0 3).data.toList=valF 0 (a.data.toList++(b.data.toList++[48,48,48]).take 3))/\Hid ((a++(b++⟨#[48,48,48]⟩).extract 0 3).data.toList.all isD=true) /\
      Hid (a.size<=(a++(b++⟨#[48,48,48]⟩).extract 0 3).size/\(a++(b++⟨#[48,48,48]⟩).extract 0 3).size<=12)/\valF 0 (a.data.toList++(b.data.toList++[48,48,48]).take 3) < 1000000000000:=by
  have e:(a++(b++⟨#[48,48,48]⟩).extract 0 3).data.toList=a.data.toList++(b.data.toList++[48,48,48]).take 3:=by
    rw[data_app,extract_upto,data_app]
  have hl:((b.data.toList++[48,48,48]).take 3).length=3:=by simp
  have hd:(a.data.toList++(b.data.toList++[48,48,48]).take 3).all isD=true:=by
    rw[List.all_append,ha,Bool.true_and];rw[List.all_eq_true];intro x hx;have hx:=List.mem_of_mem_take hx;rw[List.mem_append] at hx;rcases hx with hx | hx
    · exact(List.all_eq_true.1 hb) x hx
    simp at hx;subst hx;decide
  have hlen:(a.data.toList++(b.data.toList++[48,48,48]).take 3).length=a.size+3:=by rw[List.length_append,hl,<- size_len]
  have hsz:(a++(b++⟨#[48,48,48]⟩).extract 0 3).size=a.size+3:=by rw[size_len,e,hlen]
  refine⟨?_,?_,?_,?_⟩
  · exact Lib.hid (by rw[e])
  · exact Lib.hid (by rw[e];exact hd)
  · exact Lib.hid (by rw[hsz];omega)
  have h1:=valF_lt _ 0 hd;rw[hlen] at h1;have h2:10 ^ (a.size+3)<=10 ^ 12:=Nat.pow_le_pow_right (by omega) (by omega);omega
theorem parse_any (s:ByteArray)(w:World)(hs:s.size < 4294967281)(he:Env w):
    Calls Tryz.prog 110 #[.string s] w fun e w'=>e=.returned (.tuple #[.int .i64 (parse s.data.toList).1,.int .i64 (parse s.data.toList).2])/\Ext w w':=by
  obtain⟨r,a,b,m,p,hr,hm,ha,hb,hp,rl,al,bl,hpar⟩:=parse_parts s;rw[hpar];have hBn:p=false->b.data.toList=[]:=fun h=>by rw[<-hb];exact splitDot_none _ (by rw[hp];exact h)
  have HBN:=Lib.hid hBn;have HR:=Lib.hid hr;have HM:=Lib.hid hm;have HA:=Lib.hid ha;have HB:=Lib.hid hb;have HP:=Lib.hid hp;clear hr hm ha hb hp hpar hBn;have HE:=Lib.hid he;clear he;have sl:=size_len a;have sb:=size_len b;have HSL:=Lib.hid sl;have HSB:=Lib.hid sb;obtain⟨dW,hdW⟩:∃ dW,digs a.data.toList=dW:=⟨_,rfl⟩;obtain⟨dF,hdF⟩:∃ dF,digs b.data.toList=dF:=⟨_,rfl⟩;have HDW:=Lib.hid hdW;have HDF:=Lib.hid hdF;cases dW
  · have HF:=Lib.hid (leaf_word (m:=m) (p:=p) (B:=b.data.toList) hdW);clear hdW hdF sl sb;go_enter Tryz.func110,Tryz.ntmps110
    go_wp2_with (first
      | (go_at_call 169;refine(cutPrefix_n s r m _ HR.out HM.out).mono ?_;rintro e w ⟨rfl,rfl⟩)
      | (go_at_call 113;refine(cut_n r a b p _ (by omega) HE.out HA.out HB.out HP.out).mono ?_;rintro e w1 ⟨rfl,hx1⟩)
      | (go_at_call_of 170 (Value.string a);refine(digits_n a _ HDW.out (by omega) _).mono ?_;rintro e w ⟨rfl,rfl⟩))
    go_ret2
    exact⟨ret_pair (by rw[HF.out]) (by rw[HF.out]),hx1⟩
  have hne:1<=a.size:=by
    rcases Nat.eq_zero_or_pos a.size with h | h
    · have e:a.data.toList=[]:=List.eq_nil_of_length_eq_zero (by rw[<-sl];exact h);rw[e] at hdW;simp[digs] at hdW
    exact h
  have h0:=at0 a hne;by_cases h1:1 < a.size/\a[0]=48
  · obtain⟨h1,hz⟩:=h1;have ht:((a[0].toNat:Int) == 48)=true:=by rw[hz];rfl
    have HF:=Lib.hid (leaf_zero (m:=m) (p:=p) (B:=b.data.toList) (by rw[<-sl];exact h1) (by rw[h0];exact hz));clear hdW hdF sl sb hz h0;go_enter Tryz.func110,Tryz.ntmps110
    go_wp2_with (first
      | (go_at_call 169;refine(cutPrefix_n s r m _ HR.out HM.out).mono ?_;rintro e w ⟨rfl,rfl⟩)
      | (go_at_call 113;refine(cut_n r a b p _ (by omega) HE.out HA.out HB.out HP.out).mono ?_;rintro e w1 ⟨rfl,hx1⟩)
      | (go_at_call_of 170 (Value.string a);refine(digits_n a _ HDW.out (by omega) _).mono ?_;rintro e w ⟨rfl,rfl⟩))
    go_ret2
    exact⟨ret_pair (by rw[HF.out]) (by rw[HF.out]),hx1⟩
  have hn1:¬ (1 < a.data.toList.length/\a.data.toList[0]?.getD 0=48):=by rw[<-sl,h0];exact h1
  have hsz:¬ 1 < a.size\/(1 < a.size/\((a[0].toNat:Int) == 48)=false):=by
    by_cases h:1 < a.size
    · refine Or.inr ⟨h,?_⟩;rw[beq_eq_false_iff_ne];intro e;exact h1 ⟨h,UInt8.toNat_inj.1 (by have e48:(48:UInt8).toNat=48:=rfl;omega)⟩
    exact Or.inl h
  clear h1 h0;have HN1:=Lib.hid hn1;clear hn1;cases p
  · have hbe:=HBN.out rfl;have hb0:b.size=0:=by rw[sb,hbe];rfl
    by_cases hmz:m=true/\a.data.toList=[48]
    · obtain⟨rfl,hq⟩:=hmz;obtain rfl:a=⟨#[48]⟩:=by cases a;rename_i d;cases d;simp at hq;subst hq;rfl
      have HF:=Lib.hid (leaf_minus (B:=b.data.toList));clear hdW hdF sl sb hbe hb0 hq;rcases hsz with hsz | ⟨hsz,ht⟩
      all_goals
        go_enter Tryz.func110,Tryz.ntmps110
        go_wp2_with (first
          | (go_at_call 169;refine(cutPrefix_n s r _ _ HR.out HM.out).mono ?_;rintro e w ⟨rfl,rfl⟩)
          | (go_at_call 113;refine(cut_n r _ b _ _ (by omega) HE.out HA.out HB.out HP.out).mono ?_;rintro e w1 ⟨rfl,hx1⟩)
          | (go_at_call 170;refine(digits_n _ _ HDW.out (by decide) _).mono ?_;rintro e w ⟨rfl,rfl⟩))
        go_ret2
        exact⟨ret_pair (by first | rw[HF.out] | rfl) (by first | rw[HF.out] | rfl),hx1⟩
    have hway:NumWay m false a.data.toList b.data.toList:=⟨hdW,HN1.out,(fun h=>by cases h),fun _=>hmz⟩;have hb3:b.size<=3:=by omega
    have hball:b.data.toList.all isD=true:=by rw[hbe];rfl
    have hq:m=true->(a.toList == [48])=false:=fun h=>by
      rw[beq_eq_false_iff_ne];intro e;exact hmz ⟨h,by rw[<-e,ByteArray.toList_eq]⟩
    clear hbe hb0 hmz;have HQ:=Lib.hid hq;clear hq;cases m
    · skip
      have HWY:=Lib.hid (way_eq hway);have hall:a.data.toList.all isD=true:=by have:=hway.1;unfold digs at this;simp at this;simpa using this.1
      have hvb:=num_bytes a b hall hb3 hball;obtain⟨v,hv⟩:∃ v,valF 0 (a.data.toList++(b.data.toList++[48,48,48]).take 3)=v:=⟨_,rfl⟩;rw[hv] at HWY hvb;rw[<-sl] at HWY;clear hdW hdF sl sb hall hball hway hv;by_cases h9:9 < a.size
      · rw[if_pos h9] at HWY;clear hvb;rcases hsz with hsz | ⟨hsz,ht⟩
        · omega
        all_goals
          go_enter Tryz.func110,Tryz.ntmps110
          go_wp2_with (first
            | (go_at_call 169;refine(cutPrefix_n s r _ _ HR.out HM.out).mono ?_;rintro e w ⟨rfl,rfl⟩)
            | (go_at_call 113;refine(cut_n r _ _ _ _ (by omega) HE.out HA.out HB.out HP.out).mono ?_;rintro e w1 ⟨rfl,hx1⟩)
            | (go_at_call_of 170 (Value.string a);refine(digits_n a _ HDW.out (by omega) _).mono ?_;rintro e w ⟨rfl,rfl⟩)
            | (go_at_call_of 170 (Value.string b);refine(digits_n b _ HDF.out (by omega) _).mono ?_;rintro e w ⟨rfl,rfl⟩))
          go_ret2
          exact⟨ret_pair (by rw[HWY.out]) (by rw[HWY.out]),hx1⟩
      rw[if_neg h9] at HWY;obtain⟨HV,HVD,HVS,hvl⟩:=hvb (by omega);clear hvb;have hv0:(0:Int)<=v:=by omega
      have hv1:(v:Int)<=999999999999:=by omega
      by_cases hbig:268435456 < v
      · rw[if_pos hbig] at HWY;rcases hsz with hsz | ⟨hsz,ht⟩
        all_goals
          go_enter Tryz.func110,Tryz.ntmps110
          go_wp2_with (first
            | (go_at_call 169;refine(cutPrefix_n s r _ _ HR.out HM.out).mono ?_;rintro e w ⟨rfl,rfl⟩)
            | (go_at_call 113;refine(cut_n r _ _ _ _ (by omega) HE.out HA.out HB.out HP.out).mono ?_;rintro e w1 ⟨rfl,hx1⟩)
            | (go_at_call_of 170 (Value.string a);refine(digits_n a _ HDW.out (by omega) _).mono ?_;rintro e w ⟨rfl,rfl⟩)
            | (go_at_call_of 170 (Value.string b);refine(digits_n b _ HDF.out (by omega) _).mono ?_;rintro e w ⟨rfl,rfl⟩)
            | (go_at_call 171;refine(atoi_n _ v HV.out HVD.out (by have:=HVS.out;omega) (by have:=HVS.out;omega) _).mono ?_;rintro e w2 ⟨rfl,hx2⟩))
          go_ret2
          exact⟨ret_pair (by rw[HWY.out]) (by rw[HWY.out]),hx1.trans hx2⟩
      rw[if_neg hbig] at HWY;rcases hsz with hsz | ⟨hsz,ht⟩
      all_goals
        go_enter Tryz.func110,Tryz.ntmps110
        go_wp2_with (first
          | (go_at_call 169;refine(cutPrefix_n s r _ _ HR.out HM.out).mono ?_;rintro e w ⟨rfl,rfl⟩)
          | (go_at_call 113;refine(cut_n r _ _ _ _ (by omega) HE.out HA.out HB.out HP.out).mono ?_;rintro e w1 ⟨rfl,hx1⟩)
          | (go_at_call_of 170 (Value.string a);refine(digits_n a _ HDW.out (by omega) _).mono ?_;rintro e w ⟨rfl,rfl⟩)
          | (go_at_call_of 170 (Value.string b);refine(digits_n b _ HDF.out (by omega) _).mono ?_;rintro e w ⟨rfl,rfl⟩)
          | (go_at_call 171;refine(atoi_n _ v HV.out HVD.out (by have:=HVS.out;omega) (by have:=HVS.out;omega) _).mono ?_;rintro e w2 ⟨rfl,hx2⟩))
        go_ret2
        exact⟨ret_pair (by rw[HWY.out];rfl) (by rw[HWY.out]),hx1.trans hx2⟩
    have hq:=HQ.out rfl;have HWY:=Lib.hid (way_eq hway);have hall:a.data.toList.all isD=true:=by have:=hway.1;unfold digs at this;simp at this;simpa using this.1
    have hvb:=num_bytes a b hall hb3 hball;obtain⟨v,hv⟩:∃ v,valF 0 (a.data.toList++(b.data.toList++[48,48,48]).take 3)=v:=⟨_,rfl⟩;rw[hv] at HWY hvb;rw[<-sl] at HWY;clear hdW hdF sl sb hall hball hway hv;by_cases h9:9 < a.size
    · rw[if_pos h9] at HWY;clear hvb;rcases hsz with hsz | ⟨hsz,ht⟩
      · omega
      all_goals
        go_enter Tryz.func110,Tryz.ntmps110
        go_wp2_with (first
          | (go_at_call 169;refine(cutPrefix_n s r _ _ HR.out HM.out).mono ?_;rintro e w ⟨rfl,rfl⟩)
          | (go_at_call 113;refine(cut_n r _ _ _ _ (by omega) HE.out HA.out HB.out HP.out).mono ?_;rintro e w1 ⟨rfl,hx1⟩)
          | (go_at_call_of 170 (Value.string a);refine(digits_n a _ HDW.out (by omega) _).mono ?_;rintro e w ⟨rfl,rfl⟩)
          | (go_at_call_of 170 (Value.string b);refine(digits_n b _ HDF.out (by omega) _).mono ?_;rintro e w ⟨rfl,rfl⟩))
        go_ret2
        exact⟨ret_pair (by rw[HWY.out]) (by rw[HWY.out]),hx1⟩
    rw[if_neg h9] at HWY;obtain⟨HV,HVD,HVS,hvl⟩:=hvb (by omega);clear hvb;have hv0:(0:Int)<=v:=by omega
    have hv1:(v:Int)<=999999999999:=by omega
    by_cases hbig:268435456 < v
    · rw[if_pos hbig] at HWY;rcases hsz with hsz | ⟨hsz,ht⟩
      all_goals
        go_enter Tryz.func110,Tryz.ntmps110
        go_wp2_with (first
          | (go_at_call 169;refine(cutPrefix_n s r _ _ HR.out HM.out).mono ?_;rintro e w ⟨rfl,rfl⟩)
          | (go_at_call 113;refine(cut_n r _ _ _ _ (by omega) HE.out HA.out HB.out HP.out).mono ?_;rintro e w1 ⟨rfl,hx1⟩)
          | (go_at_call_of 170 (Value.string a);refine(digits_n a _ HDW.out (by omega) _).mono ?_;rintro e w ⟨rfl,rfl⟩)
          | (go_at_call_of 170 (Value.string b);refine(digits_n b _ HDF.out (by omega) _).mono ?_;rintro e w ⟨rfl,rfl⟩)
          | (go_at_call 171;refine(atoi_n _ v HV.out HVD.out (by have:=HVS.out;omega) (by have:=HVS.out;omega) _).mono ?_;rintro e w2 ⟨rfl,hx2⟩))
        go_ret2
        exact⟨ret_pair (by rw[HWY.out]) (by rw[HWY.out]),hx1.trans hx2⟩
    rw[if_neg hbig] at HWY;rcases hsz with hsz | ⟨hsz,ht⟩
    all_goals
      go_enter Tryz.func110,Tryz.ntmps110
      go_wp2_with (first
        | (go_at_call 169;refine(cutPrefix_n s r _ _ HR.out HM.out).mono ?_;rintro e w ⟨rfl,rfl⟩)
        | (go_at_call 113;refine(cut_n r _ _ _ _ (by omega) HE.out HA.out HB.out HP.out).mono ?_;rintro e w1 ⟨rfl,hx1⟩)
        | (go_at_call_of 170 (Value.string a);refine(digits_n a _ HDW.out (by omega) _).mono ?_;rintro e w ⟨rfl,rfl⟩)
        | (go_at_call_of 170 (Value.string b);refine(digits_n b _ HDF.out (by omega) _).mono ?_;rintro e w ⟨rfl,rfl⟩)
        | (go_at_call 171;refine(atoi_n _ v HV.out HVD.out (by have:=HVS.out;omega) (by have:=HVS.out;omega) _).mono ?_;rintro e w2 ⟨rfl,hx2⟩))
      go_ret2
      exact⟨ret_pair (by rw[HWY.out];rfl) (by rw[HWY.out]),hx1.trans hx2⟩
  cases dF
  · skip
    have HF:=Lib.hid (leaf_frac (m:=m) (A:=a.data.toList) (Or.inl hdF));clear hdW hdF sl sb;rcases hsz with hsz | ⟨hsz,ht⟩
    all_goals
      go_enter Tryz.func110,Tryz.ntmps110
      go_wp2_with (first
        | (go_at_call 169;refine(cutPrefix_n s r _ _ HR.out HM.out).mono ?_;rintro e w ⟨rfl,rfl⟩)
        | (go_at_call 113;refine(cut_n r _ _ _ _ (by omega) HE.out HA.out HB.out HP.out).mono ?_;rintro e w1 ⟨rfl,hx1⟩)
        | (go_at_call_of 170 (Value.string a);refine(digits_n a _ HDW.out (by omega) _).mono ?_;rintro e w ⟨rfl,rfl⟩)
        | (go_at_call_of 170 (Value.string b);refine(digits_n b _ HDF.out (by omega) _).mono ?_;rintro e w ⟨rfl,rfl⟩))
      go_ret2
      exact⟨ret_pair (by rw[HF.out]) (by rw[HF.out]),hx1⟩
  have hbne:1<=b.size:=by
    rcases Nat.eq_zero_or_pos b.size with h | h
    · have e:b.data.toList=[]:=List.eq_nil_of_length_eq_zero (by rw[<-sb];exact h);rw[e] at hdF;simp[digs] at hdF
    exact h
  have hball:b.data.toList.all isD=true:=by have:=hdF;unfold digs at this;simp at this;simpa using this.1
  by_cases h3:3 < b.size
  · skip
    have HF:=Lib.hid (leaf_frac (m:=m) (A:=a.data.toList) (Or.inr (Or.inl (by rw[<-sb];exact h3))));clear hdW hdF sl sb hball;rcases hsz with hsz | ⟨hsz,ht⟩
    all_goals
      go_enter Tryz.func110,Tryz.ntmps110
      go_wp2_with (first
        | (go_at_call 169;refine(cutPrefix_n s r _ _ HR.out HM.out).mono ?_;rintro e w ⟨rfl,rfl⟩)
        | (go_at_call 113;refine(cut_n r _ _ _ _ (by omega) HE.out HA.out HB.out HP.out).mono ?_;rintro e w1 ⟨rfl,hx1⟩)
        | (go_at_call_of 170 (Value.string a);refine(digits_n a _ HDW.out (by omega) _).mono ?_;rintro e w ⟨rfl,rfl⟩)
        | (go_at_call_of 170 (Value.string b);refine(digits_n b _ HDF.out (by omega) _).mono ?_;rintro e w ⟨rfl,rfl⟩))
      go_ret2
      exact⟨ret_pair (by rw[HF.out]) (by rw[HF.out]),hx1⟩
  obtain⟨k,hk⟩:∃ k,b.size=k+1:=⟨b.size - 1,by omega⟩;have hkl:k < b.size:=Nat.lt_of_lt_of_eq (Nat.lt_succ_self k) hk.symm;have hl:=atLast b k hk;have HK:=Lib.hid hk;by_cases h48:b[k]'hkl=48
  · have hbt:(((b[k]'hkl).toNat:Int) == 48)=true:=by rw[h48];rfl
    have HF:=Lib.hid (leaf_frac (m:=m) (A:=a.data.toList) (Or.inr (Or.inr (by rw[hl];exact h48))));clear hdW hdF sl sb hball hl h48;rcases hsz with hsz | ⟨hsz,ht⟩
    all_goals
      go_enter Tryz.func110,Tryz.ntmps110
      go_wp2_with (first
        | (go_at_call 169;refine(cutPrefix_n s r _ _ HR.out HM.out).mono ?_;rintro e w ⟨rfl,rfl⟩)
        | (go_at_call 113;refine(cut_n r _ _ _ _ (by omega) HE.out HA.out HB.out HP.out).mono ?_;rintro e w1 ⟨rfl,hx1⟩)
        | (go_at_call_of 170 (Value.string a);refine(digits_n a _ HDW.out (by omega) _).mono ?_;rintro e w ⟨rfl,rfl⟩)
        | (go_at_call_of 170 (Value.string b);refine(digits_n b _ HDF.out (by omega) _).mono ?_;rintro e w ⟨rfl,rfl⟩))
      go_ret2
      exact⟨ret_pair (by rw[HF.out]) (by rw[HF.out]),hx1⟩
  have hbt:(((b[k]'hkl).toNat:Int) == 48)=false:=by
    rw[beq_eq_false_iff_ne];intro e;exact h48 (UInt8.toNat_inj.1 (by have e48:(48:UInt8).toNat=48:=rfl;omega))
  have hway:NumWay m true a.data.toList b.data.toList:=⟨hdW,HN1.out,fun _=>⟨hdF,by rw[<-sb];omega,by rw[hl];exact h48⟩,(fun h=>by cases h)⟩;have hb3:b.size<=3:=by omega
  clear hl h48;cases m
  all_goals
    have HWY:=Lib.hid (way_eq hway);have hall:a.data.toList.all isD=true:=by have:=hway.1;unfold digs at this;simp at this;simpa using this.1
    have hvb:=num_bytes a b hall hb3 hball;obtain⟨v,hv⟩:∃ v,valF 0 (a.data.toList++(b.data.toList++[48,48,48]).take 3)=v:=⟨_,rfl⟩;rw[hv] at HWY hvb;rw[<-sl] at HWY;clear hdW hdF sl sb hall hball hway hv;by_cases h9:9 < a.size
    · rw[if_pos h9] at HWY;clear hvb;rcases hsz with hsz | ⟨hsz,ht⟩
      · omega
      all_goals
        go_enter Tryz.func110,Tryz.ntmps110
        go_wp2_with (first
          | (go_at_call 169;refine(cutPrefix_n s r _ _ HR.out HM.out).mono ?_;rintro e w ⟨rfl,rfl⟩)
          | (go_at_call 113;refine(cut_n r _ _ _ _ (by omega) HE.out HA.out HB.out HP.out).mono ?_;rintro e w1 ⟨rfl,hx1⟩)
          | (go_at_call_of 170 (Value.string a);refine(digits_n a _ HDW.out (by omega) _).mono ?_;rintro e w ⟨rfl,rfl⟩)
          | (go_at_call_of 170 (Value.string b);refine(digits_n b _ HDF.out (by omega) _).mono ?_;rintro e w ⟨rfl,rfl⟩))
        go_ret2
        exact⟨ret_pair (by rw[HWY.out]) (by rw[HWY.out]),hx1⟩
    rw[if_neg h9] at HWY;obtain⟨HV,HVD,HVS,hvl⟩:=hvb (by omega);clear hvb;have hv0:(0:Int)<=v:=by omega
    have hv1:(v:Int)<=999999999999:=by omega
    by_cases hbig:268435456 < v
    · rw[if_pos hbig] at HWY;rcases hsz with hsz | ⟨hsz,ht⟩
      all_goals
        go_enter Tryz.func110,Tryz.ntmps110
        go_wp2_with (first
          | (go_at_call 169;refine(cutPrefix_n s r _ _ HR.out HM.out).mono ?_;rintro e w ⟨rfl,rfl⟩)
          | (go_at_call 113;refine(cut_n r _ _ _ _ (by omega) HE.out HA.out HB.out HP.out).mono ?_;rintro e w1 ⟨rfl,hx1⟩)
          | (go_at_call_of 170 (Value.string a);refine(digits_n a _ HDW.out (by omega) _).mono ?_;rintro e w ⟨rfl,rfl⟩)
          | (go_at_call_of 170 (Value.string b);refine(digits_n b _ HDF.out (by omega) _).mono ?_;rintro e w ⟨rfl,rfl⟩)
          | (go_at_call 171;refine(atoi_n _ v HV.out HVD.out (by have:=HVS.out;omega) (by have:=HVS.out;omega) _).mono ?_;rintro e w2 ⟨rfl,hx2⟩))
        go_ret2
        exact⟨ret_pair (by rw[HWY.out]) (by rw[HWY.out]),hx1.trans hx2⟩
    rw[if_neg hbig] at HWY;rcases hsz with hsz | ⟨hsz,ht⟩
    all_goals
      go_enter Tryz.func110,Tryz.ntmps110
      go_wp2_with (first
        | (go_at_call 169;refine(cutPrefix_n s r _ _ HR.out HM.out).mono ?_;rintro e w ⟨rfl,rfl⟩)
        | (go_at_call 113;refine(cut_n r _ _ _ _ (by omega) HE.out HA.out HB.out HP.out).mono ?_;rintro e w1 ⟨rfl,hx1⟩)
        | (go_at_call_of 170 (Value.string a);refine(digits_n a _ HDW.out (by omega) _).mono ?_;rintro e w ⟨rfl,rfl⟩)
        | (go_at_call_of 170 (Value.string b);refine(digits_n b _ HDF.out (by omega) _).mono ?_;rintro e w ⟨rfl,rfl⟩)
        | (go_at_call 171;refine(atoi_n _ v HV.out HVD.out (by have:=HVS.out;omega) (by have:=HVS.out;omega) _).mono ?_;rintro e w2 ⟨rfl,hx2⟩))
      go_ret2
      exact⟨ret_pair (by rw[HWY.out];rfl) (by rw[HWY.out]),hx1.trans hx2⟩
end Go.Proofs.YtjaeedbjknejdaaGreatDoor.Fx
