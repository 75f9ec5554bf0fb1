/- Packed texts: FixForm, LexWalkA, AttMem, AttPorts, FixRound -/
import Derived.Test.YtjaeedbjknejdaaGreatDoorPu04
import Derived.Handy
import Derived.Lib.Builder
set_option linter.unusedVariables false
set_option linter.unusedSimpArgs false
set_option maxHeartbeats 16000000
set_option maxRecDepth 100000
namespace Go.Proofs.YtjaeedbjknejdaaGreatDoor.Fx
open Go.RowKit Go.Sort Go.Lib Go.Shelf
theorem isD_dot : isD 46=false:=by decide
theorem splitDot_all : ∀ l:List UInt8,l.all isD=true->splitDot l=(l,[],false)
  | [],_=>rfl
  | b::r,h=>by
    simp only[List.all_cons,Bool.and_eq_true] at h
    have hb:(b == 46)=false:=by
      rw[beq_eq_false_iff_ne];intro e;subst e;rw[isD_dot] at h;exact absurd h.1 (by decide)
    unfold splitDot;rw[hb,splitDot_all r h.2];rfl
theorem splitDot_at : ∀ (l:List UInt8) (d:Nat),(l.take d).all isD=true->l[d]? = some 46->splitDot l=(l.take d,l.drop (d+1),true)
  | [],d,_,h=>by simp at h
  | b::r,0,_,h=>by
    simp at h;subst h;unfold splitDot;simp
  | b::r,d+1,h,hd=>by
    simp only[List.take_succ_cons,List.all_cons,Bool.and_eq_true] at h
    have hb:(b == 46)=false:=by
      rw[beq_eq_false_iff_ne];intro e;subst e;rw[isD_dot] at h;exact absurd h.1 (by decide)
    unfold splitDot;rw[hb,splitDot_at r d h.2 (by simpa using hd)];simp
def ScI (l:List UInt8)(i dot:Nat):Prop:=(dot=l.length/\(l.take i).all isD=true)\/(dot < i/\dot < l.length/\(l.take dot).all isD=true/\l[dot]? = some 46/\((l.take i).drop (dot+1)).all isD=true)
theorem ScI.start (l:List UInt8):ScI l 0 l.length:=Or.inl ⟨rfl,by simp⟩
theorem ScI.digit {l:List UInt8}{i dot:Nat}(h:ScI l i dot)(hi:i < l.length)(hd:isD l[i]=true):ScI l (i+1) dot:=by
  have e:=List.take_succ_eq_append_getElem hi;rcases h with⟨h1,h2⟩ | ⟨h1,h2,h3,h4,h5⟩
  · exact Or.inl ⟨h1,by rw[e,List.all_append,h2];simp[hd]⟩
  refine Or.inr ⟨by omega,h2,h3,h4,?_⟩;rw[e,List.drop_append,List.all_append,h5];have:dot+1 - (l.take i).length=0:=by simp;omega
  rw[this];simp[hd]
theorem ScI.dot {l:List UInt8}{i:Nat}(h:ScI l i l.length)(hi:i < l.length)(hd:l[i]=46):ScI l (i+1) i:=by
  rcases h with⟨h1,h2⟩ | ⟨h1,h2,_⟩
  · refine Or.inr ⟨by omega,hi,h2,by rw[List.getElem?_eq_getElem hi,hd],?_⟩;rw[List.drop_eq_nil_of_le (by simp;omega)];rfl
  omega
theorem ScI.bad {l:List UInt8}{i dot:Nat}(h:ScI l i dot)(hi:i < l.length)(hd:isD l[i]=false)(hn:¬ (l[i]=46/\dot=l.length)):((splitDot l).1.all isD && (splitDot l).2.1.all isD)=false:=by
  rcases h with⟨h1,h2⟩ | ⟨h1,h2,h3,h4,h5⟩
  · have h46:l[i] ≠ 46:=fun e=>hn ⟨e,h1⟩
    have key:∀ (l:List UInt8) (i:Nat) (hi:i < l.length),isD l[i]=false->l[i] ≠ 46->(l.take i).all isD=true->(splitDot l).1.all isD=false:=by
      intro l
      induction l with
      | nil=>intro i hi;simp at hi
      | cons b r ih =>
        intro i hi hd h46 ht;cases i with
        | zero =>
          simp at hd h46;have hb:(b == 46)=false:=by simpa using h46
          unfold splitDot;rw[hb];simp[hd]
        | succ i =>
          simp only[List.take_succ_cons,List.all_cons,Bool.and_eq_true] at ht
          have hb:(b == 46)=false:=by
            rw[beq_eq_false_iff_ne];intro e;subst e;rw[isD_dot] at ht;exact absurd ht.1 (by decide)
          unfold splitDot;rw[hb];have:=ih i (by simpa using hi) (by simpa using hd) (by simpa using h46) ht.2;simp[this]
    rw[key l i hi hd h46 h2];rfl
  rw[splitDot_at l dot h3 h4]
  have:(l.drop (dot+1)).all isD=false:=by
    rw[List.all_eq_false];refine⟨l[i],?_,by simp[hd]⟩;rw[List.mem_iff_getElem];exact⟨i - (dot+1),by simp;omega,by simp;congr 1;omega⟩
  simp[this]
theorem ScI.fin {l:List UInt8}{dot:Nat}(h:ScI l l.length dot):(dot=l.length/\splitDot l=(l,[],false)/\l.all isD=true)\/(dot < l.length/\splitDot l=(l.take dot,l.drop (dot+1),true)/\(l.take dot).all isD=true/\(l.drop (dot+1)).all isD=true):=by
  rcases h with⟨h1,h2⟩ | ⟨h1,h2,h3,h4,h5⟩
  · rw[List.take_length] at h2;exact Or.inl ⟨h1,splitDot_all l h2,h2⟩
  rw[List.take_length] at h5;exact Or.inr ⟨h2,splitDot_at l dot h3 h4,h3,h5⟩
def formV : Option (Bool × List UInt8 × List UInt8)->Value
  | none=>.tuple #[.bool false,.string ⟨#[]⟩,.string ⟨#[]⟩,.bool false]
  | some (m,w,p)=>.tuple #[.bool m,.string ⟨w.toArray⟩,.string ⟨p.toArray⟩,.bool true]
theorem f3_scan {m pt:Bool}{w p:List UInt8}(h:(w.all isD && p.all isD)=false):form3 m pt w p=none:=by unfold form3;simp[h]
theorem f3_part {m:Bool}{w p:List UInt8}(h:p.length < 1\/3 < p.length\/p[p.length - 1]?.getD 0=48):form3 m true w p=none:=by
  unfold form3 partOk;split
  · rfl
  rw[if_pos];rcases h with h | h | h
  · have:p=[]:=List.eq_nil_of_length_eq_zero (by omega);simp[this]
  · simp;omega
  simp[h]
theorem f3_word {m pt:Bool}{w p:List UInt8}(h:w=[]\/(1 < w.length/\w[0]?.getD 0=48)\/(m=true/\w=[48]/\p=[])):form3 m pt w p=none:=by
  unfold form3;split
  · rfl
  split
  · rfl
  rw[if_pos];rcases h with h | ⟨h1,h2⟩ | ⟨h1,h2,h3⟩
  · simp[h]
  · simp[h1,h2]
  simp[h1,h2,h3]
theorem f3_ok {m pt:Bool}{w p:List UInt8}(h1:w.all isD=true)(h2:p.all isD=true)(h3:pt=true->1<=p.length/\p.length<=3/\p[p.length - 1]?.getD 0 ≠ 48)(h4:w ≠ [])(h5:¬ (1 < w.length/\w[0]?.getD 0=48))(h6:¬ (m=true/\w=[48]/\p=[])):form3 m pt w p=some (m,w,p):=by
  unfold form3 partOk;rw[if_neg (by simp[h1,h2]),if_neg,if_neg]
  · intro hc;simp at hc;rcases hc with(hc | hc) | hc
    · exact h4 hc
    · exact h5 hc
    exact h6 ⟨hc.1.1,hc.1.2,hc.2⟩
  intro hc;cases pt
  · simp at hc
  obtain⟨a,b,c⟩:=h3 rfl;simp[b,c] at hc;exact absurd a (by rw[hc];decide)
def HeadWay (s t:ByteArray)(m:Bool):Prop:=hasPrefix s.data.toList [45]=m/\t.data.toList=trimPrefix s.data.toList [45]
theorem head_ways (s:ByteArray):(0 < s.size/\(∃ h:0 < s.size,(((s[0]'h).toNat:Int) == 45)=true)/\HeadWay s (s.extract 1 s.size) true)\/(0 < s.size/\(∃ h:0 < s.size,(((s[0]'h).toNat:Int) == 45)=false)/\HeadWay s s false)\/(s.size=0/\HeadWay s s false):=by
  unfold HeadWay trimPrefix hasPrefix;rcases Nat.eq_zero_or_pos s.size with h | h
  · have e:s.data.toList=[]:=List.eq_nil_of_length_eq_zero (by rw[<-size_len];exact h);rw[e];exact Or.inr (Or.inr ⟨h,rfl,rfl⟩)
  · have h':0 < s.data.toList.length:=by rw[<-size_len];exact h
    have e0:s.data.toList[0]=s[0]:=rfl;cases hl:s.data.toList with
    | nil=>rw[hl] at h';simp at h'
    | cons b r =>
      have hb:s[0]=b:=by rw[<-e0];simp[hl]
      by_cases hc:b=45
      · refine Or.inl ⟨h,⟨h,by rw[hb,hc];rfl⟩,by subst hc;simp[List.isPrefixOf],?_⟩;have e1:(s.extract 1 s.size).data.toList=s.data.toList.drop 1:=by rw[extract_from]
        rw[e1,hl,hc];simp[List.isPrefixOf]
      · have hp:List.isPrefixOf [45] (b::r)=false:=by simp[List.isPrefixOf];exact fun h=>hc h.symm
        refine Or.inr (Or.inl ⟨h,⟨h,?_⟩,hp,by rw[hp];rfl⟩);rw[hb,beq_eq_false_iff_ne];intro e;exact hc (UInt8.toNat_inj.1 (by have e48:(45:UInt8).toNat=45:=rfl;omega))
theorem byte_ways (t:ByteArray)(k d:Nat)(hk:k < t.size)(h:ScI t.data.toList k d):
    ((((t[k].toNat:Int) == 46)=true/\((d:Int) == (t.size:Int))=true)/\ScI t.data.toList (k+1) k) \/
    ((((t[k].toNat:Int) == 46)=false/\(48:Int)<=t[k].toNat/\(t[k].toNat:Int)<=57)/\ScI t.data.toList (k+1) d) \/
    ((((t[k].toNat:Int) == 46)=true/\((d:Int) == (t.size:Int))=false/\(t[k].toNat:Int) < 48)/\((splitDot t.data.toList).1.all isD && (splitDot t.data.toList).2.1.all isD)=false) \/
    ((((t[k].toNat:Int) == 46)=false/\(t[k].toNat:Int) < 48)/\((splitDot t.data.toList).1.all isD && (splitDot t.data.toList).2.1.all isD)=false) \/
    ((((t[k].toNat:Int) == 46)=false/\¬ (t[k].toNat:Int) < 48/\(57:Int) < t[k].toNat)/\((splitDot t.data.toList).1.all isD && (splitDot t.data.toList).2.1.all isD)=false):=by
  have hk':k < t.data.toList.length:=by rw[<-size_len];exact hk
  have e0:t.data.toList[k]=t[k]:=rfl;have hd:isD t[k]=decide (48<=t[k].toNat/\t[k].toNat<=57):=rfl;have e46:(46:UInt8).toNat=46:=rfl;by_cases hc:t[k]=46
  · have b46:((t[k].toNat:Int) == 46)=true:=by rw[hc];rfl
    have n46:t[k].toNat=46:=by rw[hc];rfl
    by_cases hds:d=t.size
    · refine Or.inl ⟨⟨b46,by simp[hds]⟩,?_⟩;rw[hds,size_len] at h;exact h.dot hk' (by rw[e0];exact hc)
    refine Or.inr (Or.inr (Or.inl ⟨⟨b46,by rw[beq_eq_false_iff_ne];omega,by omega⟩,?_⟩));exact h.bad hk' (by rw[e0,hd];simp;omega) (fun x=>hds (by rw[x.2,size_len]))
  have b46:((t[k].toNat:Int) == 46)=false:=by rw[beq_eq_false_iff_ne];intro e;exact hc (UInt8.toNat_inj.1 (by omega))
  by_cases h1:t[k].toNat < 48
  · exact Or.inr (Or.inr (Or.inr (Or.inl ⟨⟨b46,by omega⟩,h.bad hk' (by rw[e0,hd];simp;omega) (fun x=>hc (by rw[<-e0];exact x.1))⟩)))
  by_cases h2:57 < t[k].toNat
  · exact Or.inr (Or.inr (Or.inr (Or.inr ⟨⟨b46,by omega,by omega⟩,h.bad hk' (by rw[e0,hd];simp;omega) (fun x=>hc (by rw[<-e0];exact x.1))⟩)))
  exact Or.inr (Or.inl ⟨⟨b46,by omega,by omega⟩,h.digit hk' (by rw[e0,hd];simp;omega)⟩)
theorem tl_nil (a:ByteArray)(h:a.size=0):a.toList=[]/\a.toList.isEmpty=true/\a.data.toList=[]:=by
  have e:a.data.toList=[]:=List.eq_nil_of_length_eq_zero (by rw[<-size_len];exact h);rw[ByteArray.toList_eq,e];exact⟨rfl,rfl,rfl⟩
theorem tl_cons (a:ByteArray)(h:0 < a.size):¬ a.toList=[]/\a.toList.isEmpty=false/\a.data.toList ≠ []:=by
  have e:a.data.toList ≠ []:=fun e=>by have:=size_len a;rw[e] at this;simp only[List.length_nil] at this;omega
  rw[ByteArray.toList_eq];exact⟨e,by simpa using e,e⟩
theorem b0_ways (a:ByteArray)(h:0 < a.size):(a[0]=48/\((a[0].toNat:Int) == 48)=true)\/(a[0] ≠ 48/\((a[0].toNat:Int) == 48)=false):=by
  have e48:(48:UInt8).toNat=48:=rfl;by_cases hc:a[0]=48
  · exact Or.inl ⟨hc,by rw[hc];rfl⟩
  exact Or.inr ⟨hc,by rw[beq_eq_false_iff_ne];intro e;exact hc (UInt8.toNat_inj.1 (by omega))⟩
theorem bl_ways (a:ByteArray)(k:Nat)(h:k < a.size):(a[k]=48/\((a[k].toNat:Int) == 48)=true)\/(a[k] ≠ 48/\((a[k].toNat:Int) == 48)=false):=by
  have e48:(48:UInt8).toNat=48:=rfl;by_cases hc:a[k]=48
  · exact Or.inl ⟨hc,by rw[hc];rfl⟩
  exact Or.inr ⟨hc,by rw[beq_eq_false_iff_ne];intro e;exact hc (UInt8.toNat_inj.1 (by omega))⟩
theorem ret_val {a b:Value}(h:a=b):Ending.returned a=.returned b:=by rw[h]
end Go.Proofs.YtjaeedbjknejdaaGreatDoor.Fx

namespace Go.Proofs.YtjaeedbjknejdaaGreatDoor.Lx
open Go.RowKit Go.Sort Go.Lib Go.Shelf Fx
theorem letter_any (b:UInt8)(w:World):Calls Tryz.prog 175 #[.int .u8 b.toNat] w fun e w'=>e=.returned (.bool (isL b))/\w=w':=by
  go_enter Tryz.func175,Tryz.ntmps175;go_wp2
  all_goals
    go_ret;exact⟨ret_bool (by rw[Bool.eq_iff_iff];unfold isL;simp only[Bool.or_eq_true,decide_eq_true_eq,beq_iff_eq,true_iff];omega),rfl⟩
theorem letterR_any (b:UInt8)(w:World):Calls Tryz.prog 193 #[.int .u8 b.toNat] w fun e w'=>e=.returned (.bool (isL b))/\w=w':=by
  go_enter Tryz.func193,Tryz.ntmps193;go_wp2
  all_goals
    go_ret;exact⟨ret_bool (by rw[Bool.eq_iff_iff];unfold isL;simp only[Bool.or_eq_true,decide_eq_true_eq,beq_iff_eq,true_iff];omega),rfl⟩
theorem digit_any (b:UInt8)(w:World):Calls Tryz.prog 176 #[.int .u8 b.toNat] w fun e w'=>e=.returned (.bool (isD b))/\w=w':=by
  go_enter Tryz.func176,Tryz.ntmps176;go_wp2
  all_goals
    go_ret;exact⟨ret_bool (by rw[Bool.eq_iff_iff];unfold isD;simp only[decide_eq_true_eq,false_iff,Bool.false_eq_true];omega),rfl⟩
theorem digitR_any (b:UInt8)(w:World):Calls Tryz.prog 194 #[.int .u8 b.toNat] w fun e w'=>e=.returned (.bool (isD b))/\w=w':=by
  go_enter Tryz.func194,Tryz.ntmps194;go_wp2
  all_goals
    go_ret;exact⟨ret_bool (by rw[Bool.eq_iff_iff];unfold isD;simp only[decide_eq_true_eq,false_iff,Bool.false_eq_true];omega),rfl⟩
theorem isKeyword_any (s:ByteArray)(w:World):Calls Tryz.prog 119 #[.string s] w fun e w'=>e=.returned (.bool (kw s.data.toList))/\w=w':=by
  go_enter Tryz.func119,Tryz.ntmps119;go_wp2
  all_goals
    go_ret;exact⟨ret_bool (by rw[<-ByteArray.toList_eq];unfold kw;simp_all),rfl⟩
theorem isKeywordR_any (s:ByteArray)(w:World):Calls Tryz.prog 139 #[.string s] w fun e w'=>e=.returned (.bool (kw s.data.toList))/\w=w':=by
  go_enter Tryz.func139,Tryz.ntmps139;go_wp2
  all_goals
    go_ret;exact⟨ret_bool (by rw[<-ByteArray.toList_eq];unfold kw;simp_all),rfl⟩
theorem bt_at (s:ByteArray)(k:Nat)(hk:k < s.size):bt s.data.toList k=s[k]:=by
  unfold bt;have h:k < s.data.toList.length:=by rw[<-size_len];exact hk
  rw[List.getElem?_eq_getElem h];rfl
theorem scan_step (p:Nat->Bool)(l k:Nat)(hk:k < l):scan p (l - k) k=if p k then scan p (l - (k+1)) (k+1) else k:=by
  rw[show l - k=(l - (k+1))+1 by omega];rfl
theorem word_any (s:ByteArray)(hs:s.size<=9223372036854775807)(w:World):
    Calls Tryz.prog 118 #[.string s] w fun e w'=>e=.returned (.int .i64 (wordN s.data.toList))/\w=w':=by
  obtain⟨N,hN⟩:∃ N,N=wordN s.data.toList:=⟨_,rfl⟩;have HN:Hid (N=scan (okW s.data.toList) (s.size - 0) 0):=Lib.hid (by rw[hN];unfold wordN;rw[<-size_len];rfl);rw[<-hN];clear hN;go_enter Tryz.func118,Tryz.ntmps118;go_wp2_with fail
  go_loop [3] (fun n=>∃ k:Nat,k<=s.size/\Hid (N=scan (okW s.data.toList) (s.size - k) k)/\n=.int .i64 k) (fun n=>s.size - (RowKit.intOf n).toNat)
  case atStart=>exact⟨0,by omega,HN,rfl⟩
  obtain⟨k,hk,ha,rfl⟩:=hrel;clear HN;by_cases hlt:k < s.size
  · have hst:=ha.out;rw[scan_step _ _ _ hlt] at hst;have hok:okW s.data.toList k=(isL s[k] || (decide (0 < k) && isD s[k])):=by unfold okW;rw[bt_at s k hlt]
    rw[hok] at hst;have HS:=Lib.hid hst;clear hst hok ha;by_cases c1:isL s[k]=true
    · have HF:Hid (N=scan (okW s.data.toList) (s.size - (k+1)) (k+1)):=Lib.hid (by rw[HS.out,c1];rfl);clear HS;go_wp2_with fail;refine(letter_any s[k] _).mono ?_;rintro e w1 ⟨rfl,rfl⟩;go_wp2
      go_round
      case rel=>exact⟨k+1,by omega,HF,by go_num⟩
      case measure=>simp[RowKit.intOf];omega
    have c1':isL s[k]=false:=by simpa using c1
    clear c1;by_cases c2:0 < k
    · by_cases c3:isD s[k]=true
      · have HF:Hid (N=scan (okW s.data.toList) (s.size - (k+1)) (k+1)):=Lib.hid (by rw[HS.out,c1',c3];simp[c2]);clear HS;go_wp2_with fail;refine(letter_any s[k] _).mono ?_;rintro e w1 ⟨rfl,rfl⟩;go_wp2_with fail;refine(digit_any s[k] _).mono ?_;rintro e w1 ⟨rfl,rfl⟩;go_wp2
        go_round
        case rel=>exact⟨k+1,by omega,HF,by go_num⟩
        case measure=>simp[RowKit.intOf];omega
      have c3':isD s[k]=false:=by simpa using c3
      have HF:Hid (N=k):=Lib.hid (by rw[HS.out,c1',c3'];simp);clear HS c3;go_wp2_with fail;refine(letter_any s[k] _).mono ?_;rintro e w1 ⟨rfl,rfl⟩;go_wp2_with fail;refine(digit_any s[k] _).mono ?_;rintro e w1 ⟨rfl,rfl⟩;go_wp2;go_ret;exact⟨ret_int (by rw[HF.out]),rfl⟩
    have HF:Hid (N=k):=Lib.hid (by rw[HS.out,c1'];simp[c2]);clear HS;go_wp2_with fail;refine(letter_any s[k] _).mono ?_;rintro e w1 ⟨rfl,rfl⟩;go_wp2;go_ret;exact⟨ret_int (by rw[HF.out]),rfl⟩
  have HF:Hid (N=k):=Lib.hid (by rw[ha.out,show s.size - k=0 by omega];rfl);clear ha;go_wp2;go_ret;exact⟨ret_int (by rw[HF.out]),rfl⟩
theorem wordR_any (s:ByteArray)(hs:s.size<=9223372036854775807)(w:World):
    Calls Tryz.prog 138 #[.string s] w fun e w'=>e=.returned (.int .i64 (wordN s.data.toList))/\w=w':=by
  obtain⟨N,hN⟩:∃ N,N=wordN s.data.toList:=⟨_,rfl⟩;have HN:Hid (N=scan (okW s.data.toList) (s.size - 0) 0):=Lib.hid (by rw[hN];unfold wordN;rw[<-size_len];rfl);rw[<-hN];clear hN;go_enter Tryz.func138,Tryz.ntmps138;go_wp2_with fail
  go_loop [3] (fun n=>∃ k:Nat,k<=s.size/\Hid (N=scan (okW s.data.toList) (s.size - k) k)/\n=.int .i64 k) (fun n=>s.size - (RowKit.intOf n).toNat)
  case atStart=>exact⟨0,by omega,HN,rfl⟩
  obtain⟨k,hk,ha,rfl⟩:=hrel;clear HN;by_cases hlt:k < s.size
  · have hst:=ha.out;rw[scan_step _ _ _ hlt] at hst;have hok:okW s.data.toList k=(isL s[k] || (decide (0 < k) && isD s[k])):=by unfold okW;rw[bt_at s k hlt]
    rw[hok] at hst;have HS:=Lib.hid hst;clear hst hok ha;by_cases c1:isL s[k]=true
    · have HF:Hid (N=scan (okW s.data.toList) (s.size - (k+1)) (k+1)):=Lib.hid (by rw[HS.out,c1];rfl);clear HS;go_wp2_with fail;refine(letterR_any s[k] _).mono ?_;rintro e w1 ⟨rfl,rfl⟩;go_wp2
      go_round
      case rel=>exact⟨k+1,by omega,HF,by go_num⟩
      case measure=>simp[RowKit.intOf];omega
    have c1':isL s[k]=false:=by simpa using c1
    clear c1;by_cases c2:0 < k
    · by_cases c3:isD s[k]=true
      · have HF:Hid (N=scan (okW s.data.toList) (s.size - (k+1)) (k+1)):=Lib.hid (by rw[HS.out,c1',c3];simp[c2]);clear HS;go_wp2_with fail;refine(letterR_any s[k] _).mono ?_;rintro e w1 ⟨rfl,rfl⟩;go_wp2_with fail;refine(digitR_any s[k] _).mono ?_;rintro e w1 ⟨rfl,rfl⟩;go_wp2
        go_round
        case rel=>exact⟨k+1,by omega,HF,by go_num⟩
        case measure=>simp[RowKit.intOf];omega
      have c3':isD s[k]=false:=by simpa using c3
      have HF:Hid (N=k):=Lib.hid (by rw[HS.out,c1',c3'];simp);clear HS c3;go_wp2_with fail;refine(letterR_any s[k] _).mono ?_;rintro e w1 ⟨rfl,rfl⟩;go_wp2_with fail;refine(digitR_any s[k] _).mono ?_;rintro e w1 ⟨rfl,rfl⟩;go_wp2;go_ret;exact⟨ret_int (by rw[HF.out]),rfl⟩
    have HF:Hid (N=k):=Lib.hid (by rw[HS.out,c1'];simp[c2]);clear HS;go_wp2_with fail;refine(letterR_any s[k] _).mono ?_;rintro e w1 ⟨rfl,rfl⟩;go_wp2;go_ret;exact⟨ret_int (by rw[HF.out]),rfl⟩
  have HF:Hid (N=k):=Lib.hid (by rw[ha.out,show s.size - k=0 by omega];rfl);clear ha;go_wp2;go_ret;exact⟨ret_int (by rw[HF.out]),rfl⟩
theorem isName_any (s:ByteArray)(hs:s.size<=9223372036854775807)(w:World):Calls Tryz.prog 58 #[.string s] w fun e w'=>e=.returned (.bool (nameB s.data.toList))/\w=w':=by
  have hsz:=size_len s;rcases Nat.eq_zero_or_pos s.size with h0 | h0
  · obtain⟨e1,e2,e3⟩:=tl_nil s h0;go_enter Tryz.func58,Tryz.ntmps58;go_wp2;go_ret;exact⟨ret_bool (by rw[e3];rfl),rfl⟩
  obtain⟨e1,e2,e3⟩:=tl_cons s h0;have HB:Hid (nameB s.data.toList=(decide (s.size<=16) && decide (wordN s.data.toList=s.size) && !kw s.data.toList)):=Lib.hid (by have e4:=e2;rw[ByteArray.toList_eq] at e4;unfold nameB;rw[<-hsz,e4];rfl);clear hsz e3;generalize nameB s.data.toList=NB at HB ⊢;go_enter Tryz.func58,Tryz.ntmps58;go_wp2_with (first | (go_at_call 118;refine(word_any s hs _).mono ?_;rintro e w1 ⟨rfl,rfl⟩) | (go_at_call 119;refine(isKeyword_any s _).mono ?_;rintro e w1 ⟨rfl,rfl⟩))
  all_goals
    go_ret;refine⟨ret_bool ?_,rfl⟩;rw[HB.out]
    first
      | (rw[decide_eq_true (show s.size<=16 by omega),decide_eq_true (show wordN s.data.toList=s.size by omega)];rfl)
      | (rw[decide_eq_false (show ¬ wordN s.data.toList=s.size by omega)];simp)
      | (rw[decide_eq_false (show ¬ s.size<=16 by omega)];simp)
theorem isNameR_any (s:ByteArray)(hs:s.size<=9223372036854775807)(w:World):Calls Tryz.prog 72 #[.string s] w fun e w'=>e=.returned (.bool (nameB s.data.toList))/\w=w':=by
  have hsz:=size_len s;rcases Nat.eq_zero_or_pos s.size with h0 | h0
  · obtain⟨e1,e2,e3⟩:=tl_nil s h0;go_enter Tryz.func72,Tryz.ntmps72;go_wp2;go_ret;exact⟨ret_bool (by rw[e3];rfl),rfl⟩
  obtain⟨e1,e2,e3⟩:=tl_cons s h0;have HB:Hid (nameB s.data.toList=(decide (s.size<=16) && decide (wordN s.data.toList=s.size) && !kw s.data.toList)):=Lib.hid (by have e4:=e2;rw[ByteArray.toList_eq] at e4;unfold nameB;rw[<-hsz,e4];rfl);clear hsz e3;generalize nameB s.data.toList=NB at HB ⊢;go_enter Tryz.func72,Tryz.ntmps72;go_wp2_with (first | (go_at_call 138;refine(wordR_any s hs _).mono ?_;rintro e w1 ⟨rfl,rfl⟩) | (go_at_call 139;refine(isKeywordR_any s _).mono ?_;rintro e w1 ⟨rfl,rfl⟩))
  all_goals
    go_ret;refine⟨ret_bool ?_,rfl⟩;rw[HB.out]
    first
      | (rw[decide_eq_true (show s.size<=16 by omega),decide_eq_true (show wordN s.data.toList=s.size by omega)];rfl)
      | (rw[decide_eq_false (show ¬ wordN s.data.toList=s.size by omega)];simp)
      | (rw[decide_eq_false (show ¬ s.size<=16 by omega)];simp)
end Go.Proofs.YtjaeedbjknejdaaGreatDoor.Lx

namespace Go.Proofs.YtjaeedbjknejdaaGreatDoor.At
open Go.RowKit Go.Sort Go.Lib Go.Shelf Fx Lx
def PrtIn (w:World)(a:Option Addr)(L:List Prt):Prop :=
  ∀ k (h:k < L.length),∃ g o,a=some ⟨g,o,none⟩/\w.cell? ⟨g,o+k * 2,none⟩=some (.string L[k].1)/\w.cell? ⟨g,o+k * 2+1,none⟩=some (.int .i64 L[k].2)
theorem PrtIn.ext {w w':World}{a:Option Addr}{L:List Prt}(h:PrtIn w a L)(x:Ext w w'):PrtIn w' a L:=fun k hk=>by
  obtain⟨g,o,ha,h0,h1⟩:=h k hk;exact⟨g,o,ha,x.cell h0,x.cell h1⟩
theorem beqs (n x:ByteArray):(n.toList == x.toList)=decide (n=x):=by
  rw[ByteArray.toList_eq,ByteArray.toList_eq,Bool.eq_iff_iff,beq_iff_eq,decide_eq_true_eq];exact⟨fun h=>ByteArray.ext (Array.toList_inj.1 h),fun h=>by rw[h]⟩
end Go.Proofs.YtjaeedbjknejdaaGreatDoor.At

namespace Go.Proofs.YtjaeedbjknejdaaGreatDoor.At
open Go.RowKit Go.Sort Go.Lib Go.Shelf Fx Lx
theorem own_base {w:World}{B B' n:Nat}{e:TypeId}{v:Value}{size:Nat}{xs:List Value}(h:w.ownsRow B e size v n xs)(hb:B'<=B):w.ownsRow B' e size v n xs:=by
  refine⟨h.1,?_⟩;rcases h.2 with h1 | ⟨g,cap,cur,hv,hg0,r⟩
  · exact .inl h1
  exact .inr ⟨g,cap,cur,hv,by omega,r⟩
theorem own_ext {w w':World}{B n:Nat}{e:TypeId}{v:Value}{size:Nat}{xs:List Value}(h:w.ownsRow B e size v n xs)(x:Ext w w'):w'.ownsRow B e size v n xs:=by
  refine⟨h.1,?_⟩;rcases h.2 with h1 | ⟨g,cap,cur,hv,hb,hg,r⟩
  · exact .inl h1
  refine .inr ⟨g,cap,cur,hv,hb,?_,r⟩;rw[x.block g (Array.getElem?_eq_some_iff.1 hg).1];exact hg
theorem cell_new1 (w:World)(l:List Value)(T:TypeId)(j:Nat)(u:Value)(h:l[j]? = some u):
    (w.alloc (.cells l.toArray T)).cell? ((⟨w.heap.size,0,none⟩:Addr).add j)=some u:=by
  have hb:=heap_alloc_new w (.cells l.toArray T);have e:(⟨w.heap.size,0,none⟩:Addr).add j=⟨w.heap.size,j,none⟩:=by simp[Addr.add];exact fun h=>h.symm
  rw[e,Lib.cell_of_heap hb]
  simpa using h
end Go.Proofs.YtjaeedbjknejdaaGreatDoor.At

namespace Go.Proofs.YtjaeedbjknejdaaGreatDoor.Fx
open Go.Lib
theorem trim_props (l:List UInt8):(trimRightB l 48=[]\/(trimRightB l 48)[(trimRightB l 48).length - 1]?.getD 0 ≠ 48)/\(l.all isD=true->(trimRightB l 48).all isD=true)/\(trimRightB l 48).length<=l.length:=by
  unfold trimRightB;refine⟨?_,fun h=>?_,?_⟩
  · cases hm:l.reverse.dropWhile (· == 48) with
    | nil=>exact Or.inl rfl
    | cons x r =>
      refine Or.inr ?_
      have hx:(x == 48)=false:=by
        have:=List.head?_dropWhile_not (p:=(· == (48:UInt8))) (l:=l.reverse);rw[hm] at this;simpa using this
      have hx':x ≠ 48:=by simpa using hx
      simpa using hx'
  · rw[List.all_eq_true] at h ⊢;intro x hx;have h1:x ∈ l.reverse.dropWhile (· == 48):=by simpa using hx
    have h2:=(List.dropWhile_sublist (· == (48:UInt8)) (l:=l.reverse)).subset h1;exact h x (by simpa using h2)
  have:=(List.dropWhile_sublist (· == (48:UInt8)) (l:=l.reverse)).length_le;simp at this ⊢;omega
end Go.Proofs.YtjaeedbjknejdaaGreatDoor.Fx
