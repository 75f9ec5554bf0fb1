/- Packed texts: TreName7 -/
import Derived.Test.YtjaeedbjknejdaaGreatDoorPd19
set_option linter.unusedVariables false
set_option linter.unusedSimpArgs false
set_option maxHeartbeats 16000000
set_option maxRecDepth 100000
namespace Go.Proofs.YtjaeedbjknejdaaGreatDoor.Tr
open Go.RowKit Go.Sort Go.Lib Go.Shelf Fx Lx
theorem kw_false (s:ByteArray)(h:kw s.data.toList=false):(s.toList == [100,105,103,114,97,112,104])=false/\(s.toList == [103,114,97,112,104])=false/\(s.toList == [110,111,100,101])=false/\(s.toList == [101,100,103,101])=false/\(s.toList == [115,101,116])=false/\(s.toList == [99,108,117,115,116,101,114])=false:=by
 rw[ByteArray.toList_eq];unfold kw at h;simp only[Bool.or_eq_false_iff] at h;obtain⟨⟨⟨⟨⟨h1,h2⟩,h3⟩,h4⟩,h5⟩,h6⟩:=h;exact⟨h1,h2,h3,h4,h5,h6⟩
theorem kw_true (s:ByteArray)(h:kw s.data.toList=true):s=⟨#[100,105,103,114,97,112,104]⟩\/s=⟨#[103,114,97,112,104]⟩\/s=⟨#[110,111,100,101]⟩\/s=⟨#[101,100,103,101]⟩\/s=⟨#[115,101,116]⟩\/s=⟨#[99,108,117,115,116,101,114]⟩:=by
 have e:∀ l:List UInt8,s.data.toList=l->s=⟨l.toArray⟩:=fun l h=>by
  apply ByteArray.ext;apply Array.toList_inj.1;rw[h]
 unfold kw at h;simp only[Bool.or_eq_true,beq_iff_eq] at h;rcases h with((((h | h) | h) | h) | h) | h
 ·exact .inl (e _ h)
 ·exact .inr (.inl (e _ h))
 ·exact .inr (.inr (.inl (e _ h)))
 ·exact .inr (.inr (.inr (.inl (e _ h))))
 ·exact .inr (.inr (.inr (.inr (.inl (e _ h)))))
 exact .inr (.inr (.inr (.inr (.inr (e _ h)))))
theorem byte_ways (b:UInt8):(isL b=true/\(97<=b.toNat/\b.toNat<=122\/65<=b.toNat/\b.toNat<=90\/b.toNat=95))\/(isL b=false/\isD b=true/\48<=b.toNat/\b.toNat<=57) \/
  (isL b=false/\isD b=false/\(b.toNat<=47\/58<=b.toNat/\b.toNat<=64\/91<=b.toNat/\b.toNat<=94\/b.toNat=96\/123<=b.toNat)):=by
 cases h1:isL b
 ·cases h2:isD b
  ·refine .inr (.inr ⟨rfl,rfl,?_⟩);unfold isL at h1;unfold isD at h2;simp only[Bool.or_eq_false_iff,decide_eq_false_iff_not] at h1 h2;omega
  refine .inr (.inl ⟨rfl,rfl,?_⟩);unfold isD at h2
  simpa using h2
 refine .inl ⟨rfl,?_⟩;unfold isL at h1;simp only[Bool.or_eq_true,decide_eq_true_eq] at h1;omega
theorem name07_any (s:ByteArray)(hs:s.size<=9223372036854775807)(w:World):
  Calls Tryz.prog 39 #[.string s] w fun e w'=>e=.returned (.bool (nameB s.data.toList))/\w=w':=by
 rcases Nat.eq_zero_or_pos s.size with h0 | h0
 ·obtain⟨e1,e2,e3⟩:=tl_nil s h0;rw[e3];go_enter Tryz.func39,Tryz.ntmps39;go_wp2;go_returns;exact⟨rfl,rfl⟩
 by_cases h16:16 < s.size
 ·have hf:nameB s.data.toList=false:=by unfold nameB;rw[decide_eq_false (by rw[<-size_len];omega)];simp
  rw[hf];go_enter Tryz.func39,Tryz.ntmps39;go_wp2;go_returns;exact⟨rfl,rfl⟩
 cases hk:kw s.data.toList
 ·obtain⟨k1,k2,k3,k4,k5,k6⟩:=kw_false s hk
  have hB:nameB s.data.toList=decide (wordN s.data.toList=s.size):=by
   unfold nameB;rw[hk,<- size_len,decide_eq_true (by omega:s.size<=16)];cases hl:s.data.toList with
   | nil=>have h:=size_len s;rw[hl] at h;have h:s.size=0:=h;omega
   | cons a r=>simp
  rw[hB];clear hB hk;obtain⟨N,hN⟩:∃ N,N=wordN s.data.toList:=⟨_,rfl⟩;have HN:Hid (N=scan (okW s.data.toList) (s.size - 0) 0):=hid (by rw[hN];unfold wordN;rw[<-size_len];rfl);rw[<-hN];clear hN;have HK:=hid (And.intro k1 (And.intro k2 (And.intro k3 (And.intro k4 (And.intro k5 k6)))));go_enter Tryz.func39,Tryz.ntmps39;go_wp2_with fail;clear k1 k2 k3 k4 k5 k6 HK
  go_loop [3] (fun n=>∃ k:Nat,k<=s.size/\Hid (N=scan (okW s.data.toList) (s.size - k) k)/\n=.int .i64 k) (fun n=>s.size - (RowKit.intOf n).toNat)
  case atStart=>exact⟨0,by omega,HN,rfl⟩
  obtain⟨k,hk,ha,rfl⟩:=hrel;clear HN;by_cases hlt:k < s.size
  ·have hst:=ha.out;rw[scan_step _ _ _ hlt] at hst;have hok:okW s.data.toList k=(isL s[k] || (decide (0 < k) && isD s[k])):=by unfold okW;rw[bt_at s k hlt]
   rw[hok] at hst;have HS:=hid hst;clear hst hok ha;rcases byte_ways s[k] with⟨c1,hb⟩ | ⟨c1,c2,hb1,hb2⟩ | ⟨c1,c2,hb⟩
   ·have HF:Hid (N=scan (okW s.data.toList) (s.size - (k+1)) (k+1)):=hid (by rw[HS.out,c1];rfl);clear HS c1;rcases hb with⟨hb1,hb2⟩ | ⟨hb1,hb2⟩ | hb1
    all_goals
     go_wp2
     go_round
     case rel=>exact⟨k+1,by omega,HF,by go_num⟩
     case measure=>simp[RowKit.intOf];omega
   ·obtain⟨f9,_⟩:=ne_facts (x:=(s[k].toNat:Int)) (k:=95) (by omega);by_cases hk0:0 < k
    ·have HF:Hid (N=scan (okW s.data.toList) (s.size - (k+1)) (k+1)):=hid (by rw[HS.out,c1,c2];simp[hk0]);clear HS c1 c2;obtain⟨f0,_⟩:=ne_facts (x:=(k:Int)) (k:=0) (by omega);go_wp2
     go_round
     case rel=>exact⟨k+1,by omega,HF,by go_num⟩
     case measure=>simp[RowKit.intOf];omega
    have HF:Hid (N=k):=hid (by rw[HS.out,c1];simp[hk0]);clear HS c1 c2;obtain⟨f0,_⟩:=eq_facts (x:=(k:Int)) (k:=0) (by omega);clear hk0;go_wp2;go_ret;exact⟨ret_bool (by rw[HF.out,decide_eq_false (by omega)]),rfl⟩
   have HF:Hid (N=k):=hid (by rw[HS.out,c1,c2];simp);clear HS c1 c2;by_cases hk0:0 < k
   ·obtain⟨f0,_⟩:=ne_facts (x:=(k:Int)) (k:=0) (by omega);rcases hb with hb1 | ⟨hb1,hb2⟩ | ⟨hb1,hb2⟩ | hb1 | hb1
    all_goals
     try have g122:decide ((s[k].toNat:Int)<=122)=false:=decide_eq_false (by omega)
     try have g90:decide ((s[k].toNat:Int)<=90)=false:=decide_eq_false (by omega)
     obtain⟨f9,_⟩:=ne_facts (x:=(s[k].toNat:Int)) (k:=95) (by omega);go_wp2;go_ret;exact⟨ret_bool (by rw[HF.out,decide_eq_false (by omega)]),rfl⟩
   obtain⟨f0,_⟩:=eq_facts (x:=(k:Int)) (k:=0) (by omega);clear hk0;rcases hb with hb1 | ⟨hb1,hb2⟩ | ⟨hb1,hb2⟩ | hb1 | hb1
   all_goals
    try have g122:decide ((s[k].toNat:Int)<=122)=false:=decide_eq_false (by omega)
    try have g90:decide ((s[k].toNat:Int)<=90)=false:=decide_eq_false (by omega)
    obtain⟨f9,_⟩:=ne_facts (x:=(s[k].toNat:Int)) (k:=95) (by omega);go_wp2;go_ret;exact⟨ret_bool (by rw[HF.out,decide_eq_false (by omega)]),rfl⟩
  have HF:Hid (N=k):=hid (by rw[ha.out,show s.size - k=0 by omega];rfl);clear ha;go_wp2;go_ret;exact⟨ret_bool (by rw[HF.out,decide_eq_true (by omega)]),rfl⟩
 have hf:nameB s.data.toList=false:=by unfold nameB;rw[hk];simp
 rw[hf];have hkt:=kw_true s hk;clear hf hk hs h0 h16;rcases hkt with rfl | rfl | rfl | rfl | rfl | rfl
 all_goals
  go_enter Tryz.func39,Tryz.ntmps39;go_wp2;go_returns;exact⟨rfl,rfl⟩
end Go.Proofs.YtjaeedbjknejdaaGreatDoor.Tr
