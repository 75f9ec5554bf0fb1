/- Packed texts: FixFormat, FixFormatR, FixFormatS, FixDigits -/
import Derived.Test.YtjaeedbjknejdaaGreatDoorPd02
set_option linter.unusedVariables false
set_option linter.unusedSimpArgs false
set_option maxHeartbeats 16000000
set_option maxRecDepth 100000
namespace Go.Proofs.YtjaeedbjknejdaaGreatDoor.Fx
open Go.RowKit Go.Sort Go.Lib Go.Shelf
theorem ab_nat (n:Int):ab n=(n.natAbs:Int):=by unfold ab;split <;> omega
theorem formatUint_int (u:Int)(k:Nat)(D:List UInt8)(hk:u=k)(hu:k < 18446744073709551616)(hD:decDigits k=D)(w:World)(htab:Pows w):
  Calls Tryz.prog 128 #[.int .u64 u,.int .i64 10] w fun e w'=>e=.returned (.string ⟨D.toArray⟩)/\Ext w w':=by
 subst hk;subst hD;exact formatUint_any k hu w htab
theorem decDigits_len4 (r:Nat)(hr:r<=999):(decDigits (1000+r)).length=4:=by
 rw[decDigits_length];exact nDigits_unique 3 _ (by omega) (by omega)
theorem fmt_parts (n:Int)(h0 : -9223372036854775808<=n)(h1:n<=9223372036854775807):∃ (u q r:Nat) (A D:List UInt8),ab n=u/\(u:Int) / 1000=q/\(u:Int) % 1000=r/\r<=999/\u < 18446744073709551616/\q < 18446744073709551616/\(u:Int)<=9223372036854775808 /\
  decDigits q=A/\decDigits (1000+r)=D/\A.length<=20/\D.length=4/\fmt n=(if n < 0 then [45] else [])++(A++if 0 < r then 46::trimRightB (D.drop 1) 48 else []):=by
 refine⟨n.natAbs,n.natAbs / 1000,n.natAbs % 1000,_,_,ab_nat n,by omega,by omega,by omega,by omega,by omega,by omega,rfl,rfl,?_,?_,?_⟩
 ·rw[decDigits_length];exact nDigits_le20 _ (by omega)
 ·exact decDigits_len4 _ (by omega)
 unfold fmt fmtU fracT;split <;> simp
theorem ret_bytes {b:ByteArray}{l:List UInt8}(h:b.data.toList=l):Ending.returned (.string b)=.returned (.string ⟨l.toArray⟩):=by
 subst h;rfl
theorem trim_any (s:ByteArray)(T:List UInt8)(h:trimRightB s.data.toList 48=T)(hs:s.size<=9223372036854775807)(w:World):
  Calls Tryz.prog 129 #[.string s,.string ⟨#[48]⟩] w fun e w'=>e=.returned (.string ⟨T.toArray⟩)/\w=w':=by
 subst h;refine(Tryz.strings_TrimRight_one s 48 (by decide) w hs).mono ?_;rintro e w' ⟨rfl,rfl⟩;exact⟨rfl,rfl⟩
theorem extract_drop (D:List UInt8)(k:Nat):((⟨D.toArray⟩:ByteArray).extract k D.length).data.toList=D.drop k:=by
 rw[extract_mk];simp[List.take_of_length_le]
theorem extract_size (D:List UInt8)(k n:Nat):((⟨D.toArray⟩:ByteArray).extract k n).size<=D.length:=by
 rw[extract_mk,size_mk];simp;omega
theorem format_any (n:Int)(w:World)(h0 : -9223372036854775808<=n)(h1:n<=9223372036854775807)(ht:Pows w):
  Calls Tryz.prog 63 #[.int .i64 n] w fun e w'=>e=.returned (.string ⟨(fmt n).toArray⟩)/\Ext w w':=by
 obtain⟨u,q,r,A,D,hab,eq,er,hr9,hu64,hq64,q1,hA,hD,hAl,hDl,hf⟩:=fmt_parts n h0 h1;have HAB:=hid hab;have HA:=hid hA;have HD:=hid hD;have HF:=hid hf;have HU:=hid hu64;have HQ:=hid hq64;have HT:=hid ht;clear hab hA hD hf hu64 hq64 ht;have q0:(0:Int)<=u:=by omega
 have dl1:1<=D.length:=by omega
 have dl2:D.length<=4:=by omega
 have al0:(A.length:Int)<=20:=by omega
 obtain⟨T,hT⟩:∃ T,trimRightB (D.drop 1) 48=T:=⟨_,rfl⟩;rw[hT] at HF
 have hTl:T.length<=4:=by
  subst hT;unfold trimRightB;have:=(List.dropWhile_sublist (· == (48:UInt8)) (l:=(D.drop 1).reverse)).length_le;simp at this ⊢;omega
 have HTT:=hid hT;clear hT hDl;by_cases hrp:0 < r
 ·rw[if_pos hrp] at HF;by_cases hn:n < 0
  all_goals
   first | rw[if_pos hn] at HF | rw[if_neg hn] at HF
   go_enter Tryz.func63,Tryz.ntmps63
   go_wp2_with (first
    | (go_at_call 127;refine(size_any n _ h0 h1).mono ?_;rintro e w' ⟨rfl,rfl⟩;rw[HAB.out])
    | (go_at_call_of 128 (Value.int .u64 (q:Int));refine(formatUint_int _ q A rfl HQ.out HA.out _ HT.out).mono ?_;rintro e w1 ⟨rfl,hx1⟩))
   refine(formatUint_int _ (1000+r) D (by omega) (by omega) HD.out _ (HT.out.ext hx1)).mono ?_;rintro e w2 ⟨rfl,hx2⟩;go_wp2_with fail;refine(trim_any _ T (by rw[extract_drop];exact HTT.out) (by have:=extract_size D 1 D.length;omega) _).mono ?_;rintro e w3 ⟨rfl,rfl⟩;go_wp2;go_ret;exact⟨ret_bytes (by rw[HF.out];simp[ByteArray.data_append]),hx1.trans hx2⟩
 rw[if_neg hrp] at HF;by_cases hn:n < 0
 all_goals
  first | rw[if_pos hn] at HF | rw[if_neg hn] at HF
  go_enter Tryz.func63,Tryz.ntmps63
  go_wp2_with (first
   | (go_at_call 127;refine(size_any n _ h0 h1).mono ?_;rintro e w' ⟨rfl,rfl⟩;rw[HAB.out])
   | (go_at_call_of 128 (Value.int .u64 (q:Int));refine(formatUint_int _ q A rfl HQ.out HA.out _ HT.out).mono ?_;rintro e w1 ⟨rfl,hx1⟩))
  go_ret;exact⟨ret_bytes (by rw[HF.out];simp[ByteArray.data_append]),hx1⟩
end Go.Proofs.YtjaeedbjknejdaaGreatDoor.Fx

namespace Go.Proofs.YtjaeedbjknejdaaGreatDoor.Fx
open Go.RowKit Go.Sort Go.Lib Go.Shelf
theorem data_app (a b:ByteArray):(a++b).data.toList=a.data.toList++b.data.toList:=by simp[ByteArray.data_append]
end Go.Proofs.YtjaeedbjknejdaaGreatDoor.Fx

namespace Go.Proofs.YtjaeedbjknejdaaGreatDoor.Fx
open Go.RowKit Go.Sort Go.Lib Go.Shelf
theorem dec4 (r:Nat)(hr:r<=999):decDigits (1000+r)=[49,UInt8.ofNat (48+r / 100),UInt8.ofNat (48+r / 10 % 10),UInt8.ofNat (48+r % 10)]:=by
 rw[decDigits,dif_neg (by omega),decDigits,dif_neg (by omega),decDigits,dif_neg (by omega),decDigits,dif_pos (by omega)];rw[show(1000+r) / 10 / 10 / 10=1 by omega,show(1000+r) / 10 / 10 % 10=r / 100 by omega,show(1000+r) / 10 % 10=r / 10 % 10 by omega,show(1000+r) % 10=r % 10 by omega]
 rfl
end Go.Proofs.YtjaeedbjknejdaaGreatDoor.Fx

namespace Go.Proofs.YtjaeedbjknejdaaGreatDoor.Fx
open Go.RowKit Go.Sort Go.Lib Go.Shelf
theorem ret_bool {a b:Bool}(h:a=b):Ending.returned (.bool a)=.returned (.bool b):=by rw[h]
theorem take_succ_all (s:ByteArray)(k:Nat)(hk:k < s.size)(h:(s.data.toList.take k).all isD=true)(hd:isD s[k]=true):(s.data.toList.take (k+1)).all isD=true:=by
 have h2:=List.take_succ_eq_append_getElem (l:=s.data.toList) (i:=k) (by simpa using hk);rw[h2,List.all_append,h];have e:s.data.toList[k]'(by simpa using hk)=s[k]:=rfl;simp[hd,e]
theorem not_all (s:ByteArray)(k:Nat)(hk:k < s.size)(hd:isD s[k]=false):digs s.data.toList=false:=by
 unfold digs
 have:s.data.toList.all isD=false:=by
  rw[List.all_eq_false];exact⟨s[k],by show s.data.toList[k]'(by simpa using hk) ∈ _;exact List.getElem_mem _,by simp[hd]⟩
 rw[this];rfl
theorem digs_end (s:ByteArray)(h:(s.data.toList.take s.size).all isD=true):digs s.data.toList=decide (0 < s.size):=by
  rw[List.take_of_length_le (by simp)] at h;unfold digs;rw[h,Bool.true_and]
  have:s.data.toList.isEmpty=decide (s.size=0):=by
    cases e:s.data.toList with
    | nil => have : s.size = 0 := by have h := congrArg List.length e; simpa using h
             simp[this]
    | cons a t => have : s.size ≠ 0 := by have h := congrArg List.length e; simp at h; have : s.size = s.data.size := rfl; omega
                  simp[this]
  rw[this];by_cases h0:s.size=0 <;> simp[h0];omega
theorem digits_any (s:ByteArray)(hs:s.size<=9223372036854775807)(w:World):
  Calls Tryz.prog 170 #[.string s] w fun e w'=>e=.returned (.bool (digs s.data.toList))/\w=w':=by
 go_enter Tryz.func170,Tryz.ntmps170;go_wp2_with fail
 go_step3
 go_wp2_with fail
 go_step3
 go_wp2_with fail
 go_loop [3,8] (fun n i=>∃ k:Nat,k<=s.size/\(s.data.toList.take k).all isD=true/\n=.int .i64 k/\i=.int .i64 k) (fun _ i=>s.size - (RowKit.intOf i).toNat)
 case atStart=>exact⟨0,by omega,by simp,rfl,rfl⟩
 obtain⟨k,hk,ha,rfl,rfl⟩:=hrel;have HA:=hid ha;clear ha;by_cases hlt:k < s.size
 ·have HN:=hid (not_all s k hlt);have HT:=hid (take_succ_all s k hlt HA.out);have hd:isD s[k]=decide (48<=s[k].toNat/\s[k].toNat<=57):=rfl;have hbl:s[k].toNat<=255:=by have:=s[k].toNat_lt;omega
  by_cases h1:s[k].toNat < 48
  ·have HF:=hid (HN.out (by rw[hd];simp;omega));have t1:(s[k].toNat:Int) < 48:=by omega
   clear hd;go_wp2
   all_goals
    go_ret;exact⟨ret_bool (by have h:=HF.out;first | (rw[h];done) | (rw[h];simp;omega)),rfl⟩
  by_cases h2:57 < s[k].toNat
  ·have HF:=hid (HN.out (by rw[hd];simp;omega));have t1:¬ (s[k].toNat:Int) < 48:=by omega
   have t2:(57:Int) < (s[k].toNat:Int):=by omega
   clear hd;go_wp2
   all_goals
    go_ret;exact⟨ret_bool (by have h:=HF.out;first | (rw[h];done) | (rw[h];simp;omega)),rfl⟩
  have HF:=hid (HT.out (by rw[hd];simp;omega));have t1:¬ (s[k].toNat:Int) < 48:=by omega
  have t2:¬ (57:Int) < (s[k].toNat:Int):=by omega
  clear hd;go_wp2
  go_round
  case rel=>exact⟨k+1,by omega,HF.out,by go_num,by go_num⟩
  case measure=>simp[RowKit.intOf];omega
 have e:k=s.size:=by omega
 have HF:=hid (digs_end s (by rw[<-e];exact HA.out));have HE:=hid e;clear e;go_wp2
 all_goals
  go_ret;exact⟨ret_bool (by rw[HF.out,<- HE.out];simp;omega),rfl⟩
end Go.Proofs.YtjaeedbjknejdaaGreatDoor.Fx
