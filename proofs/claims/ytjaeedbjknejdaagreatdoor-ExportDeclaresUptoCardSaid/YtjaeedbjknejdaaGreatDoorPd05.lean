/- Packed texts: LexWalkA, LexDrop, TreHas, TreBase, TreRun, ParRow -/
import Derived.Test.YtjaeedbjknejdaaGreatDoorPd04
import Derived.Lib.Builder
import Derived.OwnWalk
import Derived.Deep.RegionHeld3
import Derived.Deep.AppendLies
set_option linter.unusedVariables false
set_option linter.unusedSimpArgs false
set_option maxHeartbeats 16000000
set_option maxRecDepth 100000
namespace Go.Proofs.YtjaeedbjknejdaaGreatDoor.Lx
open Go.RowKit Go.Sort Go.Lib Go.Shelf Fx
theorem letter_any (b:UInt8)(w:World):Calls Tryz.prog 175 #[.int .u8 b.toNat] w fun e w'=>e=.returned (.bool (isL b))/\w=w':=by
 go_enter Tryz.func175,Tryz.ntmps175;go_wp2
 all_goals
  go_ret;exact⟨ret_bool (by rw[Bool.eq_iff_iff];unfold isL;simp only[Bool.or_eq_true,decide_eq_true_eq,beq_iff_eq,true_iff];omega),rfl⟩
theorem letterR_any (b:UInt8)(w:World):Calls Tryz.prog 193 #[.int .u8 b.toNat] w fun e w'=>e=.returned (.bool (isL b))/\w=w':=by
 go_enter Tryz.func193,Tryz.ntmps193;go_wp2
 all_goals
  go_ret;exact⟨ret_bool (by rw[Bool.eq_iff_iff];unfold isL;simp only[Bool.or_eq_true,decide_eq_true_eq,beq_iff_eq,true_iff];omega),rfl⟩
theorem digit_any (b:UInt8)(w:World):Calls Tryz.prog 176 #[.int .u8 b.toNat] w fun e w'=>e=.returned (.bool (isD b))/\w=w':=by
 go_enter Tryz.func176,Tryz.ntmps176;go_wp2
 all_goals
  go_ret;exact⟨ret_bool (by rw[Bool.eq_iff_iff];unfold isD;simp only[decide_eq_true_eq,false_iff,Bool.false_eq_true];omega),rfl⟩
theorem digitR_any (b:UInt8)(w:World):Calls Tryz.prog 194 #[.int .u8 b.toNat] w fun e w'=>e=.returned (.bool (isD b))/\w=w':=by
 go_enter Tryz.func194,Tryz.ntmps194;go_wp2
 all_goals
  go_ret;exact⟨ret_bool (by rw[Bool.eq_iff_iff];unfold isD;simp only[decide_eq_true_eq,false_iff,Bool.false_eq_true];omega),rfl⟩
theorem isKeyword_any (s:ByteArray)(w:World):Calls Tryz.prog 119 #[.string s] w fun e w'=>e=.returned (.bool (kw s.data.toList))/\w=w':=by
 go_enter Tryz.func119,Tryz.ntmps119;go_wp2
 all_goals
  go_ret;exact⟨ret_bool (by rw[<-ByteArray.toList_eq];unfold kw;simp_all),rfl⟩
theorem isKeywordR_any (s:ByteArray)(w:World):Calls Tryz.prog 139 #[.string s] w fun e w'=>e=.returned (.bool (kw s.data.toList))/\w=w':=by
 go_enter Tryz.func139,Tryz.ntmps139;go_wp2
 all_goals
  go_ret;exact⟨ret_bool (by rw[<-ByteArray.toList_eq];unfold kw;simp_all),rfl⟩
theorem bt_at (s:ByteArray)(k:Nat)(hk:k < s.size):bt s.data.toList k=s[k]:=by
 unfold bt;have h:k < s.data.toList.length:=by rw[<-size_len];exact hk
 rw[List.getElem?_eq_getElem h];rfl
theorem scan_step (p:Nat->Bool)(l k:Nat)(hk:k < l):scan p (l - k) k=if p k then scan p (l - (k+1)) (k+1) else k:=by
 rw[show l - k=(l - (k+1))+1 by omega];rfl
theorem word_any (s:ByteArray)(hs:s.size<=9223372036854775807)(w:World):
  Calls Tryz.prog 118 #[.string s] w fun e w'=>e=.returned (.int .i64 (wordN s.data.toList))/\w=w':=by
 obtain⟨N,hN⟩:∃ N,N=wordN s.data.toList:=⟨_,rfl⟩;have HN:Hid (N=scan (okW s.data.toList) (s.size - 0) 0):=hid (by rw[hN];unfold wordN;rw[<-size_len];rfl);rw[<-hN];clear hN;go_enter Tryz.func118,Tryz.ntmps118;go_wp2_with fail
 go_loop [3] (fun n=>∃ k:Nat,k<=s.size/\Hid (N=scan (okW s.data.toList) (s.size - k) k)/\n=.int .i64 k) (fun n=>s.size - (RowKit.intOf n).toNat)
 case atStart=>exact⟨0,by omega,HN,rfl⟩
 obtain⟨k,hk,ha,rfl⟩:=hrel;clear HN;by_cases hlt:k < s.size
 ·have hst:=ha.out;rw[scan_step _ _ _ hlt] at hst;have hok:okW s.data.toList k=(isL s[k] || (decide (0 < k) && isD s[k])):=by unfold okW;rw[bt_at s k hlt]
  rw[hok] at hst;have HS:=hid hst;clear hst hok ha;by_cases c1:isL s[k]=true
  ·have HF:Hid (N=scan (okW s.data.toList) (s.size - (k+1)) (k+1)):=hid (by rw[HS.out,c1];rfl);clear HS;go_wp2_with fail;refine(letter_any s[k] _).mono ?_;rintro e w1 ⟨rfl,rfl⟩;go_wp2
   go_round
   case rel=>exact⟨k+1,by omega,HF,by go_num⟩
   case measure=>simp[RowKit.intOf];omega
  have c1':isL s[k]=false:=by simpa using c1
  clear c1;by_cases c2:0 < k
  ·by_cases c3:isD s[k]=true
   ·have HF:Hid (N=scan (okW s.data.toList) (s.size - (k+1)) (k+1)):=hid (by rw[HS.out,c1',c3];simp[c2]);clear HS;go_wp2_with fail;refine(letter_any s[k] _).mono ?_;rintro e w1 ⟨rfl,rfl⟩;go_wp2_with fail;refine(digit_any s[k] _).mono ?_;rintro e w1 ⟨rfl,rfl⟩;go_wp2
    go_round
    case rel=>exact⟨k+1,by omega,HF,by go_num⟩
    case measure=>simp[RowKit.intOf];omega
   have c3':isD s[k]=false:=by simpa using c3
   have HF:Hid (N=k):=hid (by rw[HS.out,c1',c3'];simp);clear HS c3;go_wp2_with fail;refine(letter_any s[k] _).mono ?_;rintro e w1 ⟨rfl,rfl⟩;go_wp2_with fail;refine(digit_any s[k] _).mono ?_;rintro e w1 ⟨rfl,rfl⟩;go_wp2;go_ret;exact⟨ret_int (by rw[HF.out]),rfl⟩
  have HF:Hid (N=k):=hid (by rw[HS.out,c1'];simp[c2]);clear HS;go_wp2_with fail;refine(letter_any s[k] _).mono ?_;rintro e w1 ⟨rfl,rfl⟩;go_wp2;go_ret;exact⟨ret_int (by rw[HF.out]),rfl⟩
 have HF:Hid (N=k):=hid (by rw[ha.out,show s.size - k=0 by omega];rfl);clear ha;go_wp2;go_ret;exact⟨ret_int (by rw[HF.out]),rfl⟩
theorem wordR_any (s:ByteArray)(hs:s.size<=9223372036854775807)(w:World):
  Calls Tryz.prog 138 #[.string s] w fun e w'=>e=.returned (.int .i64 (wordN s.data.toList))/\w=w':=by
 obtain⟨N,hN⟩:∃ N,N=wordN s.data.toList:=⟨_,rfl⟩;have HN:Hid (N=scan (okW s.data.toList) (s.size - 0) 0):=hid (by rw[hN];unfold wordN;rw[<-size_len];rfl);rw[<-hN];clear hN;go_enter Tryz.func138,Tryz.ntmps138;go_wp2_with fail
 go_loop [3] (fun n=>∃ k:Nat,k<=s.size/\Hid (N=scan (okW s.data.toList) (s.size - k) k)/\n=.int .i64 k) (fun n=>s.size - (RowKit.intOf n).toNat)
 case atStart=>exact⟨0,by omega,HN,rfl⟩
 obtain⟨k,hk,ha,rfl⟩:=hrel;clear HN;by_cases hlt:k < s.size
 ·have hst:=ha.out;rw[scan_step _ _ _ hlt] at hst;have hok:okW s.data.toList k=(isL s[k] || (decide (0 < k) && isD s[k])):=by unfold okW;rw[bt_at s k hlt]
  rw[hok] at hst;have HS:=hid hst;clear hst hok ha;by_cases c1:isL s[k]=true
  ·have HF:Hid (N=scan (okW s.data.toList) (s.size - (k+1)) (k+1)):=hid (by rw[HS.out,c1];rfl);clear HS;go_wp2_with fail;refine(letterR_any s[k] _).mono ?_;rintro e w1 ⟨rfl,rfl⟩;go_wp2
   go_round
   case rel=>exact⟨k+1,by omega,HF,by go_num⟩
   case measure=>simp[RowKit.intOf];omega
  have c1':isL s[k]=false:=by simpa using c1
  clear c1;by_cases c2:0 < k
  ·by_cases c3:isD s[k]=true
   ·have HF:Hid (N=scan (okW s.data.toList) (s.size - (k+1)) (k+1)):=hid (by rw[HS.out,c1',c3];simp[c2]);clear HS;go_wp2_with fail;refine(letterR_any s[k] _).mono ?_;rintro e w1 ⟨rfl,rfl⟩;go_wp2_with fail;refine(digitR_any s[k] _).mono ?_;rintro e w1 ⟨rfl,rfl⟩;go_wp2
    go_round
    case rel=>exact⟨k+1,by omega,HF,by go_num⟩
    case measure=>simp[RowKit.intOf];omega
   have c3':isD s[k]=false:=by simpa using c3
   have HF:Hid (N=k):=hid (by rw[HS.out,c1',c3'];simp);clear HS c3;go_wp2_with fail;refine(letterR_any s[k] _).mono ?_;rintro e w1 ⟨rfl,rfl⟩;go_wp2_with fail;refine(digitR_any s[k] _).mono ?_;rintro e w1 ⟨rfl,rfl⟩;go_wp2;go_ret;exact⟨ret_int (by rw[HF.out]),rfl⟩
  have HF:Hid (N=k):=hid (by rw[HS.out,c1'];simp[c2]);clear HS;go_wp2_with fail;refine(letterR_any s[k] _).mono ?_;rintro e w1 ⟨rfl,rfl⟩;go_wp2;go_ret;exact⟨ret_int (by rw[HF.out]),rfl⟩
 have HF:Hid (N=k):=hid (by rw[ha.out,show s.size - k=0 by omega];rfl);clear ha;go_wp2;go_ret;exact⟨ret_int (by rw[HF.out]),rfl⟩
theorem isName_any (s:ByteArray)(hs:s.size<=9223372036854775807)(w:World):Calls Tryz.prog 58 #[.string s] w fun e w'=>e=.returned (.bool (nameB s.data.toList))/\w=w':=by
 have hsz:=size_len s;rcases Nat.eq_zero_or_pos s.size with h0 | h0
 ·obtain⟨e1,e2,e3⟩:=tl_nil s h0;go_enter Tryz.func58,Tryz.ntmps58;go_wp2;go_ret;exact⟨ret_bool (by rw[e3];rfl),rfl⟩
 obtain⟨e1,e2,e3⟩:=tl_cons s h0;have HB:Hid (nameB s.data.toList=(decide (s.size<=16) && decide (wordN s.data.toList=s.size) && !kw s.data.toList)):=hid (by have e4:=e2;rw[ByteArray.toList_eq] at e4;unfold nameB;rw[<-hsz,e4];rfl);clear hsz e3;generalize nameB s.data.toList=NB at HB ⊢;go_enter Tryz.func58,Tryz.ntmps58;go_wp2_with (first | (go_at_call 118;refine(word_any s hs _).mono ?_;rintro e w1 ⟨rfl,rfl⟩) | (go_at_call 119;refine(isKeyword_any s _).mono ?_;rintro e w1 ⟨rfl,rfl⟩))
 all_goals
  go_ret;refine⟨ret_bool ?_,rfl⟩;rw[HB.out]
  first
   | (rw[decide_eq_true (show s.size<=16 by omega),decide_eq_true (show wordN s.data.toList=s.size by omega)];rfl)
   | (rw[decide_eq_false (show ¬ wordN s.data.toList=s.size by omega)];simp)
   | (rw[decide_eq_false (show ¬ s.size<=16 by omega)];simp)
theorem isNameR_any (s:ByteArray)(hs:s.size<=9223372036854775807)(w:World):Calls Tryz.prog 72 #[.string s] w fun e w'=>e=.returned (.bool (nameB s.data.toList))/\w=w':=by
 have hsz:=size_len s;rcases Nat.eq_zero_or_pos s.size with h0 | h0
 ·obtain⟨e1,e2,e3⟩:=tl_nil s h0;go_enter Tryz.func72,Tryz.ntmps72;go_wp2;go_ret;exact⟨ret_bool (by rw[e3];rfl),rfl⟩
 obtain⟨e1,e2,e3⟩:=tl_cons s h0;have HB:Hid (nameB s.data.toList=(decide (s.size<=16) && decide (wordN s.data.toList=s.size) && !kw s.data.toList)):=hid (by have e4:=e2;rw[ByteArray.toList_eq] at e4;unfold nameB;rw[<-hsz,e4];rfl);clear hsz e3;generalize nameB s.data.toList=NB at HB ⊢;go_enter Tryz.func72,Tryz.ntmps72;go_wp2_with (first | (go_at_call 138;refine(wordR_any s hs _).mono ?_;rintro e w1 ⟨rfl,rfl⟩) | (go_at_call 139;refine(isKeywordR_any s _).mono ?_;rintro e w1 ⟨rfl,rfl⟩))
 all_goals
  go_ret;refine⟨ret_bool ?_,rfl⟩;rw[HB.out]
  first
   | (rw[decide_eq_true (show s.size<=16 by omega),decide_eq_true (show wordN s.data.toList=s.size by omega)];rfl)
   | (rw[decide_eq_false (show ¬ wordN s.data.toList=s.size by omega)];simp)
   | (rw[decide_eq_false (show ¬ s.size<=16 by omega)];simp)
end Go.Proofs.YtjaeedbjknejdaaGreatDoor.Lx

namespace Go.Proofs.YtjaeedbjknejdaaGreatDoor.Lx
open Go.RowKit Go.Sort Go.Lib Go.Shelf Fx
theorem drop_at (s:ByteArray)(k:Nat)(hk:k < s.size):s.data.toList.drop k=s[k]::s.data.toList.drop (k+1):=by
 have h:k < s.data.toList.length:=by rw[<-size_len];exact hk
 rw[List.drop_eq_getElem_cons h];rfl
theorem drop_end (s:ByteArray)(k:Nat)(hk:¬ k < s.size):s.data.toList.drop k=[]:=by
 rw[List.drop_eq_nil_iff,<- size_len];omega
theorem ne_facts {x k:Int}(h:x ≠ k):(x == k)=false/\(x != k)=true:=by
 have:(x == k)=false:=by rw[beq_eq_false_iff_ne];exact h
 exact⟨this,by rw[bne,this];rfl⟩
theorem eq_facts {x k:Int}(h:x=k):(x == k)=true/\(x != k)=false:=by
 have:(x == k)=true:=by rw[beq_iff_eq];exact h
 exact⟨this,by rw[bne,this];rfl⟩
end Go.Proofs.YtjaeedbjknejdaaGreatDoor.Lx

namespace Go.Proofs.YtjaeedbjknejdaaGreatDoor.Tr
open Go.RowKit Go.Sort Go.Lib Go.Shelf Fx Lx
def TwoIn (w:World)(a:Option Addr)(L:List Two):Prop :=
 ∀ k (h:k < L.length),∃ g o,a=some ⟨g,o,none⟩/\w.cell? ⟨g,o+k * 2,none⟩=some (.string L[k].1)/\w.cell? ⟨g,o+k * 2+1,none⟩=some (.string L[k].2)
theorem TwoIn.ext {w w':World}{a:Option Addr}{L:List Two}(h:TwoIn w a L)(x:Ext w w'):TwoIn w' a L:=fun k hk=>by
 obtain⟨g,o,ha,h0,h1⟩:=h k hk;exact⟨g,o,ha,x.cell h0,x.cell h1⟩
theorem TwoAt.in {n:Nat}{w:World}{a:Option Addr}{L:List Two}(h:TwoAt n w a L):TwoIn w a L:=fun k hk=>by
 obtain⟨g,o,ha,_,h0,h1⟩:=h k hk;exact⟨g,o,ha,h0,h1⟩
def hasA (l:List Two)(n:ByteArray):Bool:=l.any (fun q=>decide (q.1=n))
theorem beqs (n x:ByteArray):(n.toList == x.toList)=decide (n=x):=by
 rw[ByteArray.toList_eq,ByteArray.toList_eq,Bool.eq_iff_iff,beq_iff_eq,decide_eq_true_eq];exact⟨fun h=>ByteArray.ext (Array.toList_inj.1 h),fun h=>by rw[h]⟩
theorem closA_any (n x:ByteArray)(d:ByteArray)(c:Addr)(w:World)(hc:w.cell? c=some (.string x)):
  Calls Tryz.prog 192 #[.agg #[.string n,.string d],.pointer (some c)] w fun e w'=>e=.returned (.bool (decide (n=x)))/\Ext w w':=by
 have hc':∀ o,(w.alloc o).cell? c=some (.string x):=fun o=>((Ext.refl w).alloc o).cell hc
 go_enter Tryz.func192,Tryz.ntmps192;go_wp2;go_ret;exact⟨ret_bool (beqs n x),(Ext.refl _).alloc _⟩
theorem idxA_any (a:Option Addr)(L:List Two)(cap:Nat)(x:ByteArray)(c:Addr)(w:World)(h:TwoIn w a L)(hc:w.cell? c=some (.string x))(hL:L.length<=9223372036854775807):
  Calls Tryz.prog 238 #[.slice a L.length cap,.func (.func 192) #[] #[.pointer (some c)]] w fun e w'=>(∃ r:Int,e=.returned (.int .i64 r)/\decide (0<=r)=hasA L x)/\Ext w w':=by
 obtain⟨N,hN⟩:∃ N,N=L.length:=⟨_,rfl⟩;have HI:=hid h;rw[<-hN] at hL ⊢;have HN:=hid hN;have HC:=hid hc;clear h hN hc;go_enter Tryz.func238,Tryz.ntmps238;go_wp2_with fail
 go_loopw [8] (fun i' wr=>∃ k:Nat,k<=N/\i'=.int .i64 k/\Hid (∀ j (hj:j < L.length),j < k->L[j].1 ≠ x)/\Ext w wr) (fun i' _=>N - (RowKit.intOf i').toNat)
 case atStart=>exact⟨0,by omega,rfl,hid (fun j _ h=>absurd h (by omega)),Ext.refl _⟩
 obtain⟨k,hk,rfl,hall,hx⟩:=hrel;by_cases hlt:k < N
 ·have hkl:k < L.length:=by rw[<-HN.out];exact hlt
  obtain⟨g,o,rfl,c0,c1⟩:=(HI.out.ext hx) k hkl;obtain⟨n,hn⟩:∃ n,n=L[k].1:=⟨_,rfl⟩;obtain⟨d,hd⟩:∃ d,d=L[k].2:=⟨_,rfl⟩;rw[<-hn] at c0;rw[<-hd] at c1;have HNM:=hid hn;clear hn hd;by_cases heq:n=x
  ·have hf:Hid (hasA L x=true):=hid (by
    unfold hasA;rw[List.any_eq_true];exact⟨L[k],List.getElem_mem hkl,by rw[<-HNM.out];exact decide_eq_true heq⟩)
   have HCL:=hid (closA_any n x d c wr (hx.cell HC.out));rw[decide_eq_true heq] at HCL;clear heq hall HNM;go_wp2_with (go_at_call 192;refine HCL.out.mono ?_;rintro e w1 ⟨rfl,x1⟩);go_returns;exact⟨⟨k,rfl,by rw[hf.out];simp⟩,hx.trans x1⟩
  have hf:Hid (∀ j (hj:j < L.length),j < k+1->L[j].1 ≠ x):=hid (fun j hj h=>by
   by_cases e:j=k
   ·subst e;rw[<-HNM.out];exact heq
   exact hall.out j hj (by omega))
  have HCL:=hid (closA_any n x d c wr (hx.cell HC.out));rw[decide_eq_false heq] at HCL;clear heq hall HNM;go_wp2_with (go_at_call 192;refine HCL.out.mono ?_;rintro e w1 ⟨rfl,x1⟩)
  go_roundw
  case rel=>exact⟨k+1,by omega,by go_num,hf,hx.trans x1⟩
  case measure=>simp[RowKit.intOf];omega
 have hf:Hid (hasA L x=false):=hid (by
  unfold hasA;rw[List.any_eq_false];intro q hq;obtain⟨j,hj,rfl⟩:=List.getElem_of_mem hq
  simpa using hall.out j hj (by rw[<-HN.out] at hj;omega))
 clear hall;go_wp2;go_returns;exact⟨⟨-1,rfl,by rw[hf.out];decide⟩,hx⟩
theorem hasA_any (a:Option Addr)(L:List Two)(cap:Nat)(x:ByteArray)(c:Addr)(w:World)(h:TwoIn w a L)(hc:w.cell? c=some (.string x))(hL:L.length<=9223372036854775807):
  Calls Tryz.prog 191 #[.slice a L.length cap,.func (.func 192) #[] #[.pointer (some c)]] w fun e w'=>e=.returned (.bool (hasA L x))/\Ext w w':=by
 have H:=hid (idxA_any a L cap x c w h hc hL);clear h hc hL;go_enter Tryz.func191,Tryz.ntmps191;go_wp2_with (go_at_call 238;refine H.out.mono ?_;rintro e w1 ⟨⟨r,rfl,hr⟩,x1⟩);go_ret;exact⟨rfl,x1⟩
end Go.Proofs.YtjaeedbjknejdaaGreatDoor.Tr

namespace Go.Proofs.YtjaeedbjknejdaaGreatDoor.Tr
open Go.RowKit Go.Sort Go.Lib Go.Shelf Fx Lx
theorem info_str : (Tryz.prog.info? 9).map (fun i=>(i.zero,i.size,i.bytes))=some (some (.string ⟨#[]⟩),1,16):=by kernel_rfl
theorem atr2_cells (w:World)(k v:ByteArray):∀ w1,Ext (w.alloc (.cells #[.string k,.string v] 69)) w1 ->
  w1.cell? ⟨w.heap.size,0,none⟩=some (.string k)/\w1.cell? ⟨w.heap.size,1,none⟩=some (.string v):=fun w1 x=>by
 have hb:=heap_alloc_new w (.cells #[.string k,.string v] 69);refine⟨x.cell ?_,x.cell ?_⟩ <;> rw[Lib.cell_of_heap hb] <;> rfl
theorem own_ext' {w w':World}{B:Nat}{e:TypeId}{sz:Nat}{v:Value}{n:Nat}{xs:List Value}(h:w.ownsRow B e sz v n xs)(x:Ext w w'):w'.ownsRow B e sz v n xs:=by
 refine⟨h.1,?_⟩;rcases h.2 with h1 | ⟨g,cap,cur,hv,hb,hg,r⟩
 ·exact .inl h1
 exact .inr ⟨g,cap,cur,hv,hb,(x.block g (Array.getElem?_eq_some_iff.1 hg).1).trans hg,r⟩
theorem flat_head (lev:Nat)(L:List Stm)(k:Nat)(h:k < L.length):∃ lv,(L[k],lv) ∈ flatL lev L:=by
 induction L generalizing k with
 | nil=>exact absurd h (by simp)
 | cons x r ih =>
  rw[flatL_cons]
  match k,h with
  | 0,_=>exact⟨lev,List.mem_append_left _ (by rw[flatS_eq];exact List.mem_cons_self)⟩
  | k+1,h =>
   obtain⟨lv,hm⟩:=ih k (by simpa using h);exact⟨lv,List.mem_append_right _ hm⟩
def Formed : List Stm->Prop:=fun L=>∀ lev,∀ p ∈ flatL lev L,formB p.1=true
theorem Formed.at {L:List Stm}(h:Formed L)(k:Nat)(hk:k < L.length):formB L[k]=true:=by
 obtain⟨lv,hm⟩:=flat_head 0 L k hk;exact h 0 _ hm
theorem flat_sub (lev:Nat)(L:List Stm)(k:Nat)(h:k < L.length):∀ p,p ∈ flatL (if L[k].kind=5 then lev+1 else lev) L[k].body->p ∈ flatL lev L:=by
 induction L generalizing k with
 | nil=>exact absurd h (by simp)
 | cons x r ih =>
  intro p hp;rw[flatL_cons]
  match k,h with
  | 0,_=>exact List.mem_append_left _ (by rw[flatS_eq];exact List.mem_cons_of_mem _ hp)
  | k+1,h=>exact List.mem_append_right _ (ih k (by simpa using h) p hp)
mutual
theorem flatS_fst (a b:Nat):∀ x:Stm,(flatS a x).map Prod.fst=(flatS b x).map Prod.fst
 | .mk k n r al bd=>by rw[flatS,flatS,List.map_cons,List.map_cons,flatL_fst _ (if k=5 then b+1 else b) bd]
theorem flatL_fst (a b:Nat):∀ L:List Stm,(flatL a L).map Prod.fst=(flatL b L).map Prod.fst
 | []=>by rw[flatL,flatL]
 | x::r=>by rw[flatL,flatL,List.map_append,List.map_append,flatS_fst a b x,flatL_fst a b r]
end
theorem formed_of {L body:List Stm}{lv:Nat}(h:Formed L)(hs:∀ p,p ∈ flatL (lv+1) body->p ∈ flatL lv L):Formed body:=fun lev p hp=>by
 have h1:p.1 ∈ (flatL lev body).map Prod.fst:=List.mem_map_of_mem hp;rw[flatL_fst lev (lv+1) body] at h1;obtain⟨p',hp',e⟩:=List.mem_map.1 h1;rw[<-e];exact h lv p' (hs p' hp')
theorem first_zero : ∀ (l:List (Stm × Nat)),firstE l=0->∀ p ∈ l,stmE p=0
 | q::r,h,p,hp=>by
  rw[firstE] at h;by_cases hq:stmE q=0
  ·rw[if_neg (fun h'=>h' hq)] at h;rcases List.mem_cons.1 hp with rfl | hp
   ·exact hq
   exact first_zero r h p hp
  ·rw[if_pos hq] at h;exact absurd h hq
theorem formed_valid (nm:ByteArray)(L:List Stm)(h:validE nm L=0):Formed L:=fun lev p hp=>by
 unfold validE at h;by_cases h1:nameB nm.data.toList=false
 ·rw[if_pos h1] at h;exact absurd h (by decide)
 rw[if_neg h1] at h;by_cases h2:512 < (flatL 0 L).length
 ·rw[if_pos h2] at h;exact absurd h (by decide)
 rw[if_neg h2] at h;have h3:p.1 ∈ (flatL lev L).map Prod.fst:=List.mem_map_of_mem hp;rw[flatL_fst lev 0 L] at h3;obtain⟨p',hp',e⟩:=List.mem_map.1 h3;have h4:=first_zero _ h p' hp';unfold stmE at h4;rw[<-e];cases hf:formB p'.1
 ·rw[if_pos hf] at h4;exact absurd h4 (by decide)
 rfl
theorem tree_cells (w:World)(nm:ByteArray)(dir:Bool)(b:Option Addr)(N cap:Nat):∀ w1,Ext (w.alloc (.cells #[.string nm,.bool dir,.slice b N cap] 33)) w1->w1.cell? ⟨w.heap.size,0,none⟩=some (.string nm)/\w1.cell? ⟨w.heap.size,1,none⟩=some (.bool dir)/\w1.cell? ⟨w.heap.size,2,none⟩=some (.slice b N cap):=fun w1 x=>by
 have hb:=heap_alloc_new w (.cells #[.string nm,.bool dir,.slice b N cap] 33);refine⟨x.cell ?_,x.cell ?_,x.cell ?_⟩ <;> rw[Lib.cell_of_heap hb] <;> rfl
end Go.Proofs.YtjaeedbjknejdaaGreatDoor.Tr

namespace Go.Proofs.YtjaeedbjknejdaaGreatDoor.Tr
open Go.RowKit Go.Lib Fx Lx
structure But (c:Nat)(w w':World):Prop where
 os:w'.os=w.os
 tape:w'.tape=w.tape
 output:w'.output=w.output
 size:w.heap.size<=w'.heap.size
 block:∀ k,k < w.heap.size->k ≠ c->w'.heap[k]? = w.heap[k]?
theorem But.refl (c:Nat)(w:World):But c w w:=⟨rfl,rfl,rfl,Nat.le_refl _,fun _ _ _=>rfl⟩
theorem But.trans {c:Nat}{a b d:World}(h:But c a b)(k:But c b d):But c a d :=
 ⟨k.os.trans h.os,k.tape.trans h.tape,k.output.trans h.output,Nat.le_trans h.size k.size,fun i hi hc=>(k.block i (Nat.lt_of_lt_of_le hi h.size) hc).trans (h.block i hi hc)⟩
theorem But.of {c:Nat}{a b:World}(h:Ext a b):But c a b:=⟨h.os,h.tape,h.output,h.size,fun k hk _=>h.block k hk⟩
theorem But.ext {c:Nat}{a b d:World}(h:But c a b)(k:Ext b d):But c a d:=h.trans (But.of k)
theorem But.alloc {c:Nat}{a b:World}(h:But c a b)(o:Obj):But c a (b.alloc o):=h.ext ((Ext.refl _).alloc o)
theorem But.setCell {c:Nat}{a b:World}(h:But c a b)(p:Addr)(hp:p.block=c)(u:Value):But c a (b.setCell p u) :=
 ⟨h.os,h.tape,h.output,by have:=h.size;simpa [World.setCell] using this,fun k hk hc=>(Below.heap_setCell _ _ _ _ (by omega)).trans (h.block k hk hc)⟩
theorem But.cell {c:Nat}{a b:World}(h:But c a b){p:Addr}{v:Value}(hc:p.block ≠ c)(hv:a.cell? p=some v):b.cell? p=some v:=by
 have hb:p.block < a.heap.size:=World.block_lt_of_cell? _ _ hv;rw[World.cell?_of_block (w:=a) (h.block _ hb hc)];exact hv
theorem But.below {c:Nat}{a b:World}(h:But c a b){n:Nat}(hn:n<=c)(hs:n<=a.heap.size):Below n a b :=
 ⟨h.os,h.tape,h.output,h.size,fun k hk=>h.block k (by omega) (by omega)⟩
theorem But.fresh {w a b:World}{c:Nat}(x:Ext w a)(h:But c a b)(hc:w.heap.size<=c):Ext w b :=
 Below.trans x (h.below hc x.size)
theorem setOne {w:World}{B:Nat}{cs:Array Value}{T:TypeId}(h:w.heap[B]? = some (.cells cs T (0,0)))(i:Nat)(v:Value):
  (w.setCell ⟨B,i,none⟩ v).heap[B]? = some (.cells (cs.setIfInBounds i v) T (0,0)):=by
 unfold World.setCell;simp[Array.getElem?_modify,h]
def runA (step:Int->Stm × Nat->Int × Bool)(acc:Int):List (Stm × Nat)->Int × Bool
 | []=>(acc,true)
 | p::r=>if(step acc p).2=true then runA step (step acc p).1 r else ((step acc p).1,false)
theorem runA_app (step:Int->Stm × Nat->Int × Bool):∀ (acc:Int) (l m:List (Stm × Nat)),runA step acc (l++m)=if(runA step acc l).2=true then runA step (runA step acc l).1 m else runA step acc l
 | acc,[],m=>by simp[runA]
 | acc,p::r,m=>by
  rw[List.cons_append,runA,runA];by_cases h:(step acc p).2=true
  ·rw[if_pos h,if_pos h,runA_app step _ r m]
  ·rw[if_neg h,if_neg h,if_neg (by simp)]
def stepC (acc:Int)(_:Stm × Nat):Int × Bool:=(wrap64 (acc+1),true)
def stepV (_:Int)(p:Stm × Nat):Int × Bool:=(stmE p,decide (stmE p=0))
theorem runC_len : ∀ (l:List (Stm × Nat)) (acc:Int),0<=acc->acc+l.length < 9223372036854775808->runA stepC acc l=(acc+l.length,true)
 | [],acc,_,_=>by simp[runA]
 | p::r,acc,h,h2=>by
  rw[List.length_cons] at h2 ⊢;have e:(stepC acc p)=(acc+1,true):=by unfold stepC wrap64;rw[show(acc+1+9223372036854775808) % 18446744073709551616 - 9223372036854775808=acc+1 by omega]
  rw[runA,e,if_pos rfl,runC_len r (acc+1) (by omega) (by push_cast at h2 ⊢;omega)]
  push_cast
  rw[show acc+1+(r.length:Int)=acc+((r.length:Int)+1) by omega]
theorem runV_first : ∀ (l:List (Stm × Nat)),(runA stepV 0 l).1=firstE l
 | []=>rfl
 | p::r=>by
  rw[runA,firstE,stepV];by_cases h:stmE p=0
  ·rw[if_pos (decide_eq_true h),if_neg (fun h'=>h' h),h];exact runV_first r
  ·rw[if_neg (by simpa using h),if_pos h]
end Go.Proofs.YtjaeedbjknejdaaGreatDoor.Tr

namespace Go.Proofs.YtjaeedbjknejdaaGreatDoor.Pa
open Go.RowKit Go.Sort Go.Lib Go.Shelf Fx Lx Tr
theorem own_but {c:Nat}{w w':World}{B:Nat}{e:TypeId}{sz:Nat}{v:Value}{n:Nat}{xs:List Value}(h:w.ownsRow B e sz v n xs)(x:But c w w')(hB:c < B):w'.ownsRow B e sz v n xs:=by
 refine⟨h.1,?_⟩;rcases h.2 with h1 | ⟨g,cap,cur,hv,hb,hg,r⟩
 ·exact .inl h1
 exact .inr ⟨g,cap,cur,hv,hb,(x.block g (Array.getElem?_eq_some_iff.1 hg).1 (by omega)).trans hg,r⟩
def TwoP (ok:Nat->Prop)(w:World)(a:Option Addr)(L:List Two):Prop :=
 ∀ k (h:k < L.length),∃ g o,a=some ⟨g,o,none⟩/\ok g/\w.cell? ⟨g,o+k * 2,none⟩=some (.string L[k].1)/\w.cell? ⟨g,o+k * 2+1,none⟩=some (.string L[k].2)
def Kept (ok:Nat->Prop)(w w':World):Prop:=∀ g,ok g->g < w.heap.size->w'.heap[g]? = w.heap[g]?
theorem Kept.cell {ok:Nat->Prop}{w w':World}(h:Kept ok w w'){p:Addr}{v:Value}(hp:ok p.block)(hv:w.cell? p=some v):w'.cell? p=some v:=by
 rw[World.cell?_of_block (w:=w) (h _ hp (World.block_lt_of_cell? _ _ hv))];exact hv
theorem TwoP.keep {ok ok':Nat->Prop}{w w':World}{a:Option Addr}{L:List Two}(h:TwoP ok w a L)(k:Kept ok w w')(ho:∀ g,ok g->g < w.heap.size->ok' g):TwoP ok' w' a L:=fun i hi=>by
 obtain⟨g,o,ha,hg,h0,h1⟩:=h i hi;exact⟨g,o,ha,ho g hg (World.block_lt_of_cell? _ ⟨g,_,none⟩ h0),k.cell (p:=⟨g,_,none⟩) hg h0,k.cell (p:=⟨g,_,none⟩) hg h1⟩
theorem TwoP.at {ok:Nat->Prop}{w:World}{a:Option Addr}{L:List Two}{n:Nat}(h:TwoP ok w a L)(ho:∀ g,ok g->g < n):TwoAt n w a L:=fun i hi=>by
 obtain⟨g,o,ha,hg,h0,h1⟩:=h i hi;exact⟨g,o,ha,ho g hg,h0,h1⟩
def twosC (L:List Two):List Value:=L.flatMap fun q=>[.string q.1,.string q.2]
theorem twosC_snoc (L:List Two)(q:Two):twosC (L++[q])=twosC L++[.string q.1,.string q.2]:=by unfold twosC;simp
theorem twosC_at : ∀ (L:List Two) (k:Nat) (h:k < L.length),(twosC L)[k * 2]? = some (.string L[k].1)/\(twosC L)[k * 2+1]? = some (.string L[k].2)
 | [],k,h=>absurd h (by simp)
 | q::L,0,_=>⟨rfl,rfl⟩
 | q::L,k+1,h=>by
  have ih:=twosC_at L k (by simpa using h);have e:twosC (q::L)=.string q.1::.string q.2::twosC L:=rfl;rw[e,show(k+1) * 2=k * 2+1+1 by omega]
  simpa using ih
def TwoV (ok:Nat->Prop)(L:List Two)(u:Value)(w:World):Prop:=∃ a cap,u=.slice a L.length cap/\TwoP ok w a L/\L.length<=cap/\cap<=maxLen
theorem add_at (g j:Nat):(⟨g,0,none⟩:Addr).add j=⟨g,j,none⟩:=by simp[Addr.add];exact fun h=>h.symm
theorem own_two {w:World}{B:Nat}{e:TypeId}{v:Value}{L:List Two}(h:w.ownsRow B e 2 v L.length (twosC L)):TwoV (B <= ·) L v w:=by
 rcases h.2 with⟨h1,h2⟩ | ⟨g,cap,cur,hv,hb,hg,hn,hc,_⟩
 ·exact⟨none,0,by rw[h1,h2],fun k hk=>absurd hk (by omega),by omega,by omega⟩
 refine⟨_,cap,hv,fun k hk=>⟨g,0,rfl,hb,?_,?_⟩,hn,hc⟩
 ·have:=h.cells (g:=g) (by rw[hv];rfl) _ _ (twosC_at L k hk).1;rw[add_at] at this;rw[Nat.zero_add];exact this
 have:=h.cells (g:=g) (by rw[hv];rfl) _ _ (twosC_at L k hk).2;rw[add_at] at this;rw[Nat.zero_add];exact this
mutual
def StmP (ok:Nat->Prop)(w:World):Stm->List Value->Prop
 | .mk k nm rs al body,xs=>∃ r rc a ac b bc,xs=[.int .i64 k,.string nm,.slice r rs.length rc,.slice a al.length ac,.slice b body.length bc] /\
   TwoP ok w r rs/\TwoP ok w a al/\StmsP ok w b body/\rs.length<=rc/\al.length<=ac/\rc<=maxLen/\ac<=maxLen/\body.length<=maxLen
def StmsP (ok:Nat->Prop)(w:World)(b:Option Addr):List Stm->Prop
 | []=>True
 | x::r=>∃ g o xs,b=some ⟨g,o,none⟩/\ok g/\(∀ j u,xs[j]? = some u->w.cell? ⟨g,o+j,none⟩=some u)/\StmP ok w x xs/\StmsP ok w (some ⟨g,o+5,none⟩) r
end
theorem stmP_mk (ok : Nat -> Prop) (w : World) (s : Stm) (xs : List Value) : StmP ok w s xs ↔ ∃ r rc a ac b bc, xs = [.int .i64 s.kind, .string s.name, .slice r s.refs.length rc, .slice a s.attrs.length ac, .slice b s.body.length bc] /\
      TwoP ok w r s.refs/\TwoP ok w a s.attrs/\StmsP ok w b s.body/\s.refs.length<=rc/\s.attrs.length<=ac/\rc<=maxLen/\ac<=maxLen/\s.body.length<=maxLen:=by
  cases s;rw[StmP];rfl
mutual
theorem StmP.keep {ok ok':Nat->Prop}{w w':World}(k:Kept ok w w')(ho:∀ g,ok g->g < w.heap.size->ok' g):∀ (s:Stm) (xs:List Value),StmP ok w s xs->StmP ok' w' s xs
 | .mk kd nm rs al body,xs,h=>by
  rw[StmP] at h ⊢;obtain⟨r,rc,a,ac,b,bc,hx,hr,ha,hb,hl⟩:=h;exact⟨r,rc,a,ac,b,bc,hx,hr.keep k ho,ha.keep k ho,StmsP.keep k ho body b hb,hl⟩
theorem StmsP.keep {ok ok':Nat->Prop}{w w':World}(k:Kept ok w w')(ho:∀ g,ok g->g < w.heap.size->ok' g):∀ (L:List Stm) (b:Option Addr),StmsP ok w b L->StmsP ok' w' b L
 | [],_,_=>by rw[StmsP];trivial
 | s::L,b,h=>by
  rw[StmsP] at h ⊢;obtain⟨g,o,xs,hb,hg,hc,hs,hr⟩:=h
  have h0:∃ u,xs[0]? = some u:=by
   obtain⟨r,rc,a,ac,b,bc,hx,_⟩:=(stmP_mk ok w s xs).1 hs;exact⟨_,by rw[hx];rfl⟩
  obtain⟨u,hu⟩:=h0;exact⟨g,o,xs,hb,ho g hg (World.block_lt_of_cell? _ ⟨g,_,none⟩ (hc 0 u hu)),fun j u hj=>k.cell (p:=⟨g,_,none⟩) hg (hc j u hj),StmP.keep k ho s xs hs,StmsP.keep k ho L _ hr⟩
end
mutual
theorem StmP.at {ok:Nat->Prop}{w:World}{n:Nat}(ho:∀ g,ok g->g < n):∀ (s:Stm) (xs:List Value) (g o:Nat),StmP ok w s xs->(∀ j u,xs[j]? = some u->w.cell? ⟨g,o+j,none⟩=some u)->StmAt n w g o s
 | .mk kd nm rs al body,xs,g,o,h,hc=>by
  rw[StmP] at h;rw[StmAt];obtain⟨r,rc,a,ac,b,bc,hx,hr,ha,hb,hl⟩:=h;subst hx;exact⟨r,rc,a,ac,b,bc,hc 0 _ rfl,hc 1 _ rfl,hc 2 _ rfl,hc 3 _ rfl,hc 4 _ rfl,hr.at ho,ha.at ho,StmsP.at ho body b hb,hl⟩
theorem StmsP.at {ok:Nat->Prop}{w:World}{n:Nat}(ho:∀ g,ok g->g < n):∀ (L:List Stm) (b:Option Addr),StmsP ok w b L->StmsAt n w b L
 | [],_,_=>by rw[StmsAt];trivial
 | s::L,b,h=>by
  rw[StmsP] at h;rw[StmsAt];obtain⟨g,o,xs,hb,hg,hc,hs,hr⟩:=h;exact⟨g,o,hb,ho g hg,StmP.at ho s xs g o hs hc,StmsP.at ho L _ hr⟩
end
def StmsC (ok:Nat->Prop)(w:World):List Stm->List Value->Prop
 | [],X=>X=[]
 | s::L,X=>∃ xs Y,X=xs++Y/\xs.length=5/\StmP ok w s xs/\StmsC ok w L Y
theorem StmsC.snoc {ok:Nat->Prop}{w:World}{s:Stm}{xs:List Value}(hs:StmP ok w s xs)(hl:xs.length=5):∀ (L:List Stm) (X:List Value),StmsC ok w L X->StmsC ok w (L++[s]) (X++xs)
 | [],X,h=>by
  have h:X=[]:=h;subst h;exact⟨xs,[],by simp,hl,hs,rfl⟩
 | t::L,X,h=>by
  obtain⟨ys,Y,hX,h5,ht,hr⟩:=h;exact⟨ys,Y++xs,by rw[hX,List.append_assoc],h5,ht,StmsC.snoc hs hl L Y hr⟩
theorem StmsC.keep {ok ok':Nat->Prop}{w w':World}(k:Kept ok w w')(ho:∀ g,ok g->g < w.heap.size->ok' g):∀ (L:List Stm) (X:List Value),StmsC ok w L X->StmsC ok' w' L X
 | [],_,h=>h
 | s::L,X,h=>by
  obtain⟨xs,Y,hX,hl,hs,hr⟩:=h;exact⟨xs,Y,hX,hl,StmP.keep k ho s xs hs,StmsC.keep k ho L Y hr⟩
theorem StmsC.at {ok:Nat->Prop}{w:World}{g:Nat}(hg:ok g):∀ (L:List Stm) (X:List Value) (o:Nat),StmsC ok w L X->(∀ j u,X[j]? = some u->w.cell? ⟨g,o+j,none⟩=some u)->StmsP ok w (some ⟨g,o,none⟩) L
 | [],_,_,_,_=>by rw[StmsP];trivial
 | s::L,X,o,h,hc=>by
  obtain⟨xs,Y,hX,hl,hs,hr⟩:=h;rw[StmsP];refine⟨g,o,xs,rfl,hg,fun j u hj=>hc j u ?_,hs,StmsC.at hg L Y (o+5) hr fun j u hj=>?_⟩
  ·rw[hX,List.getElem?_append_left (List.getElem?_eq_some_iff.1 hj).1];exact hj
  ·have:=hc (5+j) u (by rw[hX,List.getElem?_append_right (by omega),hl,Nat.add_sub_cancel_left];exact hj);rw[Nat.add_assoc];exact this
def StmsV (ok:Nat->Prop)(L:List Stm)(u:Value)(w:World):Prop:=∃ b cap,u=.slice b L.length cap/\StmsP ok w b L/\L.length<=cap/\cap<=maxLen
theorem own_stms {w:World}{B:Nat}{e:TypeId}{v:Value}{L:List Stm}{X:List Value}{ok ok':Nat->Prop}(h:w.ownsRow B e 5 v L.length X)(hc:StmsC ok w L X)(ho:∀ g,ok g->ok' g)(hB:∀ g,B<=g->ok' g):StmsV ok' L v w:=by
 rcases h.2 with⟨h1,h2⟩ | ⟨g,cap,cur,hv,hb,hg,hn,hcap,_⟩
 ·have hL:L=[]:=List.eq_nil_of_length_eq_zero h2;subst hL;exact⟨none,0,by rw[h1];rfl,by rw[StmsP];trivial,by simp,by simp⟩
 refine⟨_,cap,hv,StmsC.at (hB g hb) L X 0 (StmsC.keep (fun _ _ _=>rfl) (fun g h _=>ho g h) L X hc) fun j u hj=>?_,hn,hcap⟩;have:=h.cells (g:=g) (by rw[hv];rfl) j u hj;rw[add_at] at this;rw[Nat.zero_add];exact this
def StmV (ok:Nat->Prop)(s:Stm)(u:Value)(w:World):Prop:=∃ xs,u=.agg xs.toArray/\StmP ok w s xs
end Go.Proofs.YtjaeedbjknejdaaGreatDoor.Pa
