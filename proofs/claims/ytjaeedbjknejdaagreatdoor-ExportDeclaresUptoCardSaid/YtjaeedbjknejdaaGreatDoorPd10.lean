/- Packed texts: AttName7, AttPortsR, AttChkR, AttChkL -/
import Derived.Test.YtjaeedbjknejdaaGreatDoorPd09
set_option linter.unusedVariables false
set_option linter.unusedSimpArgs false
set_option maxHeartbeats 16000000
set_option maxRecDepth 100000
namespace Go.Proofs.YtjaeedbjknejdaaGreatDoor.At
open Go.RowKit Go.Sort Go.Lib Go.Shelf Fx Lx
theorem kw_false (s:ByteArray)(h:kw s.data.toList=false):(s.toList == [100,105,103,114,97,112,104])=false/\(s.toList == [103,114,97,112,104])=false/\(s.toList == [110,111,100,101])=false/\(s.toList == [101,100,103,101])=false/\(s.toList == [115,101,116])=false/\(s.toList == [99,108,117,115,116,101,114])=false:=by
 rw[ByteArray.toList_eq];unfold kw at h;simp only[Bool.or_eq_false_iff] at h;obtain⟨⟨⟨⟨⟨h1,h2⟩,h3⟩,h4⟩,h5⟩,h6⟩:=h;exact⟨h1,h2,h3,h4,h5,h6⟩
theorem kw_true (s:ByteArray)(h:kw s.data.toList=true):s=⟨#[100,105,103,114,97,112,104]⟩\/s=⟨#[103,114,97,112,104]⟩\/s=⟨#[110,111,100,101]⟩\/s=⟨#[101,100,103,101]⟩\/s=⟨#[115,101,116]⟩\/s=⟨#[99,108,117,115,116,101,114]⟩:=by
 have e:∀ l:List UInt8,s.data.toList=l->s=⟨l.toArray⟩:=fun l h=>by
  apply ByteArray.ext;apply Array.toList_inj.1;rw[h]
 unfold kw at h;simp only[Bool.or_eq_true,beq_iff_eq] at h;rcases h with((((h | h) | h) | h) | h) | h
 ·exact .inl (e _ h)
 ·exact .inr (.inl (e _ h))
 ·exact .inr (.inr (.inl (e _ h)))
 ·exact .inr (.inr (.inr (.inl (e _ h))))
 ·exact .inr (.inr (.inr (.inr (.inl (e _ h)))))
 exact .inr (.inr (.inr (.inr (.inr (e _ h)))))
theorem byte_ways (b:UInt8):(isL b=true/\(97<=b.toNat/\b.toNat<=122\/65<=b.toNat/\b.toNat<=90\/b.toNat=95))\/(isL b=false/\isD b=true/\48<=b.toNat/\b.toNat<=57) \/
  (isL b=false/\isD b=false/\(b.toNat<=47\/58<=b.toNat/\b.toNat<=64\/91<=b.toNat/\b.toNat<=94\/b.toNat=96\/123<=b.toNat)):=by
 cases h1:isL b
 ·cases h2:isD b
  ·refine .inr (.inr ⟨rfl,rfl,?_⟩);unfold isL at h1;unfold isD at h2;simp only[Bool.or_eq_false_iff,decide_eq_false_iff_not] at h1 h2;omega
  refine .inr (.inl ⟨rfl,rfl,?_⟩);unfold isD at h2
  simpa using h2
 refine .inl ⟨rfl,?_⟩;unfold isL at h1;simp only[Bool.or_eq_true,decide_eq_true_eq] at h1;omega
theorem name07_any (s:ByteArray)(hs:s.size<=9223372036854775807)(w:World):
  Calls Tryz.prog 39 #[.string s] w fun e w'=>e=.returned (.bool (nameB s.data.toList))/\w=w':=by
 rcases Nat.eq_zero_or_pos s.size with h0 | h0
 ·obtain⟨e1,e2,e3⟩:=tl_nil s h0;rw[e3];go_enter Tryz.func39,Tryz.ntmps39;go_wp2;go_returns;exact⟨rfl,rfl⟩
 by_cases h16:16 < s.size
 ·have hf:nameB s.data.toList=false:=by unfold nameB;rw[decide_eq_false (by rw[<-size_len];omega)];simp
  rw[hf];go_enter Tryz.func39,Tryz.ntmps39;go_wp2;go_returns;exact⟨rfl,rfl⟩
 cases hk:kw s.data.toList
 ·obtain⟨k1,k2,k3,k4,k5,k6⟩:=kw_false s hk
  have hB:nameB s.data.toList=decide (wordN s.data.toList=s.size):=by
   unfold nameB;rw[hk,<- size_len,decide_eq_true (by omega:s.size<=16)];cases hl:s.data.toList with
   | nil=>have h:=size_len s;rw[hl] at h;have h:s.size=0:=h;omega
   | cons a r=>simp
  rw[hB];clear hB hk;obtain⟨N,hN⟩:∃ N,N=wordN s.data.toList:=⟨_,rfl⟩;have HN:Hid (N=scan (okW s.data.toList) (s.size - 0) 0):=hid (by rw[hN];unfold wordN;rw[<-size_len];rfl);rw[<-hN];clear hN;have HK:=hid (And.intro k1 (And.intro k2 (And.intro k3 (And.intro k4 (And.intro k5 k6)))));go_enter Tryz.func39,Tryz.ntmps39;go_wp2_with fail;clear k1 k2 k3 k4 k5 k6 HK
  go_loop [3] (fun n=>∃ k:Nat,k<=s.size/\Hid (N=scan (okW s.data.toList) (s.size - k) k)/\n=.int .i64 k) (fun n=>s.size - (RowKit.intOf n).toNat)
  case atStart=>exact⟨0,by omega,HN,rfl⟩
  obtain⟨k,hk,ha,rfl⟩:=hrel;clear HN;by_cases hlt:k < s.size
  ·have hst:=ha.out;rw[scan_step _ _ _ hlt] at hst;have hok:okW s.data.toList k=(isL s[k] || (decide (0 < k) && isD s[k])):=by unfold okW;rw[bt_at s k hlt]
   rw[hok] at hst;have HS:=hid hst;clear hst hok ha;rcases byte_ways s[k] with⟨c1,hb⟩ | ⟨c1,c2,hb1,hb2⟩ | ⟨c1,c2,hb⟩
   ·have HF:Hid (N=scan (okW s.data.toList) (s.size - (k+1)) (k+1)):=hid (by rw[HS.out,c1];rfl);clear HS c1;rcases hb with⟨hb1,hb2⟩ | ⟨hb1,hb2⟩ | hb1
    all_goals
     go_wp2
     go_round
     case rel=>exact⟨k+1,by omega,HF,by go_num⟩
     case measure=>simp[RowKit.intOf];omega
   ·obtain⟨f9,_⟩:=ne_facts (x:=(s[k].toNat:Int)) (k:=95) (by omega);by_cases hk0:0 < k
    ·have HF:Hid (N=scan (okW s.data.toList) (s.size - (k+1)) (k+1)):=hid (by rw[HS.out,c1,c2];simp[hk0]);clear HS c1 c2;obtain⟨f0,_⟩:=ne_facts (x:=(k:Int)) (k:=0) (by omega);go_wp2
     go_round
     case rel=>exact⟨k+1,by omega,HF,by go_num⟩
     case measure=>simp[RowKit.intOf];omega
    have HF:Hid (N=k):=hid (by rw[HS.out,c1];simp[hk0]);clear HS c1 c2;obtain⟨f0,_⟩:=eq_facts (x:=(k:Int)) (k:=0) (by omega);clear hk0;go_wp2;go_ret;exact⟨ret_bool (by rw[HF.out,decide_eq_false (by omega)]),rfl⟩
   have HF:Hid (N=k):=hid (by rw[HS.out,c1,c2];simp);clear HS c1 c2;by_cases hk0:0 < k
   ·obtain⟨f0,_⟩:=ne_facts (x:=(k:Int)) (k:=0) (by omega);rcases hb with hb1 | ⟨hb1,hb2⟩ | ⟨hb1,hb2⟩ | hb1 | hb1
    all_goals
     try have g122:decide ((s[k].toNat:Int)<=122)=false:=decide_eq_false (by omega)
     try have g90:decide ((s[k].toNat:Int)<=90)=false:=decide_eq_false (by omega)
     obtain⟨f9,_⟩:=ne_facts (x:=(s[k].toNat:Int)) (k:=95) (by omega);go_wp2;go_ret;exact⟨ret_bool (by rw[HF.out,decide_eq_false (by omega)]),rfl⟩
   obtain⟨f0,_⟩:=eq_facts (x:=(k:Int)) (k:=0) (by omega);clear hk0;rcases hb with hb1 | ⟨hb1,hb2⟩ | ⟨hb1,hb2⟩ | hb1 | hb1
   all_goals
    try have g122:decide ((s[k].toNat:Int)<=122)=false:=decide_eq_false (by omega)
    try have g90:decide ((s[k].toNat:Int)<=90)=false:=decide_eq_false (by omega)
    obtain⟨f9,_⟩:=ne_facts (x:=(s[k].toNat:Int)) (k:=95) (by omega);go_wp2;go_ret;exact⟨ret_bool (by rw[HF.out,decide_eq_false (by omega)]),rfl⟩
  have HF:Hid (N=k):=hid (by rw[ha.out,show s.size - k=0 by omega];rfl);clear ha;go_wp2;go_ret;exact⟨ret_bool (by rw[HF.out,decide_eq_true (by omega)]),rfl⟩
 have hf:nameB s.data.toList=false:=by unfold nameB;rw[hk];simp
 rw[hf];have hkt:=kw_true s hk;clear hf hk hs h0 h16;rcases hkt with rfl | rfl | rfl | rfl | rfl | rfl
 all_goals
  go_enter Tryz.func39,Tryz.ntmps39;go_wp2;go_returns;exact⟨rfl,rfl⟩
end Go.Proofs.YtjaeedbjknejdaaGreatDoor.At

namespace Go.Proofs.YtjaeedbjknejdaaGreatDoor.At
open Go.RowKit Go.Sort Go.Lib Go.Shelf Fx Lx
theorem occ1 (l:List UInt8)(i:Nat)(h:i < l.length):Lib.occAt l [32] i=decide (bt l i=32):=by
 rw[Lib.occAt_iff_take l [32] i (by simp;omega)]
 have e:(l.drop i).take ([32]:List UInt8).length=[l[i]]:=by
  rw[List.drop_eq_getElem_cons h];rfl
 rw[e];unfold bt;rw[List.getElem?_eq_getElem h];rw[Bool.eq_iff_iff,beq_iff_eq,decide_eq_true_eq];exact⟨fun h=>by injection h with h1,fun h=>by rw[show l[i]=32 from h]⟩
theorem gap_hit (p:ByteArray)(k:Nat)(hk:k < p.size)(hn:Lib.NoOcc p.data.toList [32] k)(hb:p[k].toNat=32):gapN p=k:=by
 refine Lib.index_hit hn (by rw[<-size_len];omega) ?_;rw[occ1 _ _ (by rw[<-size_len];exact hk),bt_at p k hk];exact decide_eq_true (UInt8.toNat_inj.1 hb)
theorem gap_next (p:ByteArray)(k:Nat)(hk:k < p.size)(hn:Lib.NoOcc p.data.toList [32] k)(hb:p[k].toNat ≠ 32):Lib.NoOcc p.data.toList [32] (k+1):=by
 refine Lib.NoOcc.succ hn ?_;rw[occ1 _ _ (by rw[<-size_len];exact hk),bt_at p k hk];exact decide_eq_false (fun e=>hb (by rw[e];rfl))
theorem gap_miss (p:ByteArray)(hn:Lib.NoOcc p.data.toList [32] p.size):gapN p < 0:=by
 have:gapN p = -1:=Lib.index_past (i:=p.size) (by decide) hn (by rw[<-size_len];simp);omega
theorem portsGo_cons (p:ByteArray)(r:List ByteArray)(out:List Prt):portsGo (p::r) out =
  if gapN p < 0 then ([],4)
  else if sideN (wdOf p) < 0 then ([],4)
  else if nameB (nmOf p).data.toList=false then ([],5)
  else if hasN out (nmOf p)=true then ([],6)
  else if out.length=8 then ([],2)
  else portsGo r (out++[(nmOf p,sideN (wdOf p))]):=rfl
theorem own_cell {w:World}{B g c:Nat}{L:List Prt}(h:w.ownsRow B 167 2 (.slice (some ⟨g,0,none⟩) L.length c) L.length (prtsC L))(j:Nat)(hj:j < L.length):w.cell? ⟨g,j * 2,none⟩=some (.string L[j].1):=by
 have hc:=h.cells (g:=g) rfl _ _ (prtsC_at L j hj).1;rw[add_at,Nat.zero_add] at hc;exact hc
theorem own_strs {w:World}{B:Nat}{v:Value}{L:List ByteArray}(h:w.ownsRow B 9 1 v L.length (L.map Value.string))(h0:0 < L.length):
  ∃ g c,v=.slice (some ⟨g,0,none⟩) L.length c/\B<=g/\g < w.heap.size/\∀ k (hk:k < L.length),w.cell? ⟨g,k,none⟩=some (.string L[k]):=by
 obtain⟨g,c,rfl,h1,h2⟩:=h.form h0;refine⟨g,c,rfl,h1,h2,fun k hk=>?_⟩;have hc:=h.cells (g:=g) rfl k (.string L[k]) (by rw[List.getElem?_map,List.getElem?_eq_getElem hk];rfl);rw[add_at,Nat.zero_add] at hc;exact hc
theorem parts_pos (s:ByteArray):0 < (parts s).length:=by
 have hl:(parts s).length=Lib.countB s comma+1:=Lib.splitB_all comma (by decide) 0 _ s rfl;omega
theorem parts_le (s:ByteArray):(parts s).length<=s.size+1:=by
 have:=Lib.splitB_length_le comma 0 (Lib.countB s comma) s;have h2:=Lib.countB_le comma (by decide) s.size s (Nat.le_refl _);unfold parts;omega
theorem portsR_any (s:ByteArray)(w:World)(hs:s.size < 4294967281):
  Calls Tryz.prog 154 #[.string s] w fun e w'=>PrtRes w.heap.size (portsV s) e w'/\Ext w w':=by
 have ho0:(w.alloc (.cells #[] 167)).ownsRow w.heap.size 167 2 (.slice (some ⟨w.heap.size,0,none⟩) 0 0) 0 []:=World.ownsRow_made w #[] 0 (Nat.le_refl _) (by unfold maxLen;omega) rfl;have hx0:Ext w (w.alloc (.cells #[] 167)):=(Ext.refl _).alloc _;rcases Nat.eq_zero_or_pos s.size with h0 | h0
 ·obtain⟨e1,e2,e3⟩:=tl_nil s h0;have hr:portsV s=([],0):=by unfold portsV;rw[if_pos h0]
  rw[hr];have HO:=hid ho0;clear ho0;go_enter Tryz.func154,Tryz.ntmps154;go_wp2;go_returns;exact⟨⟨_,rfl,HO.out⟩,hx0⟩
 obtain⟨e1,e2,e3⟩:=tl_cons s h0;have hr:portsV s=portsGo ((parts s).drop 0) []:=by unfold portsV;rw[if_neg (by omega)];rfl
 obtain⟨R,hR⟩:∃ R,R=portsV s:=⟨_,rfl⟩;rw[<-hR] at hr ⊢;have hsp:=splitR_any s (w.alloc (.cells #[] 167)) (by omega);have hsm:=split_small comma (Lib.countB s comma) s;have hpl:=parts_le s;have hpp:=parts_pos s;obtain⟨L,hL⟩:∃ L,L=parts s:=⟨_,rfl⟩;rw[show Lib.splitB comma 0 (Lib.countB s comma) s=parts s from rfl] at hsm;rw[<-hL] at hr hsp hsm hpl hpp;obtain⟨N,hN⟩:∃ N,N=L.length:=⟨_,rfl⟩;rw[<-hN] at hpl;have HR:=hid hr;have HSM:=hid hsm;have HN:=hid hN;have HSP:=hid hsp;have HPP:=hid hpp;clear hr hR hL hsm hN hsp hpp;have HO:=hid ho0;clear ho0;obtain⟨i0,hi,hz0,hz1,hz2⟩:=info_parts info_prt;go_enter Tryz.func154,Tryz.ntmps154;go_wp2_with fail;refine HSP.out.mono ?_;rintro e w0 ⟨⟨lv,rfl,hlo⟩,xs⟩;obtain⟨gl,lc,rfl,hg0,hg1,hcl⟩:=own_strs hlo HPP.out;rw[World.size_alloc] at hg0;rw[<-HN.out]
 have hxw0:=hx0.trans xs;have ho1:=own_ext HO.out xs;have HCL:=hid hcl;have HO1:=hid ho1;clear hlo hcl ho1 HSP HPP HO;go_wp2_with fail
 go_loopw [4,6] (fun out i' wr=>∃ (k:Nat) (O:List Prt) (go oc:Nat),k<=N/\i'=.int .i64 k/\out=.slice (some ⟨go,0,none⟩) O.length oc/\wr.ownsRow w.heap.size 167 2 (.slice (some ⟨go,0,none⟩) O.length oc) O.length (prtsC O)/\go ≠ gl/\gl < wr.heap.size/\Hid (∀ k (hk:k < L.length),wr.cell? ⟨gl,k,none⟩=some (.string L[k]))/\Ext w wr/\Hid (R=portsGo (L.drop k) O)/\O.length<=8)
  (fun _ i' _=>N - (RowKit.intOf i').toNat)
 case atStart=>exact⟨0,[],w.heap.size,0,by omega,rfl,rfl,HO1.out,by omega,hg1,HCL,hxw0,HR,by simp⟩
 obtain⟨k,O,go,oc,hk,rfl,rfl,hown,hgn,hgl,hcl,hx,ha,hol⟩:=hrel;clear HR HCL HO1 hxw0 xs hg1;have hxs:=hx.size;by_cases hp:k < N
 ·have hkl:k < L.length:=by rw[<-HN.out];exact hp
  have c0:=hcl.out k hkl;have hst:=ha.out;rw[List.drop_eq_getElem_cons hkl] at hst;have hps:=HSM.out _ (List.getElem_mem hkl);obtain⟨p,hpe⟩:∃ p,p=L[k]:=⟨_,rfl⟩;rw[<-hpe] at hst c0 hps;have hw:=hid (portsGo_ways p _ O R hst);have HST:=hid hst;clear hst ha hpe;obtain⟨wo,rfl⟩:∃ wo:World,wo=wr:=⟨_,rfl⟩;go_wp2_with fail
  go_loop [8,9] (fun gp k'=>∃ j:Nat,j<=p.size/\k'=.int .i64 j/\((gp=.int .i64 (-1)/\Hid (Lib.NoOcc p.data.toList [32] j))\/(∃ g:Nat,gp=.int .i64 g/\g < p.size/\Hid (gapN p=g)))) (fun _ k'=>p.size - (RowKit.intOf k').toNat)
  case atStart=>exact⟨0,by omega,rfl,.inl ⟨rfl,hid (Lib.NoOcc.zero _ _)⟩⟩
  obtain⟨j,hj,rfl,hd⟩:=hrel;by_cases hlt:j < p.size
  ·by_cases hb:p[j].toNat=32
   ·obtain⟨f1,_⟩:=eq_facts (x:=(p[j].toNat:Int)) (k:=32) (by omega);rcases hd with⟨rfl,hno⟩ | ⟨g,rfl,hgp,hg⟩
    ·have hf:=hid (gap_hit p j hlt hno.out hb);clear hno hb;go_wp2
     go_round
     case rel=>exact⟨j+1,by omega,by go_num,.inr ⟨j,rfl,hlt,hf⟩⟩
     case measure=>simp[RowKit.intOf];omega
    have g1:decide ((g:Int) < 0)=false:=decide_eq_false (by omega);clear hb;go_wp2
    go_round
    case rel=>exact⟨j+1,by omega,by go_num,.inr ⟨g,rfl,hgp,hg⟩⟩
    case measure=>simp[RowKit.intOf];omega
   obtain⟨f1,_⟩:=ne_facts (x:=(p[j].toNat:Int)) (k:=32) (by omega);rcases hd with⟨rfl,hno⟩ | ⟨g,rfl,hgp,hg⟩
   ·have hf:=hid (gap_next p j hlt hno.out hb);clear hno hb;go_wp2
    go_round
    case rel=>exact⟨j+1,by omega,by go_num,.inl ⟨rfl,hf⟩⟩
    case measure=>simp[RowKit.intOf];omega
   clear hb;go_wp2
   go_round
   case rel=>exact⟨j+1,by omega,by go_num,.inr ⟨g,rfl,hgp,hg⟩⟩
   case measure=>simp[RowKit.intOf];omega
  obtain rfl:j=p.size:=by omega
  rcases hd with⟨rfl,hno⟩ | ⟨g,rfl,hgp,hg⟩
  ·have hgm:=gap_miss p hno.out
   have hf:Hid (R=([],4)):=by
    rcases hw.out with⟨c1,hf'⟩ | ⟨c1,c2,hf'⟩ | ⟨c1,c2,c3,hf'⟩ | ⟨c1,c2,c3,c4,hf'⟩ | ⟨c1,c2,c3,c4,c5,hf'⟩ | ⟨c1,c2,c3,c4,c5,hf'⟩
    ·exact hf'
    all_goals omega
   clear hw hno hgm;go_wp2;go_returns;rw[hf.out];exact⟨⟨_,rfl,World.ownsRow_nil _ _ _ _⟩,hx⟩
  have hge:0<=gapN p:=by rw[hg.out];omega
  have hwx:wdOf p=p.extract (g+1) p.size:=by unfold wdOf;rw[hg.out];rfl
  have hnx:nmOf p=p.extract 0 g:=by unfold nmOf;rw[hg.out];rfl
  have g1:decide ((g:Int) < 0)=false:=decide_eq_false (by omega);obtain⟨d,hd⟩:∃ d,sideN (p.extract (g+1) p.size)=d:=⟨_,rfl⟩;have hsd:=fun w=>sideR_any (p.extract (g+1) p.size) w
  rw[hd] at hsd;have hnm:=fun w=>name07_any (p.extract 0 g) (by rw[ByteArray.size_extract];omega) w
  have hst:=HST.out;rw[portsGo_cons,if_neg (by omega),hwx,hnx,hd] at hst;have HSD:=hid hsd;clear hwx hnx hd hsd hw HST hge hg;by_cases c2:d < 0
  ·rw[if_pos c2] at hst;have hf:=hid hst;have g2:decide (d < 0)=true:=decide_eq_true c2;clear hst hnm;go_wp2_with (go_at_call 208;refine(HSD.out _).mono ?_;rintro e w1 ⟨rfl,x1⟩);go_returns;rw[hf.out];exact⟨⟨_,rfl,World.ownsRow_nil _ _ _ _⟩,hx.trans x1⟩
  rw[if_neg c2] at hst;have g2:decide (d < 0)=false:=decide_eq_false c2;cases c3:nameB (p.extract 0 g).data.toList
  ·rw[if_pos c3] at hst;have hf:=hid hst;rw[c3] at hnm;have HNM:=hid hnm;clear hst hnm c3;go_wp2_with (first | (go_at_call 208;refine(HSD.out _).mono ?_;rintro e w1 ⟨rfl,x1⟩) | (go_at_call 39;refine(HNM.out _).mono ?_;rintro e wn ⟨rfl,rfl⟩));go_returns;rw[hf.out];exact⟨⟨_,rfl,World.ownsRow_nil _ _ _ _⟩,hx.trans x1⟩
  rw[if_neg (by rw[c3];decide)] at hst;rw[c3] at hnm;have HNM:=hid hnm;have HS2:=hid hst;clear hst hnm c3;go_wp2_with (first | (go_at_call 208;refine(HSD.out _).mono ?_;rintro e w1 ⟨rfl,x1⟩) | (go_at_call 39;refine(HNM.out _).mono ?_;rintro e wn ⟨rfl,rfl⟩));have hown1:=own_ext hown x1;have hx1:=hx.trans x1;have hcl1:Hid (∀ k (hk:k < L.length),w1.cell? ⟨gl,k,none⟩=some (.string L[k])):=hid (fun k hk=>x1.cell (hcl.out k hk));have hgl1:gl < w1.heap.size:=Nat.lt_of_lt_of_le hgl x1.size;have HOC:=hid (fun j hj=>own_cell hown1 j hj);clear hown hcl hgl hx x1 c0 hxs;obtain⟨n,hnn⟩:∃ n,p.extract 0 g=n:=⟨_,rfl⟩;rw[hnn] at HS2 ⊢
  go_loop [11] (fun i'=>∃ j:Nat,j<=O.length/\i'=.int .i64 j/\Hid (∀ i (hi:i < O.length),i < j->O[i].1 ≠ n)) (fun i'=>O.length - (RowKit.intOf i').toNat)
  case atStart=>exact⟨0,by omega,rfl,hid (fun j _ h=>absurd h (by omega))⟩
  obtain⟨j,hj,rfl,hall⟩:=hrel;by_cases hlt:j < O.length
  ·have c1:=HOC.out j hlt;obtain⟨z,hz⟩:∃ z,z=O[j].1:=⟨_,rfl⟩;rw[<-hz] at c1;have HZ:=hid hz;clear hz;by_cases heq:z=n
   ·have hf:Hid (R=([],6)):=hid (by
     rw[HS2.out,if_pos]
     unfold hasN;rw[List.any_eq_true];exact⟨O[j],List.getElem_mem hlt,by rw[<-HZ.out];exact decide_eq_true heq⟩)
    have g3:(z.toList == n.toList)=true:=by rw[beqs];exact decide_eq_true heq
    clear heq hall HZ;go_wp2;go_returns;rw[hf.out];exact⟨⟨_,rfl,World.ownsRow_nil _ _ _ _⟩,hx1⟩
   have hf:Hid (∀ i (hi:i < O.length),i < j+1->O[i].1 ≠ n):=hid (fun i hi h=>by
    by_cases e:i=j
    ·subst e;rw[<-HZ.out];exact heq
    exact hall.out i hi (by omega))
   have g3:(z.toList == n.toList)=false:=by rw[beqs];exact decide_eq_false heq
   clear heq hall HZ;go_wp2
   go_round
   case rel=>exact⟨j+1,by omega,by go_num,hf⟩
   case measure=>simp[RowKit.intOf];omega
  obtain rfl:j=O.length:=by omega
  have hno:hasN O n=false:=by
   unfold hasN;rw[List.any_eq_false];intro q hq;obtain⟨i,hi,rfl⟩:=List.getElem_of_mem hq
   simpa using hall.out i hi hi
  have hst:=HS2.out;rw[if_neg (by rw[hno];decide)] at hst;clear hall hno HS2;by_cases c5:O.length=8
  ·rw[if_pos c5] at hst;have hf:=hid hst;obtain⟨f1,_⟩:=eq_facts (x:=(O.length:Int)) (k:=8) (by omega);clear hst c5;go_wp2;go_returns;rw[hf.out];exact⟨⟨_,rfl,World.ownsRow_nil _ _ _ _⟩,hx1⟩
  rw[if_neg c5] at hst;have hf:=hid hst;obtain⟨f1,_⟩:=ne_facts (x:=(O.length:Int)) (k:=8) (by omega);have H8:O.length < 8:=by omega
  clear hst c5;go_wp2_with (first | (go_at_call 208;refine(HSD.out _).mono ?_;rintro e w2 ⟨rfl,x2⟩) | (at_builtin;refine wpList_append_lies _ rfl _ _ 57 rfl w.heap.size 167 i0 _ 2 24 Tryz.underlying57 hi hz0 hz1 hz2 rfl (by decide) _ _ _ rfl ((own_ext hown1 x2).alloc _) ⟨w2.heap.size,0,none⟩ 1 1 (prtC (n,d)) rfl rfl ?c1 ?c2 (by decide) ?c3 ?c4 ?c5 _ rfl ?_))
  case c1=>exact fun j u hj=>cell_new1 w2 (prtC (n,d)) 167 j u hj
  case c2=>intro u hu;simp[prtC] at hu;rcases hu with rfl | rfl <;> rfl
  case c3=>unfold maxLen;omega
  case c4=>omega
  case c5 =>
   have h:=(hx1.trans x2).size;simp;omega
  intro g2 cap2 w5 hown' hgrow hat hlt5;have hl2:gl < w2.heap.size:=Nat.lt_of_lt_of_le hgl1 x2.size
  have hcl5:Hid (∀ k (hk:k < L.length),w5.cell? ⟨gl,k,none⟩=some (.string L[k])):=hid (fun k hk=>by
   rw[hgrow.cell_far ⟨gl,k,none⟩ (by rw[World.size_alloc];exact Nat.lt_succ_of_lt hl2) (fun h=>hgn (by injection h with h;exact h.symm))]
   exact(x2.alloc _).cell (hcl1.out k hk))
  have hgn2:g2 ≠ gl:=by
   rcases hat with h | h
   ·injection h with h;rw[<-h];exact hgn
   omega
  have hgl5:gl < w5.heap.size:=by
   have:=hgrow.size;rw[World.size_alloc] at this;omega
  have hx5:Ext w w5:=Below.grown ((hx1.trans x2).alloc _) hgrow (by have h:=(hx1.trans x2).size;simp;omega) (fun k hk=>((own_ext hown1 x2).lt k hk).1);have hlen:(O++[(n,d)]).length=O.length+1:=by simp
  have hown2:w5.ownsRow w.heap.size 167 2 (.slice (some ⟨g2,0,none⟩) (O++[(n,d)]).length cap2) (O++[(n,d)]).length (prtsC (O++[(n,d)])):=by
   rw[prtsC_snoc,hlen];exact hown'
  have hv2:Value.slice (some ⟨g2,0,none⟩) (O.length+1) cap2=.slice (some ⟨g2,0,none⟩) (O++[(n,d)]).length cap2:=by rw[hlen]
  clear hown' hgrow hown1 hcl1 hat;go_wp2
  go_roundw
  case rel=>exact⟨k+1,O++[(n,d)],g2,cap2,by omega,by go_num,hv2,hown2,hgn2,hgl5,hcl5,hx5,hf,by omega⟩
  case measure=>simp[RowKit.intOf];omega
 have hR:R=(O,0):=by
  rw[ha.out,List.drop_eq_nil_of_le (by rw[<-HN.out];omega)];rfl
 have HR:=hid hR;clear ha hR;go_wp2;go_returns;rw[HR.out];exact⟨⟨_,rfl,hown⟩,hx⟩
end Go.Proofs.YtjaeedbjknejdaaGreatDoor.At

namespace Go.Proofs.YtjaeedbjknejdaaGreatDoor.At
open Go.RowKit Go.Sort Go.Lib Go.Shelf Fx Lx
def okR (r:Rul)(v:ByteArray):Bool :=
 if r.1=1 then v.data.toList.all okT else if r.1=2\/r.1=3 then (valT r (parse v.data.toList)).2 else if r.1=4 then decide ((portsV v).2=0) && decide (v.size<=32) else if r.1=5 then decide (0<=modeN v) else true
def checkRV (kind:Int)(k v:ByteArray):Int :=
 if knownB kind=false then 1 else if(knownT kind k.data.toList).1=0 then 5 else if(knownT kind k.data.toList).1=1/\32 < v.size then 2 else if okR (knownT kind k.data.toList) v then 0 else 7
theorem chkR_none (kind lo hi d:Int)(k v:ByteArray)(w:World)(hkd:kind=1\/kind=2\/kind=4)(hr:knownT kind k.data.toList=(0,lo,hi,d)):
  Calls Tryz.prog 150 #[.int .i64 kind,.agg #[.string k,.string v]] w fun e w'=>e=.returned (.int .i64 (5))/\Ext w w':=by
 have hkn:=fun w=>known_any kind k w
 rw[hr] at hkn;unfold knownV at hkn;dsimp only at hkn;have hx0:Ext w (w.alloc (.cells #[.string k,.string v] 69)):=(Ext.refl _).alloc _;have hcl:=atr_cells w k v;have HCL:=hid hcl;have HKN:=hid hkn;clear hkn hr hcl;rcases hkd with rfl | rfl | rfl
 all_goals
  go_enter Tryz.func150,Tryz.ntmps150;go_wp2_with (first | (go_at_call 155;refine(HKN.out _).mono ?_;rintro e w1 ⟨rfl,x1⟩;have q1:=(HCL.out _ (x1.alloc (.cells #[.int .i64 0,.int .i64 lo,.int .i64 hi,.int .i64 d] 216))).1;have q2:=(HCL.out _ (x1.alloc (.cells #[.int .i64 0,.int .i64 lo,.int .i64 hi,.int .i64 d] 216))).2));go_returns;exact⟨rfl,(hx0.trans x1).alloc _⟩
theorem chkR_num2 (kind lo hi d:Int)(k v:ByteArray)(w:World)(hkd:kind=1\/kind=2\/kind=4)(hr:knownT kind k.data.toList=(2,lo,hi,d))(hv:v.size<=4294967280):
  Calls Tryz.prog 150 #[.int .i64 kind,.agg #[.string k,.string v]] w fun e w'=>e=.returned (.int .i64 (if okR (2,lo,hi,d) v then 0 else 7))/\Ext w w':=by
 have hkn:=fun w=>known_any kind k w
 rw[hr] at hkn;unfold knownV at hkn;dsimp only at hkn;have hx0:Ext w (w.alloc (.cells #[.string k,.string v] 69)):=(Ext.refl _).alloc _;have hcl:=atr_cells w k v;have HCL:=hid hcl;have HKN:=hid hkn;clear hkn hr hcl;have hva:=fun w=>value_any 2 lo hi d v w hv
 unfold knownV at hva;dsimp only at hva;have e:okR (2,lo,hi,d) v=(valT (2,lo,hi,d) (parse v.data.toList)).2:=rfl;rw[e];generalize (valT (2,lo,hi,d) (parse v.data.toList)).1=n at hva;generalize (valT (2,lo,hi,d) (parse v.data.toList)).2=t at hva ⊢;have HC42:=hid (fun(w1:World)=>heap_alloc_new w1 (.cells #[.int .i64 2,.int .i64 lo,.int .i64 hi,.int .i64 d] 216));cases t
 all_goals
  have HVA:=hid hva;clear hva;rcases hkd with rfl | rfl | rfl
  all_goals
   go_enter Tryz.func150,Tryz.ntmps150;go_wp2_with (first | (go_at_call 155;refine(HKN.out _).mono ?_;rintro e w1 ⟨rfl,x1⟩;have q1:=(HCL.out _ (x1.alloc (.cells #[.int .i64 2,.int .i64 lo,.int .i64 hi,.int .i64 d] 216))).1;have q2:=(HCL.out _ (x1.alloc (.cells #[.int .i64 2,.int .i64 lo,.int .i64 hi,.int .i64 d] 216))).2) | (go_at_call 156;refine(HVA.out _).mono ?_;rintro e w2 ⟨rfl,x2⟩;have q3:w2.cell? ⟨w1.heap.size,0,none⟩=some (.int .i64 2):=x2.cell (by rw[Lib.cell_of_heap (HC42.out w1)];rfl)));go_returns;exact⟨rfl,((hx0.trans x1).alloc _).trans x2⟩
theorem chkR_num3 (kind lo hi d:Int)(k v:ByteArray)(w:World)(hkd:kind=1\/kind=2\/kind=4)(hr:knownT kind k.data.toList=(3,lo,hi,d))(hv:v.size<=4294967280):
  Calls Tryz.prog 150 #[.int .i64 kind,.agg #[.string k,.string v]] w fun e w'=>e=.returned (.int .i64 (if okR (3,lo,hi,d) v then 0 else 7))/\Ext w w':=by
 have hkn:=fun w=>known_any kind k w
 rw[hr] at hkn;unfold knownV at hkn;dsimp only at hkn;have hx0:Ext w (w.alloc (.cells #[.string k,.string v] 69)):=(Ext.refl _).alloc _;have hcl:=atr_cells w k v;have HCL:=hid hcl;have HKN:=hid hkn;clear hkn hr hcl;have hva:=fun w=>value_any 3 lo hi d v w hv
 unfold knownV at hva;dsimp only at hva;have e:okR (3,lo,hi,d) v=(valT (3,lo,hi,d) (parse v.data.toList)).2:=rfl;rw[e];generalize (valT (3,lo,hi,d) (parse v.data.toList)).1=n at hva;generalize (valT (3,lo,hi,d) (parse v.data.toList)).2=t at hva ⊢;have HC42:=hid (fun(w1:World)=>heap_alloc_new w1 (.cells #[.int .i64 3,.int .i64 lo,.int .i64 hi,.int .i64 d] 216));cases t
 all_goals
  have HVA:=hid hva;clear hva;rcases hkd with rfl | rfl | rfl
  all_goals
   go_enter Tryz.func150,Tryz.ntmps150;go_wp2_with (first | (go_at_call 155;refine(HKN.out _).mono ?_;rintro e w1 ⟨rfl,x1⟩;have q1:=(HCL.out _ (x1.alloc (.cells #[.int .i64 3,.int .i64 lo,.int .i64 hi,.int .i64 d] 216))).1;have q2:=(HCL.out _ (x1.alloc (.cells #[.int .i64 3,.int .i64 lo,.int .i64 hi,.int .i64 d] 216))).2) | (go_at_call 156;refine(HVA.out _).mono ?_;rintro e w2 ⟨rfl,x2⟩;have q3:w2.cell? ⟨w1.heap.size,0,none⟩=some (.int .i64 3):=x2.cell (by rw[Lib.cell_of_heap (HC42.out w1)];rfl)));go_returns;exact⟨rfl,((hx0.trans x1).alloc _).trans x2⟩
theorem chkR_mode (kind lo hi d:Int)(k v:ByteArray)(w:World)(hkd:kind=1\/kind=2\/kind=4)(hr:knownT kind k.data.toList=(5,lo,hi,d)):
  Calls Tryz.prog 150 #[.int .i64 kind,.agg #[.string k,.string v]] w fun e w'=>e=.returned (.int .i64 (if okR (5,lo,hi,d) v then 0 else 7))/\Ext w w':=by
 have hkn:=fun w=>known_any kind k w
 rw[hr] at hkn;unfold knownV at hkn;dsimp only at hkn;have hx0:Ext w (w.alloc (.cells #[.string k,.string v] 69)):=(Ext.refl _).alloc _;have hcl:=atr_cells w k v;have HCL:=hid hcl;have HKN:=hid hkn;clear hkn hr hcl;have HC42:=hid (fun(w1:World)=>heap_alloc_new w1 (.cells #[.int .i64 5,.int .i64 lo,.int .i64 hi,.int .i64 d] 216));have hmo:=fun w=>modeR_any v w
 have e:okR (5,lo,hi,d) v=decide (0<=modeN v):=rfl;rw[e];generalize modeN v=m at hmo ⊢;have HMO:=hid hmo;clear hmo e;by_cases hm:0<=m
 ·have g1:decide (0<=m)=true:=decide_eq_true hm;rw[g1];clear hm;rcases hkd with rfl | rfl | rfl
  all_goals
   go_enter Tryz.func150,Tryz.ntmps150;go_wp2_with (first | (go_at_call 155;refine(HKN.out _).mono ?_;rintro e w1 ⟨rfl,x1⟩;have q1:=(HCL.out _ (x1.alloc (.cells #[.int .i64 5,.int .i64 lo,.int .i64 hi,.int .i64 d] 216))).1;have q2:=(HCL.out _ (x1.alloc (.cells #[.int .i64 5,.int .i64 lo,.int .i64 hi,.int .i64 d] 216))).2) | (go_at_call 206;refine(HMO.out _).mono ?_;rintro e w2 ⟨rfl,x2⟩;have q3:w2.cell? ⟨w1.heap.size,0,none⟩=some (.int .i64 5):=x2.cell (by rw[Lib.cell_of_heap (HC42.out w1)];rfl)));go_returns;exact⟨rfl,((hx0.trans x1).alloc _).trans x2⟩
 have g1:decide (0<=m)=false:=decide_eq_false hm;rw[g1];clear hm;rcases hkd with rfl | rfl | rfl
 all_goals
  go_enter Tryz.func150,Tryz.ntmps150;go_wp2_with (first | (go_at_call 155;refine(HKN.out _).mono ?_;rintro e w1 ⟨rfl,x1⟩;have q1:=(HCL.out _ (x1.alloc (.cells #[.int .i64 5,.int .i64 lo,.int .i64 hi,.int .i64 d] 216))).1;have q2:=(HCL.out _ (x1.alloc (.cells #[.int .i64 5,.int .i64 lo,.int .i64 hi,.int .i64 d] 216))).2) | (go_at_call 206;refine(HMO.out _).mono ?_;rintro e w2 ⟨rfl,x2⟩;have q3:w2.cell? ⟨w1.heap.size,0,none⟩=some (.int .i64 5):=x2.cell (by rw[Lib.cell_of_heap (HC42.out w1)];rfl)));go_returns;exact⟨rfl,((hx0.trans x1).alloc _).trans x2⟩
theorem chkR_ports (kind lo hi d:Int)(k v:ByteArray)(w:World)(hkd:kind=1\/kind=2\/kind=4)(hr:knownT kind k.data.toList=(4,lo,hi,d))(hv:v.size < 4294967281):
  Calls Tryz.prog 150 #[.int .i64 kind,.agg #[.string k,.string v]] w fun e w'=>e=.returned (.int .i64 (if okR (4,lo,hi,d) v then 0 else 7))/\Ext w w':=by
 have hkn:=fun w=>known_any kind k w
 rw[hr] at hkn;unfold knownV at hkn;dsimp only at hkn;have hx0:Ext w (w.alloc (.cells #[.string k,.string v] 69)):=(Ext.refl _).alloc _;have hcl:=atr_cells w k v;have HCL:=hid hcl;have HKN:=hid hkn;clear hkn hr hcl;have HC42:=hid (fun(w1:World)=>heap_alloc_new w1 (.cells #[.int .i64 4,.int .i64 lo,.int .i64 hi,.int .i64 d] 216));have hpo:=fun w=>portsR_any v w hv
 have e:okR (4,lo,hi,d) v=(decide ((portsV v).2=0) && decide (v.size<=32)):=rfl;rw[e];obtain⟨PL,c,hp⟩:∃ PL c,portsV v=(PL,c):=⟨_,_,rfl⟩;rw[hp] at hpo ⊢;dsimp only;have HPO:=hid hpo;clear hpo e hp;by_cases k0:c=0
 ·obtain⟨fc,_⟩:=eq_facts k0;rw[decide_eq_true k0,Bool.true_and];clear k0;by_cases hm:v.size<=32
  ·rw[decide_eq_true hm];have g2:decide ((v.size:Int)<=32)=true:=decide_eq_true (by omega);rcases hkd with rfl | rfl | rfl
   all_goals
    go_enter Tryz.func150,Tryz.ntmps150;go_wp2_with (first | (go_at_call 155;refine(HKN.out _).mono ?_;rintro e w1 ⟨rfl,x1⟩;have q1:=(HCL.out _ (x1.alloc (.cells #[.int .i64 4,.int .i64 lo,.int .i64 hi,.int .i64 d] 216))).1;have q2:=(HCL.out _ (x1.alloc (.cells #[.int .i64 4,.int .i64 lo,.int .i64 hi,.int .i64 d] 216))).2) | (go_at_call 154;refine(HPO.out _).mono ?_;rintro e w2 ⟨⟨pv,rfl,_⟩,x2⟩;have q3:w2.cell? ⟨w1.heap.size,0,none⟩=some (.int .i64 4):=x2.cell (by rw[Lib.cell_of_heap (HC42.out w1)];rfl);have q4:=x2.cell q2));go_returns;exact⟨rfl,((hx0.trans x1).alloc _).trans x2⟩
  rw[decide_eq_false hm];have g2:decide ((v.size:Int)<=32)=false:=decide_eq_false (by omega);rcases hkd with rfl | rfl | rfl
  all_goals
   go_enter Tryz.func150,Tryz.ntmps150;go_wp2_with (first | (go_at_call 155;refine(HKN.out _).mono ?_;rintro e w1 ⟨rfl,x1⟩;have q1:=(HCL.out _ (x1.alloc (.cells #[.int .i64 4,.int .i64 lo,.int .i64 hi,.int .i64 d] 216))).1;have q2:=(HCL.out _ (x1.alloc (.cells #[.int .i64 4,.int .i64 lo,.int .i64 hi,.int .i64 d] 216))).2) | (go_at_call 154;refine(HPO.out _).mono ?_;rintro e w2 ⟨⟨pv,rfl,_⟩,x2⟩;have q3:w2.cell? ⟨w1.heap.size,0,none⟩=some (.int .i64 4):=x2.cell (by rw[Lib.cell_of_heap (HC42.out w1)];rfl);have q4:=x2.cell q2));go_returns;exact⟨rfl,((hx0.trans x1).alloc _).trans x2⟩
 obtain⟨fc,_⟩:=ne_facts k0;rw[decide_eq_false k0,Bool.false_and];clear k0;rcases hkd with rfl | rfl | rfl
 all_goals
  go_enter Tryz.func150,Tryz.ntmps150;go_wp2_with (first | (go_at_call 155;refine(HKN.out _).mono ?_;rintro e w1 ⟨rfl,x1⟩;have q1:=(HCL.out _ (x1.alloc (.cells #[.int .i64 4,.int .i64 lo,.int .i64 hi,.int .i64 d] 216))).1;have q2:=(HCL.out _ (x1.alloc (.cells #[.int .i64 4,.int .i64 lo,.int .i64 hi,.int .i64 d] 216))).2) | (go_at_call 154;refine(HPO.out _).mono ?_;rintro e w2 ⟨⟨pv,rfl,_⟩,x2⟩;have q3:w2.cell? ⟨w1.heap.size,0,none⟩=some (.int .i64 4):=x2.cell (by rw[Lib.cell_of_heap (HC42.out w1)];rfl);have q4:=x2.cell q2));go_returns;exact⟨rfl,((hx0.trans x1).alloc _).trans x2⟩
theorem chkR_other (kind:Int)(k v:ByteArray)(w:World)(h1:kind ≠ 1)(h2:kind ≠ 2)(h4:kind ≠ 4):
  Calls Tryz.prog 150 #[.int .i64 kind,.agg #[.string k,.string v]] w fun e w'=>e=.returned (.int .i64 1)/\Ext w w':=by
 obtain⟨f1,f1'⟩:=ne_facts h1;obtain⟨f2,f2'⟩:=ne_facts h2;obtain⟨f4,f4'⟩:=ne_facts h4;go_enter Tryz.func150,Tryz.ntmps150;go_wp2;go_returns;exact⟨rfl,(Ext.refl _).alloc _⟩
end Go.Proofs.YtjaeedbjknejdaaGreatDoor.At

namespace Go.Proofs.YtjaeedbjknejdaaGreatDoor.At
open Go.RowKit Go.Sort Go.Lib Go.Shelf Fx Lx
theorem chkR_long (kind lo hi d:Int)(k v:ByteArray)(w:World)(hkd:kind=1\/kind=2\/kind=4)(hr:knownT kind k.data.toList=(1,lo,hi,d))(hv:32 < v.size):
  Calls Tryz.prog 150 #[.int .i64 kind,.agg #[.string k,.string v]] w fun e w'=>e=.returned (.int .i64 (2))/\Ext w w':=by
 have hkn:=fun w=>known_any kind k w
 rw[hr] at hkn;unfold knownV at hkn;dsimp only at hkn;have hx0:Ext w (w.alloc (.cells #[.string k,.string v] 69)):=(Ext.refl _).alloc _;have hcl:=atr_cells w k v;have HCL:=hid hcl;have HKN:=hid hkn;clear hkn hr hcl;rcases hkd with rfl | rfl | rfl
 all_goals
  go_enter Tryz.func150,Tryz.ntmps150;go_wp2_with (first | (go_at_call 155;refine(HKN.out _).mono ?_;rintro e w1 ⟨rfl,x1⟩;have q1:=(HCL.out _ (x1.alloc (.cells #[.int .i64 1,.int .i64 lo,.int .i64 hi,.int .i64 d] 216))).1;have q2:=(HCL.out _ (x1.alloc (.cells #[.int .i64 1,.int .i64 lo,.int .i64 hi,.int .i64 d] 216))).2));go_returns;exact⟨rfl,(hx0.trans x1).alloc _⟩
theorem chkR_label (kind lo hi d:Int)(k v:ByteArray)(w:World)(hkd:kind=1\/kind=2\/kind=4)(hr:knownT kind k.data.toList=(1,lo,hi,d))(hv:v.size<=32):
  Calls Tryz.prog 150 #[.int .i64 kind,.agg #[.string k,.string v]] w fun e w'=>e=.returned (.int .i64 (if v.data.toList.all okT then 0 else 7))/\Ext w w':=by
 have hkn:=fun w=>known_any kind k w
 rw[hr] at hkn;unfold knownV at hkn;dsimp only at hkn;have hx0:Ext w (w.alloc (.cells #[.string k,.string v] 69)):=(Ext.refl _).alloc _;have hcl:=atr_cells w k v;have HCL:=hid hcl;have HKN:=hid hkn;clear hkn hr hcl;obtain⟨R,hR⟩:∃ R,R=v.data.toList.all okT:=⟨_,rfl⟩;have HR:Hid (R=(true && (v.data.toList.drop 0).all okT)):=hid (by rw[hR,List.drop_zero,Bool.true_and]);rw[<-hR];clear hR;obtain⟨V,hV⟩:∃ V:Int,V=if R then 0 else 7:=⟨_,rfl⟩;rw[<-hV];have HV:=hid hV;clear hV;rcases hkd with rfl | rfl | rfl
 all_goals
  go_enter Tryz.func150,Tryz.ntmps150;go_wp2_with (go_at_call 155;refine(HKN.out _).mono ?_;rintro e w1 ⟨rfl,x1⟩;have q1:=(HCL.out _ (x1.alloc (.cells #[.int .i64 1,.int .i64 lo,.int .i64 hi,.int .i64 d] 216))).1;have q2:=(HCL.out _ (x1.alloc (.cells #[.int .i64 1,.int .i64 lo,.int .i64 hi,.int .i64 d] 216))).2)
  go_loop [6,7] (fun ok n=>∃ (k:Nat) (b:Bool),k<=v.size/\n=.int .i64 k/\ok=.bool b/\Hid (R=(b && (v.data.toList.drop k).all okT))) (fun _ n=>v.size - (RowKit.intOf n).toNat)
  case atStart=>exact⟨0,true,by omega,rfl,rfl,HR⟩
  obtain⟨k,b,hk,rfl,rfl,ha⟩:=hrel;clear HR;by_cases hlt:k < v.size
  ·have hst:=ha.out
   have hd:v.data.toList.drop k=v[k]::v.data.toList.drop (k+1):=by
    rw[List.drop_eq_getElem_cons (by rw[<-size_len];exact hlt)];rfl
   rw[hd,List.all_cons] at hst;clear ha hd;cases b
   ·have hf:Hid (R=(false && (v.data.toList.drop (k+1)).all okT)):=hid (by rw[hst];rfl);clear hst;go_wp2
    go_round
    case rel=>exact⟨k+1,false,by omega,by go_num,rfl,hf⟩
    case measure=>simp[RowKit.intOf];omega
   by_cases c1:32<=v[k].toNat
   ·by_cases c2:v[k].toNat<=126
    ·have hf:Hid (R=(true && (v.data.toList.drop (k+1)).all okT)):=hid (by
      rw[hst];unfold okT;rw[decide_eq_true c1,decide_eq_true c2];rfl)
     have g2:decide ((v[k].toNat:Int)<=126)=true:=decide_eq_true (by omega);clear hst;go_wp2
     go_round
     case rel=>exact⟨k+1,true,by omega,by go_num,rfl,hf⟩
     case measure=>simp[RowKit.intOf];omega
    have hf:Hid (R=(false && (v.data.toList.drop (k+1)).all okT)):=hid (by
     rw[hst];unfold okT;rw[decide_eq_false c2];simp)
    have g2:decide ((v[k].toNat:Int)<=126)=false:=decide_eq_false (by omega);clear hst;go_wp2
    go_round
    case rel=>exact⟨k+1,false,by omega,by go_num,rfl,hf⟩
    case measure=>simp[RowKit.intOf];omega
   have hf:Hid (R=(false && (v.data.toList.drop (k+1)).all okT)):=hid (by
    rw[hst];unfold okT;rw[decide_eq_false c1];simp)
   clear hst;go_wp2
   go_round
   case rel=>exact⟨k+1,false,by omega,by go_num,rfl,hf⟩
   case measure=>simp[RowKit.intOf];omega
  have hf:Hid (R=b):=hid (by
   rw[ha.out,List.drop_eq_nil_of_le (by rw[<-size_len];omega)];simp)
  clear ha;cases b
  all_goals
   go_wp2;go_returns;refine⟨ret_int ?_,(hx0.trans x1).alloc _⟩;rw[HV.out,hf.out]
   rfl
end Go.Proofs.YtjaeedbjknejdaaGreatDoor.At
