/- Packed texts: NorSame, NorFindR, NorPlainR, NorPortsR, NorNodeR, NorDepthR -/
import Derived.Test.YtjaeedbjknejdaaGreatDoorPd12
import Derived.StillTailTactics
set_option linter.unusedVariables false
set_option linter.unusedSimpArgs false
set_option maxHeartbeats 16000000
set_option maxRecDepth 100000
namespace Go.Proofs.YtjaeedbjknejdaaGreatDoor.Nm
open Go.RowKit Go.Lib Fx Lx At
theorem boxes {w w1:World}{c d:Array Value}{T U:TypeId}(h:Ext ((w.alloc (.cells c T)).alloc (.cells d U)) w1):(∀ j v,c[j]? = some v->w1.cell? ⟨w.heap.size,j,none⟩=some v)/\(∀ j v,d[j]? = some v->w1.cell? ⟨w.heap.size+1,j,none⟩=some v):=by
 refine⟨fun j v hv=>h.cell (((Ext.refl _).alloc _).cell ?_),fun j v hv=>h.cell ?_⟩
 ·rw[Lib.cell_of_heap (heap_alloc_new w _)];exact hv
 have:=heap_alloc_new (w.alloc (.cells c T)) (.cells d U);rw[World.size_alloc] at this;rw[Lib.cell_of_heap this];exact hv
theorem sameNode_true (nm lb:ByteArray)(x y c:Int)(P:List Prt)(pa pb:Option Addr)(ca cb:Nat)(w:World)(ha:PrtIn w pa P)(hb:PrtIn w pb P)(hl:P.length<=4611686018427387904):
  Calls Tryz.prog 45 #[.agg #[.string nm,.string lb,.int .i64 x,.int .i64 y,.int .i64 c,.slice pa P.length ca],.agg #[.string nm,.string lb,.int .i64 x,.int .i64 y,.int .i64 c,.slice pb P.length cb]] w fun e w'=>e=.returned (.bool true)/\Ext w w':=by
 obtain⟨n,hn⟩:∃ n,n=P.length:=⟨_,rfl⟩;rw[<-hn] at hl ⊢;have HA:=hid ha;have HB:=hid hb;have HN:=hid hn;clear ha hb hn;go_enter Tryz.func45,Tryz.ntmps45;go_wp2;obtain⟨w1,hw1⟩:∃ w1,w1=(w.alloc (.cells #[.string nm,.string lb,.int .i64 x,.int .i64 y,.int .i64 c,.slice pa n ca] 59)).alloc (.cells #[.string nm,.string lb,.int .i64 x,.int .i64 y,.int .i64 c,.slice pb n cb] 59):=⟨_,rfl⟩;have X1:Hid (Ext ((w.alloc (.cells #[.string nm,.string lb,.int .i64 x,.int .i64 y,.int .i64 c,.slice pa n ca] 59)).alloc (.cells #[.string nm,.string lb,.int .i64 x,.int .i64 y,.int .i64 c,.slice pb n cb] 59)) w1):=hid (by rw[hw1];exact Ext.refl _);have XW:Hid (Ext w w1):=hid ((((Ext.refl _).alloc _).alloc _).trans X1.out);rw[<-hw1];clear hw1
 go_loopw [5] (fun i' wr=>∃ k:Nat,k<=n/\i'=.int .i64 k/\Ext w1 wr) (fun i' _=>n - (RowKit.intOf i').toNat)
 case atStart=>exact⟨0,Nat.zero_le _,rfl,Ext.refl _⟩
 obtain⟨k,hk,rfl,hx⟩:=hrel;obtain⟨bA,bB⟩:=boxes (X1.out.trans hx);have e0:=bA 5 _ rfl;have e1:=bB 5 _ rfl;clear bA bB;by_cases hlt:k < n
 ·have hkP:k < P.length:=by rw[<-HN.out];exact hlt
  obtain⟨g,o,rfl,c0,c1⟩:=(HA.out.ext (XW.out.trans hx)) k hkP;obtain⟨g2,o2,rfl,d0,d1⟩:=(HB.out.ext (XW.out.trans hx)) k hkP;obtain⟨s,hs⟩:∃ s,s=P[k].1:=⟨_,rfl⟩;obtain⟨z,hz⟩:∃ z,z=P[k].2:=⟨_,rfl⟩;rw[<-hs] at c0 d0;rw[<-hz] at c1 d1;have b0:(0:Int)<=(k:Int):=by omega
  have b1:(k:Int) < (n:Int):=by omega
  clear hs hz;go_wp2_with fail
  go_quiet (fail)
  go_wp2
  go_roundw
  case rel=>exact⟨k+1,by omega,by go_num,by first | exact hx.drewN _ | exact hx.drew⟩
  case measure=>simp[RowKit.intOf];omega
 go_wp2;go_ret;exact⟨rfl,XW.out.trans hx⟩
end Go.Proofs.YtjaeedbjknejdaaGreatDoor.Nm

namespace Go.Proofs.YtjaeedbjknejdaaGreatDoor.Nm
open Go.RowKit Go.Lib Fx Lx At
def findGo (n:ByteArray):Int->List Nd->Int
 | _,[] => -1
 | k,x::r=>if x.name=n then k else findGo n (k+1) r
def findT (L:List Nd)(n:ByteArray):Int:=findGo n 0 L
theorem findGo_hit (n:ByteArray):∀ (L:List Nd) (b:Int) (k:Nat) (h:k < L.length),(∀ j (hj:j < L.length),j < k->L[j].name ≠ n)->L[k].name=n->findGo n b L=b+k
 | x::r,b,0,_,_,hx=>by
  have hx:x.name=n:=hx;unfold findGo;rw[if_pos hx];simp
 | x::r,b,k+1,h,hall,hx=>by
  unfold findGo;have h0:x.name ≠ n:=hall 0 (by simp) (by omega);rw[if_neg h0,findGo_hit n r (b+1) k (by simpa using h) (fun j hj hjk=>hall (j+1) (by simpa using hj) (by omega)) (by simpa using hx)];omega
theorem findGo_miss (n:ByteArray):∀ (L:List Nd) (b:Int),(∀ j (hj:j < L.length),L[j].name ≠ n)->findGo n b L = -1
 | [],_,_=>rfl
 | x::r,b,hall=>by
  unfold findGo;have h0:x.name ≠ n:=hall 0 (by simp);rw[if_neg h0,findGo_miss n r (b+1) (fun j hj=>hall (j+1) (by simpa using hj))]
theorem box1 {w w1:World}{c:Array Value}{T:TypeId}(h:Ext (w.alloc (.cells c T)) w1):∀ j v,c[j]? = some v->w1.cell? ⟨w.heap.size,j,none⟩=some v:=fun j v hv=>h.cell (by rw[Lib.cell_of_heap (heap_alloc_new w _)];exact hv)
theorem findR_any (g:Gr)(va:Value)(n:ByteArray)(w:World)(ha:GrIn w va g)(hN:g.N.length<=4611686018427387904):
  Calls Tryz.prog 140 #[va,.string n] w fun e w'=>e=.returned (.int .i64 (findT g.N n))/\Ext w w':=by
 obtain⟨na,nac,ea,eac,ca,cac,rfl,a1,-,-⟩:=ha;obtain⟨nm,dir,NN,EE,CC⟩:=g;dsimp only at *;obtain⟨q,hq⟩:∃ n,n=NN.length:=⟨_,rfl⟩;obtain⟨el,hel⟩:∃ n,n=EE.length:=⟨_,rfl⟩;obtain⟨cl,hcl⟩:∃ n,n=CC.length:=⟨_,rfl⟩;rw[<-hq] at hN ⊢;rw[<-hel,<- hcl];have A1:=hid a1;have HQ:=hid hq;clear a1 hq hel hcl;go_enter Tryz.func140,Tryz.ntmps140;go_wp2;obtain⟨w1,hw1⟩:∃ w1,w1=w.alloc (.cells #[.string nm,.bool dir,.slice na q nac,.slice ea el eac,.slice ca cl cac] 26):=⟨_,rfl⟩;have X1:Hid (Ext (w.alloc (.cells #[.string nm,.bool dir,.slice na q nac,.slice ea el eac,.slice ca cl cac] 26)) w1):=hid (by rw[hw1];exact Ext.refl _);have XW:Hid (Ext w w1):=hid (((Ext.refl _).alloc _).trans X1.out);rw[<-hw1];clear hw1
 go_loopw [5] (fun i' wr=>∃ k:Nat,k<=q/\i'=.int .i64 k/\Hid (∀ j (hj:j < NN.length),j < k->NN[j].name ≠ n)/\Ext w1 wr) (fun i' _=>q - (RowKit.intOf i').toNat)
 case atStart=>exact⟨0,Nat.zero_le _,rfl,hid (fun j _ h=>absurd h (by omega)),Ext.refl _⟩
 obtain⟨k,hk,rfl,hall,hx⟩:=hrel;have e0:=box1 (X1.out.trans hx) 2 _ rfl;by_cases hlt:k < q
 ·have hkN:k < NN.length:=by rw[<-HQ.out];exact hlt
  obtain⟨g1,o1,p1,c1,rfl,x0,x1,x2,x3,x4,x5,x6⟩:=(A1.out.ext (XW.out.trans hx)) k hkN;obtain⟨s,hs⟩:∃ s,s=NN[k].name:=⟨_,rfl⟩;rw[<-hs] at x0;have HS:=hid hs;have b0:(0:Int)<=(k:Int):=by omega
  have b1:(k:Int) < (q:Int):=by omega
  clear hs x1 x2 x3 x4 x5 x6;by_cases heq:s=n
  ·have f1:(s.toList == n.toList)=true:=by rw[At.beqs];exact decide_eq_true heq
   have hr:Hid (findT NN n=(k:Int)):=hid (by
    unfold findT
    rw[findGo_hit n NN 0 k hkN hall.out (by rw[<-HS.out];exact heq)];omega)
   clear heq hall HS;go_wp2;go_ret;exact⟨congrArg (fun z=>Ending.returned (Value.int .i64 z)) hr.out.symm,XW.out.trans hx⟩
  have f1:(s.toList == n.toList)=false:=by rw[At.beqs];exact decide_eq_false heq
  have hf:Hid (∀ j (hj:j < NN.length),j < k+1->NN[j].name ≠ n):=hid (fun j hj h=>by
   by_cases e:j=k
   ·subst e;rw[<-HS.out];exact heq
   exact hall.out j hj (by omega))
  clear heq hall HS;go_wp2
  go_roundw
  case rel=>exact⟨k+1,by omega,by go_num,hf,hx⟩
  case measure=>simp[RowKit.intOf];omega
 have hr:Hid (findT NN n = -1):=hid (findGo_miss n NN 0 (fun j hj=>hall.out j hj (by rw[<-HQ.out] at hj;omega)));clear hall;go_wp2;go_ret;exact⟨congrArg (fun z=>Ending.returned (Value.int .i64 z)) hr.out.symm,XW.out.trans hx⟩
end Go.Proofs.YtjaeedbjknejdaaGreatDoor.Nm

namespace Go.Proofs.YtjaeedbjknejdaaGreatDoor.Nm
open Go.RowKit Go.Sort Go.Lib Go.Shelf Fx Lx Tr At
theorem ret_b {a b:Bool}(h:a=b):Ending.returned (.bool a)=.returned (.bool b):=by rw[h]
theorem ret_i {a b:Int}(h:a=b):Ending.returned (.int .i64 a)=.returned (.int .i64 b):=by rw[h]
theorem plainR_any (d:ByteArray)(hd0:d.size<=4611686018427387904)(w:World):
  Calls Tryz.prog 141 #[.string d] w fun e w'=>e=.returned (.bool (d.data.toList.all Tr.okT))/\w'=w:=by
 obtain⟨q,hq'⟩:∃ q,q=d.data.toList.all Tr.okT:=⟨_,rfl⟩;rw[<-hq'];have HQ:Hid (q=(d.data.toList.drop 0).all Tr.okT):=hid (by rw[List.drop_zero];exact hq');clear hq';go_enter Tryz.func141,Tryz.ntmps141;go_wp2
 go_loop [3] (fun m'=>∃ m:Nat,m<=d.size/\m'=.int .i64 m/\Hid (q=(d.data.toList.drop m).all Tr.okT)) (fun m'=>d.size - (RowKit.intOf m').toNat)
 case atStart=>exact⟨0,by omega,rfl,HQ⟩
 obtain⟨m,hm,rfl,hb⟩:=hrel;clear HQ;by_cases hjd:m < d.size
 ·have hb':=hb.out
  have hd:d.data.toList.drop m=d[m]::d.data.toList.drop (m+1):=by
   rw[List.drop_eq_getElem_cons (by rw[<-size_len];exact hjd)];rfl
  rw[hd,List.all_cons] at hb';clear hb hd;by_cases k1:32<=d[m].toNat
  ·by_cases k2:d[m].toNat<=126
   ·have hf:Hid (q=(d.data.toList.drop (m+1)).all Tr.okT):=hid (by
     rw[hb'];unfold Tr.okT;rw[decide_eq_true k1,decide_eq_true k2];rfl)
    have g2:decide ((126:Int) < d[m].toNat)=false:=decide_eq_false (by omega);have g3:decide ((d[m].toNat:Int) < 32)=false:=decide_eq_false (by omega);clear hb';go_wp2
    go_round
    case rel=>exact⟨m+1,by omega,by go_num,hf⟩
    case measure=>simp[RowKit.intOf];omega
   have hf:Hid (q=false):=hid (by
    rw[hb'];unfold Tr.okT;rw[decide_eq_false k2];simp)
   have g2:decide ((126:Int) < d[m].toNat)=true:=decide_eq_true (by omega);have g3:decide ((d[m].toNat:Int) < 32)=false:=decide_eq_false (by omega);clear hb';go_wp2;go_returns;exact⟨ret_b hf.out.symm,rfl⟩
  have hf:Hid (q=false):=hid (by
   rw[hb'];unfold Tr.okT;rw[decide_eq_false k1];simp)
  have g3:decide ((d[m].toNat:Int) < 32)=true:=decide_eq_true (by omega);clear hb';go_wp2;go_returns;exact⟨ret_b hf.out.symm,rfl⟩
 have hf:Hid (q=true):=hid (by
  rw[hb.out,List.drop_eq_nil_of_le (by rw[<-size_len];omega)];rfl)
 clear hb;go_wp2;go_returns;exact⟨ret_b hf.out.symm,rfl⟩
end Go.Proofs.YtjaeedbjknejdaaGreatDoor.Nm

namespace Go.Proofs.YtjaeedbjknejdaaGreatDoor.Nm
open Go.RowKit Go.Sort Go.Lib Go.Shelf Fx Lx Tr At
theorem portsER_any (a:Option Addr)(L:List Prt)(cap:Nat)(w:World)(h:PrtIn w a L)(hL:L.length<=1000000000)(hs:∀ q ∈ L,q.1.size<=9223372036854775807):
  Calls Tryz.prog 142 #[.slice a L.length cap] w fun e w'=>e=.returned (.int .i64 (prtGo L []))/\Ext w w':=by
 obtain⟨n,hn⟩:∃ n,n=L.length:=⟨_,rfl⟩;obtain⟨V,hV⟩:∃ V,V=prtGo L []:=⟨_,rfl⟩;rw[<-hn] at hL ⊢;rw[<-hV];have H0:Hid (V=prtGo (L.drop 0) (L.take 0)):=hid (by rw[List.drop_zero,List.take_zero];exact hV);have HI:=hid h;have HN:=hid hn;have HS:=hid hs;clear h hn hV hs;go_enter Tryz.func142,Tryz.ntmps142;go_wp2
 go_loopw [3] (fun i' wr=>∃ i:Nat,i<=n/\i'=.int .i64 i/\Hid (V=prtGo (L.drop i) (L.take i))/\Ext w wr) (fun i' _=>n - (RowKit.intOf i').toNat)
 case atStart=>exact⟨0,Nat.zero_le _,rfl,H0,Ext.refl _⟩
 clear H0;obtain⟨i,hi,rfl,hv,hx⟩:=hrel;by_cases hlt:i < n
 ·have hiL:i < L.length:=by rw[<-HN.out];exact hlt
  obtain⟨g,o,rfl,c0,c1⟩:=(HI.out.ext hx) i hiL;have hsz:=HS.out _ (List.getElem_mem hiL);have hv1:=hv.out;have htk:L.take (i+1)=L.take i++[L[i]]:=List.take_succ_eq_append_getElem hiL;rw[List.drop_eq_getElem_cons hiL] at hv1;unfold prtGo at hv1;rw[<-htk] at hv1;obtain⟨s,hse⟩:∃ s,s=L[i].1:=⟨_,rfl⟩;obtain⟨z,hze⟩:∃ z,z=L[i].2:=⟨_,rfl⟩;rw[<-hse] at c0 hsz hv1;rw[<-hze] at c1 hv1;have HSE:=hid hse;have HZE:=hid hze;have hnm:=isNameR_any s hsz;obtain⟨nb,hnb⟩:∃ b,b=nameB s.data.toList:=⟨_,rfl⟩;rw[<-hnb] at hv1 hnm;have HV1:=hid hv1;have HNM:=hid hnm;have b0:(0:Int)<=(i:Int):=by omega
  have b1:(i:Int) < (n:Int):=by omega
  clear hv hv1 htk hse hze hnm hnb;cases nb with
  | false =>
   have hr:Hid (V=5):=hid (by rw[HV1.out];rfl);go_wp2_with (go_at_call 72;refine(HNM.out _).mono ?_;rintro e w2 ⟨rfl,rfl⟩);go_ret;exact⟨ret_i hr.out.symm,hx⟩
  | true =>
   go_wp2_with (go_at_call 72;refine(HNM.out _).mono ?_;rintro e w2 ⟨rfl,rfl⟩)
   go_loopw [4] (fun k' wr=>∃ k:Nat,k<=i/\k'=.int .i64 k/\Hid (∀ j (hj:j < L.length),j < k->L[j].1 ≠ s)/\Ext w wr) (fun k' _=>i - (RowKit.intOf k').toNat)
   case atStart=>exact⟨0,Nat.zero_le _,rfl,hid (fun j _ h=>absurd h (by omega)),hx⟩
   case round =>
    clear c0 c1 hx;obtain⟨k,hk,rfl,hall,hx⟩:=hrel;obtain⟨g3,o3,ha3,c0,c1⟩:=(HI.out.ext hx) i hiL;cases ha3;rw[show L[i].1=s from HSE.out.symm] at c0;obtain⟨z2,hz2⟩:∃ z,z=L[i].2:=⟨_,rfl⟩;by_cases hlk:k < i
    ·have hkL:k < L.length:=by omega
     obtain⟨g2,o2,ha,d0,d1⟩:=(HI.out.ext hx) k hkL;cases ha;obtain⟨t,ht⟩:∃ t,t=L[k].1:=⟨_,rfl⟩;rw[<-ht] at d0;have HT:=hid ht;have b2:(0:Int)<=(k:Int):=by omega
     have b3:(k:Int) < (n:Int):=by omega
     clear ht c1 d1;by_cases heq:t=s
     ·have f1:(t.toList == s.toList)=true:=by rw[At.beqs];exact decide_eq_true heq
      have hany:((L.take i).any fun p=>decide (p.1=s))=true:=by
       rw[List.any_eq_true];refine⟨L[k],?_,decide_eq_true (by rw[<-HT.out];exact heq)⟩;rw[List.mem_take_iff_getElem];exact⟨k,by omega,rfl⟩
      have hr:Hid (V=6):=hid (by rw[HV1.out,hany];rfl);clear heq hall hany HT;go_wp2_with fail
      go_quiet (fail)
      go_wp2;go_ret;exact⟨ret_i hr.out.symm,by first | exact hx.drewN _ | exact hx.drew⟩
     have f1:(t.toList == s.toList)=false:=by rw[At.beqs];exact decide_eq_false heq
     have hf:Hid (∀ j (hj:j < L.length),j < k+1->L[j].1 ≠ s):=hid (fun j hj h=>by
      by_cases e:j=k
      ·subst e;rw[<-HT.out];exact heq
      exact hall.out j hj (by omega))
     clear heq hall HT;go_wp2_with fail
     go_quiet (fail)
     go_wp2
     go_roundw
     case rel=>exact⟨k+1,by omega,by go_num,hf,by first | exact hx.drewN _ | exact hx.drew⟩
     case measure=>simp[RowKit.intOf];omega
    have hki:k=i:=by omega
    have hany:((L.take i).any fun p=>decide (p.1=s))=false:=by
     rw[List.any_eq_false];intro p hp;rw[List.mem_take_iff_getElem] at hp;obtain⟨j,hj,rfl⟩:=hp;have:=hall.out j (by omega) (by omega)
     simpa using this
    have HV2:Hid (V=if L[i].2 < 0\/3 < L[i].2 then 7 else prtGo (L.drop (i+1)) (L.take (i+1))):=hid (by
     have:=HV1.out;rw[hany,if_neg (by decide),if_neg (by decide),HZE.out] at this
     exact this)
    rw[<-hz2] at c1 HV2;clear hany hall hki hz2;by_cases hlo:z2 < 0
    ·have d4:decide (z2 < 0)=true:=decide_eq_true hlo;have hr:Hid (V=7):=hid (by rw[HV2.out,if_pos (.inl hlo)]);clear hlo;go_wp2;go_ret;exact⟨ret_i hr.out.symm,hx⟩
    have d4:decide (z2 < 0)=false:=decide_eq_false hlo;by_cases hhi:3 < z2
    ·have d5:decide (3 < z2)=true:=decide_eq_true hhi;have hr:Hid (V=7):=hid (by rw[HV2.out,if_pos (.inr hhi)]);clear hlo hhi;go_wp2;go_ret;exact⟨ret_i hr.out.symm,hx⟩
    have d5:decide (3 < z2)=false:=decide_eq_false hhi;have hr:Hid (V=prtGo (L.drop (i+1)) (L.take (i+1))):=hid (by rw[HV2.out,if_neg (fun h=>h.elim hlo hhi)]);clear hlo hhi;go_wp2
    go_roundw
    case rel=>exact⟨i+1,by omega,by go_num,hr,hx⟩
    case measure=>simp[RowKit.intOf];omega
 have hr:Hid (V=0):=hid (by rw[hv.out,List.drop_eq_nil_of_le (by rw[<-HN.out];omega)];rfl);clear hv;go_wp2;go_ret;exact⟨ret_i hr.out.symm,hx⟩
end Go.Proofs.YtjaeedbjknejdaaGreatDoor.Nm

namespace Go.Proofs.YtjaeedbjknejdaaGreatDoor.Nm
open Go.RowKit Go.Sort Go.Lib Go.Shelf Fx Lx Tr At
theorem find_first {L:List Nd}{i:Nat}(hi:i < L.length):findT L L[i].name=(i:Int)\/((L.take i).any fun p=>decide (p.name=L[i].name))=true/\findT L L[i].name ≠ (i:Int):=by
 by_cases h:∀ j (hj:j < L.length),j < i->L[j].name ≠ L[i].name
 ·left;unfold findT;rw[findGo_hit L[i].name L 0 i hi h rfl];omega
 right
 have key:∀ k,(∃ j,∃ hj:j < L.length,j<=k/\L[j].name=L[i].name)->∃ j,∃ hj:j < L.length,j<=k/\L[j].name=L[i].name/\∀ m (hm:m < L.length),m < j->L[m].name ≠ L[i].name:=by
  intro k
  induction k with
  | zero=>rintro⟨j,hj,h1,h2⟩;exact⟨j,hj,h1,h2,fun m _ hm=>by omega⟩
  | succ k ih =>
   rintro⟨j,hj,h1,h2⟩;by_cases hs:∃ j,∃ hj:j < L.length,j<=k/\L[j].name=L[i].name
   ·obtain⟨j',hj',a,b⟩:=ih hs;exact⟨j',hj',by omega,b⟩
   ·exact⟨j,hj,h1,h2,fun m hm hmj e=>hs ⟨m,hm,by omega,e⟩⟩
 obtain⟨j0,hj0,h0,h1⟩:∃ j,∃ hj:j < L.length,j < i/\L[j].name=L[i].name:=by
  by_cases hc:∃ j,∃ hj:j < L.length,j < i/\L[j].name=L[i].name
  ·exact hc
  exact absurd (fun j hj hji e=>hc ⟨j,hj,hji,e⟩) h
 obtain⟨j,hj,a,b,c⟩:=key j0 ⟨j0,hj0,Nat.le_refl _,h1⟩;refine⟨?_,?_⟩
 ·rw[List.any_eq_true];exact⟨L[j],by rw[List.mem_take_iff_getElem];exact⟨j,by omega,rfl⟩,decide_eq_true b⟩
 unfold findT;rw[findGo_hit L[i].name L 0 j hj c b];omega
theorem find_same {L:List Nd}{i:Nat}(hi:i < L.length)(h:findT L L[i].name=(i:Int)):((L.take i).any fun p=>decide (p.name=L[i].name))=false:=by
 cases hb:((L.take i).any fun p=>decide (p.name=L[i].name)) with
 | false=>rfl
 | true =>
  exfalso;rw[List.any_eq_true] at hb;obtain⟨p,hp,he⟩:=hb;rw[List.mem_take_iff_getElem] at hp;obtain⟨j,hj,rfl⟩:=hp;have he:=of_decide_eq_true he
  have key:∀ (M:List Nd) (n:ByteArray) (b:Int) (j:Nat) (hj:j < M.length),M[j].name=n->findGo n b M<=b+j:=by
   intro M n
   induction M with
   | nil=>intro b j hj;exact absurd hj (by simp)
   | cons x M ih =>
    intro b j hj hx;unfold findGo;by_cases hx0:x.name=n
    ·rw[if_pos hx0];omega
    ·rw[if_neg hx0];cases j with
     | zero=>exact absurd hx hx0
     | succ j =>
      have:=ih (b+1) j (by simpa using hj) hx;omega
  have:=key L L[i].name 0 j (by omega) he;unfold findT at h;omega
theorem nfacts {x k:Int}(h:x ≠ k):(x == k)=false/\(x != k)=true:=by
 have:(x == k)=false:=by rw[beq_eq_false_iff_ne];exact h
 exact⟨this,by rw[bne,this];rfl⟩
theorem efacts (x:Int):(x == x)=true/\(x != x)=false:=by
 have:(x == x)=true:=by rw[beq_iff_eq]
 exact⟨this,by rw[bne,this];rfl⟩
theorem nodeR_any (g:Gr)(va:Value)(i:Nat)(w:World)(ha:GrIn w va g)(hi:i < g.N.length)(hN:g.N.length<=1000000000)(hC:g.C.length<=1000000000)
  (hs:∀ x ∈ g.N,x.name.size<=4611686018427387904/\x.label.size<=4611686018427387904/\x.ports.length<=1000000000/\∀ q ∈ x.ports,q.1.size<=9223372036854775807) :
  Calls Tryz.prog 73 #[va,.int .i64 (i:Int)] w fun e w'=>e=.returned (.int .i64 (ndE g.C.length (g.N.take i) g.N[i]))/\Ext w w':=by
 have hfi:=fun(w5:World) (x:Ext w w5)=>findR_any g va g.N[i].name w5 (ha.ext x) (by omega)
 have hfirst:=find_first hi;have hfsame:=find_same hi;obtain⟨hs1,hs2,hs3,hs4⟩:=hs _ (List.getElem_mem hi);obtain⟨na,nac,ea,eac,ca,cac,rfl,a1,-,-⟩:=ha;obtain⟨nm,dir,NN,EE,CC⟩:=g;dsimp only at *;obtain⟨V,hV⟩:∃ V,V=ndE CC.length (NN.take i) NN[i]:=⟨_,rfl⟩;rw[<-hV];unfold ndE at hV;obtain⟨q,hq⟩:∃ n,n=NN.length:=⟨_,rfl⟩;obtain⟨el,hel⟩:∃ n,n=EE.length:=⟨_,rfl⟩;obtain⟨cl,hcl⟩:∃ n,n=CC.length:=⟨_,rfl⟩;rw[<-hq] at hN ⊢;rw[<-hq] at hfi;rw[<-hel] at hfi ⊢;rw[<-hcl] at hfi hC hV ⊢;have hiq:i < q:=by rw[hq];exact hi
 have A1:=hid a1;obtain⟨g1,o1,p1,c1,hna,x0,x1,x2,x3,x4,x5,x6⟩:=a1 i hi;have hpo:=fun(w5:World) (x:Ext w w5)=>portsER_any p1 NN[i].ports c1 w5 (x6.ext x) hs3 hs4
 have hnmc:=isNameR_any NN[i].name (by omega);have hplc:=plainR_any NN[i].label hs2;obtain⟨F,hF⟩:∃ F,F=findT NN NN[i].name:=⟨_,rfl⟩;rw[<-hF] at hfi hfirst hfsame;obtain⟨DA,hDA⟩:∃ b,b=(NN.take i).any fun p=>decide (p.name=NN[i].name):=⟨_,rfl⟩
 rw[<-hDA] at hfirst hfsame hV;obtain⟨z,hz⟩:∃ z,z=NN[i]:=⟨_,rfl⟩;rw[<-hz] at x0 x1 x2 x3 x4 x5 hV hs1 hs2 hs3 hs4 hpo hnmc hplc hfi;obtain⟨z0,z1,z2,z3,z4,z5⟩:=z;dsimp only at *;unfold labE at hV;unfold prtE at hV;subst hna;obtain⟨pl,hpl⟩:∃ n,n=z5.length:=⟨_,rfl⟩;rw[<-hpl] at x5 hpo hV hs3;obtain⟨nb,hnb⟩:∃ b,b=nameB z0.data.toList:=⟨_,rfl⟩;rw[<-hnb] at hnmc hV;obtain⟨pb,hpb⟩:∃ b,b=z1.data.toList.all Tr.okT:=⟨_,rfl⟩;rw[<-hpb] at hplc hV;obtain⟨PE,hPE⟩:∃ e,e=prtGo z5 []:=⟨_,rfl⟩;rw[<-hPE] at hpo hV;have HFI:=hid hfi;have HPO:=hid hpo;have HNM:=hid hnmc;have HPL:=hid hplc;have HV:=hid hV;have HFF:Hid ((F=(i:Int)/\DA=false)\/(DA=true/\F ≠ (i:Int))):=hid (hfirst.elim (fun h=>.inl ⟨h,hfsame h⟩) .inr);have b0:(0:Int)<=(i:Int):=by omega
 have b1:(i:Int) < (q:Int):=by omega
 clear hfi hpo hnmc hplc hV hfirst hfsame hF hDA hz hpl hnb hpb hPE hs4 x6 hq hel hcl hi A1 hs;go_enter Tryz.func73,Tryz.ntmps73;have y0:=fun ob=>((Ext.refl w).alloc ob).cell x0
 have y1:=fun ob=>((Ext.refl w).alloc ob).cell x1
 have y2:=fun ob=>((Ext.refl w).alloc ob).cell x2
 have y3:=fun ob=>((Ext.refl w).alloc ob).cell x3
 have y4:=fun ob=>((Ext.refl w).alloc ob).cell x4
 have y5:=fun ob=>((Ext.refl w).alloc ob).cell x5
 clear x0 x1 x2 x3 x4 x5;cases nb with
 | false =>
  have hr:Hid (V=5):=hid (by rw[HV.out,if_pos rfl]);clear HV
  go_wp2_with (first
   | (go_at_call 72;refine(HNM.out _).mono ?_;rintro e w2 ⟨rfl,rfl⟩)
   | (go_at_call 140;refine(HFI.out _ (((Ext.refl _).alloc _).alloc _)).mono ?_;rintro e w3 ⟨rfl,x3⟩;have bb:=boxes x3;have n1:=bb.2 1 _ rfl;have n2:=bb.2 2 _ rfl;have n3:=bb.2 3 _ rfl;have n4:=bb.2 4 _ rfl;have n5:=bb.2 5 _ rfl;have n6:=bb.1 4 _ rfl;clear bb)
   | (go_at_call 141;refine(HPL.out _).mono ?_;rintro e w4 ⟨rfl,rfl⟩)
   | (go_at_call 142;refine(HPO.out _ ((((Ext.refl _).alloc _).alloc _).trans x3)).mono ?_;rintro e w5 ⟨rfl,x5'⟩))
  go_ret;exact⟨ret_i hr.out.symm,((Ext.refl _).alloc _).alloc _⟩
 | true =>
  rcases HFF.out with⟨hF,hD⟩ | ⟨hD,hF⟩
  case inr =>
   obtain⟨f1,f2⟩:=nfacts hF;subst hD;have hr:Hid (V=6):=hid (by rw[HV.out,if_neg (by decide),if_pos rfl]);clear HV
   go_wp2_with (first
    | (go_at_call 72;refine(HNM.out _).mono ?_;rintro e w2 ⟨rfl,rfl⟩)
    | (go_at_call 140;refine(HFI.out _ (((Ext.refl _).alloc _).alloc _)).mono ?_;rintro e w3 ⟨rfl,x3⟩;have bb:=boxes x3;have n1:=bb.2 1 _ rfl;have n2:=bb.2 2 _ rfl;have n3:=bb.2 3 _ rfl;have n4:=bb.2 4 _ rfl;have n5:=bb.2 5 _ rfl;have n6:=bb.1 4 _ rfl;clear bb)
    | (go_at_call 141;refine(HPL.out _).mono ?_;rintro e w4 ⟨rfl,rfl⟩)
    | (go_at_call 142;refine(HPO.out _ ((((Ext.refl _).alloc _).alloc _).trans x3)).mono ?_;rintro e w5 ⟨rfl,x5'⟩))
   go_ret;exact⟨ret_i hr.out.symm,(((Ext.refl _).alloc _).alloc _).trans x3⟩
  case inl =>
  subst hD;subst hF;obtain⟨f1,f2⟩:=efacts (i:Int);have HV1:Hid (V=if((if 32 < z1.size then 2 else if pb=false then 7 else 0:Int)) ≠ 0 then (if 32 < z1.size then 2 else if pb=false then 7 else 0) else if z2 < 1\/1048576 < z2\/z3 < 1\/1048576 < z3\/z4 < -1\/(cl:Int)<=z4 then 3 else if 8 < pl then 2 else PE):=hid (by rw[HV.out];simp);clear HV HFF;have HV:=HV1;clear HV1;by_cases h32:32 < z1.size
  ·have g1:decide ((32:Int) < z1.size)=true:=decide_eq_true (by omega);have hr:Hid (V=2):=hid (by rw[HV.out];simp[h32]);clear HV
   go_wp2_with (first
    | (go_at_call 72;refine(HNM.out _).mono ?_;rintro e w2 ⟨rfl,rfl⟩)
    | (go_at_call 140;refine(HFI.out _ (((Ext.refl _).alloc _).alloc _)).mono ?_;rintro e w3 ⟨rfl,x3⟩;have bb:=boxes x3;have n1:=bb.2 1 _ rfl;have n2:=bb.2 2 _ rfl;have n3:=bb.2 3 _ rfl;have n4:=bb.2 4 _ rfl;have n5:=bb.2 5 _ rfl;have n6:=bb.1 4 _ rfl;clear bb)
    | (go_at_call 141;refine(HPL.out _).mono ?_;rintro e w4 ⟨rfl,rfl⟩)
    | (go_at_call 142;refine(HPO.out _ ((((Ext.refl _).alloc _).alloc _).trans x3)).mono ?_;rintro e w5 ⟨rfl,x5'⟩))
   go_ret;exact⟨ret_i hr.out.symm,(((Ext.refl _).alloc _).alloc _).trans x3⟩
  ·have g1:decide ((32:Int) < z1.size)=false:=decide_eq_false (by omega);cases pb with
   | false =>
    have hr:Hid (V=7):=hid (by rw[HV.out];simp[h32]);clear HV
    go_wp2_with (first
     | (go_at_call 72;refine(HNM.out _).mono ?_;rintro e w2 ⟨rfl,rfl⟩)
     | (go_at_call 140;refine(HFI.out _ (((Ext.refl _).alloc _).alloc _)).mono ?_;rintro e w3 ⟨rfl,x3⟩;have bb:=boxes x3;have n1:=bb.2 1 _ rfl;have n2:=bb.2 2 _ rfl;have n3:=bb.2 3 _ rfl;have n4:=bb.2 4 _ rfl;have n5:=bb.2 5 _ rfl;have n6:=bb.1 4 _ rfl;clear bb)
     | (go_at_call 141;refine(HPL.out _).mono ?_;rintro e w4 ⟨rfl,rfl⟩)
     | (go_at_call 142;refine(HPO.out _ ((((Ext.refl _).alloc _).alloc _).trans x3)).mono ?_;rintro e w5 ⟨rfl,x5'⟩))
    go_ret;exact⟨ret_i hr.out.symm,(((Ext.refl _).alloc _).alloc _).trans x3⟩
   | true =>
    have HV1:Hid (V=if z2 < 1\/1048576 < z2\/z3 < 1\/1048576 < z3\/z4 < -1\/(cl:Int)<=z4 then 3 else if 8 < pl then 2 else PE):=hid (by rw[HV.out];simp[h32]);clear HV;have HV:=HV1;clear HV1 h32;by_cases r0:z2 < 1
    ·have t0:decide (z2 < 1)=true:=decide_eq_true r0;have hr:Hid (V=3):=hid (by rw[HV.out,if_pos (.inl r0)]);clear HV
     go_wp2_with (first
      | (go_at_call 72;refine(HNM.out _).mono ?_;rintro e w2 ⟨rfl,rfl⟩)
      | (go_at_call 140;refine(HFI.out _ (((Ext.refl _).alloc _).alloc _)).mono ?_;rintro e w3 ⟨rfl,x3⟩;have bb:=boxes x3;have n1:=bb.2 1 _ rfl;have n2:=bb.2 2 _ rfl;have n3:=bb.2 3 _ rfl;have n4:=bb.2 4 _ rfl;have n5:=bb.2 5 _ rfl;have n6:=bb.1 4 _ rfl;clear bb)
      | (go_at_call 141;refine(HPL.out _).mono ?_;rintro e w4 ⟨rfl,rfl⟩)
      | (go_at_call 142;refine(HPO.out _ ((((Ext.refl _).alloc _).alloc _).trans x3)).mono ?_;rintro e w5 ⟨rfl,x5'⟩))
     go_ret;exact⟨ret_i hr.out.symm,(((Ext.refl _).alloc _).alloc _).trans x3⟩
    have t0:decide (z2 < 1)=false:=decide_eq_false r0;by_cases r1:1048576 < z2
    ·have t1:decide (1048576 < z2)=true:=decide_eq_true r1;have hr:Hid (V=3):=hid (by rw[HV.out,if_pos (.inr (.inl r1))]);clear HV
     go_wp2_with (first
      | (go_at_call 72;refine(HNM.out _).mono ?_;rintro e w2 ⟨rfl,rfl⟩)
      | (go_at_call 140;refine(HFI.out _ (((Ext.refl _).alloc _).alloc _)).mono ?_;rintro e w3 ⟨rfl,x3⟩;have bb:=boxes x3;have n1:=bb.2 1 _ rfl;have n2:=bb.2 2 _ rfl;have n3:=bb.2 3 _ rfl;have n4:=bb.2 4 _ rfl;have n5:=bb.2 5 _ rfl;have n6:=bb.1 4 _ rfl;clear bb)
      | (go_at_call 141;refine(HPL.out _).mono ?_;rintro e w4 ⟨rfl,rfl⟩)
      | (go_at_call 142;refine(HPO.out _ ((((Ext.refl _).alloc _).alloc _).trans x3)).mono ?_;rintro e w5 ⟨rfl,x5'⟩))
     go_ret;exact⟨ret_i hr.out.symm,(((Ext.refl _).alloc _).alloc _).trans x3⟩
    have t1:decide (1048576 < z2)=false:=decide_eq_false r1;by_cases r2:z3 < 1
    ·have t2:decide (z3 < 1)=true:=decide_eq_true r2;have hr:Hid (V=3):=hid (by rw[HV.out,if_pos (.inr (.inr (.inl r2)))]);clear HV
     go_wp2_with (first
      | (go_at_call 72;refine(HNM.out _).mono ?_;rintro e w2 ⟨rfl,rfl⟩)
      | (go_at_call 140;refine(HFI.out _ (((Ext.refl _).alloc _).alloc _)).mono ?_;rintro e w3 ⟨rfl,x3⟩;have bb:=boxes x3;have n1:=bb.2 1 _ rfl;have n2:=bb.2 2 _ rfl;have n3:=bb.2 3 _ rfl;have n4:=bb.2 4 _ rfl;have n5:=bb.2 5 _ rfl;have n6:=bb.1 4 _ rfl;clear bb)
      | (go_at_call 141;refine(HPL.out _).mono ?_;rintro e w4 ⟨rfl,rfl⟩)
      | (go_at_call 142;refine(HPO.out _ ((((Ext.refl _).alloc _).alloc _).trans x3)).mono ?_;rintro e w5 ⟨rfl,x5'⟩))
     go_ret;exact⟨ret_i hr.out.symm,(((Ext.refl _).alloc _).alloc _).trans x3⟩
    have t2:decide (z3 < 1)=false:=decide_eq_false r2;by_cases r3:1048576 < z3
    ·have t3:decide (1048576 < z3)=true:=decide_eq_true r3;have hr:Hid (V=3):=hid (by rw[HV.out,if_pos (.inr (.inr (.inr (.inl r3))))]);clear HV
     go_wp2_with (first
      | (go_at_call 72;refine(HNM.out _).mono ?_;rintro e w2 ⟨rfl,rfl⟩)
      | (go_at_call 140;refine(HFI.out _ (((Ext.refl _).alloc _).alloc _)).mono ?_;rintro e w3 ⟨rfl,x3⟩;have bb:=boxes x3;have n1:=bb.2 1 _ rfl;have n2:=bb.2 2 _ rfl;have n3:=bb.2 3 _ rfl;have n4:=bb.2 4 _ rfl;have n5:=bb.2 5 _ rfl;have n6:=bb.1 4 _ rfl;clear bb)
      | (go_at_call 141;refine(HPL.out _).mono ?_;rintro e w4 ⟨rfl,rfl⟩)
      | (go_at_call 142;refine(HPO.out _ ((((Ext.refl _).alloc _).alloc _).trans x3)).mono ?_;rintro e w5 ⟨rfl,x5'⟩))
     go_ret;exact⟨ret_i hr.out.symm,(((Ext.refl _).alloc _).alloc _).trans x3⟩
    have t3:decide (1048576 < z3)=false:=decide_eq_false r3;by_cases r4:z4 < -1
    ·have t4:decide (z4 < -1)=true:=decide_eq_true r4;have hr:Hid (V=3):=hid (by rw[HV.out,if_pos (.inr (.inr (.inr (.inr (.inl r4)))))]);clear HV
     go_wp2_with (first
      | (go_at_call 72;refine(HNM.out _).mono ?_;rintro e w2 ⟨rfl,rfl⟩)
      | (go_at_call 140;refine(HFI.out _ (((Ext.refl _).alloc _).alloc _)).mono ?_;rintro e w3 ⟨rfl,x3⟩;have bb:=boxes x3;have n1:=bb.2 1 _ rfl;have n2:=bb.2 2 _ rfl;have n3:=bb.2 3 _ rfl;have n4:=bb.2 4 _ rfl;have n5:=bb.2 5 _ rfl;have n6:=bb.1 4 _ rfl;clear bb)
      | (go_at_call 141;refine(HPL.out _).mono ?_;rintro e w4 ⟨rfl,rfl⟩)
      | (go_at_call 142;refine(HPO.out _ ((((Ext.refl _).alloc _).alloc _).trans x3)).mono ?_;rintro e w5 ⟨rfl,x5'⟩))
     go_ret;exact⟨ret_i hr.out.symm,(((Ext.refl _).alloc _).alloc _).trans x3⟩
    have t4:decide (z4 < -1)=false:=decide_eq_false r4;by_cases r5:(cl:Int)<=z4
    ·have t5:decide ((cl:Int)<=z4)=true:=decide_eq_true r5;have hr:Hid (V=3):=hid (by rw[HV.out,if_pos (.inr (.inr (.inr (.inr (.inr (r5))))))]);clear HV
     go_wp2_with (first
      | (go_at_call 72;refine(HNM.out _).mono ?_;rintro e w2 ⟨rfl,rfl⟩)
      | (go_at_call 140;refine(HFI.out _ (((Ext.refl _).alloc _).alloc _)).mono ?_;rintro e w3 ⟨rfl,x3⟩;have bb:=boxes x3;have n1:=bb.2 1 _ rfl;have n2:=bb.2 2 _ rfl;have n3:=bb.2 3 _ rfl;have n4:=bb.2 4 _ rfl;have n5:=bb.2 5 _ rfl;have n6:=bb.1 4 _ rfl;clear bb)
      | (go_at_call 141;refine(HPL.out _).mono ?_;rintro e w4 ⟨rfl,rfl⟩)
      | (go_at_call 142;refine(HPO.out _ ((((Ext.refl _).alloc _).alloc _).trans x3)).mono ?_;rintro e w5 ⟨rfl,x5'⟩))
     go_ret;exact⟨ret_i hr.out.symm,(((Ext.refl _).alloc _).alloc _).trans x3⟩
    have t5:decide ((cl:Int)<=z4)=false:=decide_eq_false r5;have HV1:Hid (V=if 8 < pl then 2 else PE):=hid (by rw[HV.out,if_neg (by omega)]);clear HV;have HV:=HV1;clear HV1 r0 r1 r2 r3 r4 r5;by_cases h8:8 < pl
    ·have g8:decide ((8:Int) < pl)=true:=decide_eq_true (by omega);have hr:Hid (V=2):=hid (by rw[HV.out,if_pos h8]);clear HV
     go_wp2_with (first
      | (go_at_call 72;refine(HNM.out _).mono ?_;rintro e w2 ⟨rfl,rfl⟩)
      | (go_at_call 140;refine(HFI.out _ (((Ext.refl _).alloc _).alloc _)).mono ?_;rintro e w3 ⟨rfl,x3⟩;have bb:=boxes x3;have n1:=bb.2 1 _ rfl;have n2:=bb.2 2 _ rfl;have n3:=bb.2 3 _ rfl;have n4:=bb.2 4 _ rfl;have n5:=bb.2 5 _ rfl;have n6:=bb.1 4 _ rfl;clear bb)
      | (go_at_call 141;refine(HPL.out _).mono ?_;rintro e w4 ⟨rfl,rfl⟩)
      | (go_at_call 142;refine(HPO.out _ ((((Ext.refl _).alloc _).alloc _).trans x3)).mono ?_;rintro e w5 ⟨rfl,x5'⟩))
     go_ret;exact⟨ret_i hr.out.symm,(((Ext.refl _).alloc _).alloc _).trans x3⟩
    ·have g8:decide ((8:Int) < pl)=false:=decide_eq_false (by omega);have hr:Hid (V=PE):=hid (by rw[HV.out,if_neg h8]);clear HV
     go_wp2_with (first
      | (go_at_call 72;refine(HNM.out _).mono ?_;rintro e w2 ⟨rfl,rfl⟩)
      | (go_at_call 140;refine(HFI.out _ (((Ext.refl _).alloc _).alloc _)).mono ?_;rintro e w3 ⟨rfl,x3⟩;have bb:=boxes x3;have n1:=bb.2 1 _ rfl;have n2:=bb.2 2 _ rfl;have n3:=bb.2 3 _ rfl;have n4:=bb.2 4 _ rfl;have n5:=bb.2 5 _ rfl;have n6:=bb.1 4 _ rfl;clear bb)
      | (go_at_call 141;refine(HPL.out _).mono ?_;rintro e w4 ⟨rfl,rfl⟩)
      | (go_at_call 142;refine(HPO.out _ ((((Ext.refl _).alloc _).alloc _).trans x3)).mono ?_;rintro e w5 ⟨rfl,x5'⟩))
     go_ret;exact⟨ret_i hr.out.symm,((((Ext.refl _).alloc _).alloc _).trans x3).trans x5'⟩
end Go.Proofs.YtjaeedbjknejdaaGreatDoor.Nm

namespace Go.Proofs.YtjaeedbjknejdaaGreatDoor.Nm
open Go.RowKit Go.Sort Go.Lib Go.Shelf Fx Lx Tr At
theorem wrap_sm {x:Int}(h0 : -1000000000<=x)(h1:x<=1000000000):IntKind.i64.wrap x=x:=IntWalk.i64_in _ (by omega)
theorem depT_step (C:List (ByteArray × Int))(f:Nat){c:Nat}(h:c < C.length):depT C (f+1) (c:Int)=1+depT C f C[c].2:=by
 rw[depT,if_neg (by omega)];have e:(C[((c:Int)).toNat]?.map Prod.snd).getD (-1)=C[c].2:=by rw[Int.toNat_natCast,List.getElem?_eq_getElem h];rfl
 rw[e]
theorem depT_end (C:List (ByteArray × Int))(f:Nat){c:Int}(h:c < 0):depT C f c=0:=by
 cases f with
 | zero=>rfl
 | succ f=>rw[depT,if_pos h]
theorem depthR_any (g:Gr)(va:Value)(i:Nat)(w:World)(ha:GrIn w va g)(hi:i < g.C.length)(hC:g.C.length<=1000000000)(hp:∀ k (h:k < g.C.length),k<=i->g.C[k].2 < k /\ -1<=g.C[k].2):
  Calls Tryz.prog 143 #[va,.int .i64 (i:Int)] w fun e w'=>e=.returned (.int .i64 (depT g.C (i+1) i:Int))/\Ext w w':=by
 obtain⟨na,nac,ea,eac,ca,cac,rfl,-,-,a3⟩:=ha;obtain⟨nm,dir,NN,EE,CC⟩:=g;dsimp only at *;obtain⟨q,hq⟩:∃ n,n=NN.length:=⟨_,rfl⟩;obtain⟨el,hel⟩:∃ n,n=EE.length:=⟨_,rfl⟩;obtain⟨cl,hcl⟩:∃ n,n=CC.length:=⟨_,rfl⟩;obtain⟨D,hD⟩:∃ n,n=depT CC (i+1) i:=⟨_,rfl⟩;rw[<-hq,<- hel,<- hcl,<- hD];rw[<-hcl] at hC;have hic:i < cl:=by rw[hcl];exact hi
 have A3:=hid a3;have HCL:=hid hcl;have HP:=hid hp;have HD:=hid hD;clear a3 hq hel hcl hp hD hi;go_enter Tryz.func143,Tryz.ntmps143;go_wp2;obtain⟨w1,hw1⟩:∃ w1,w1=w.alloc (.cells #[.string nm,.bool dir,.slice na q nac,.slice ea el eac,.slice ca cl cac] 26):=⟨_,rfl⟩;have X1:Hid (Ext (w.alloc (.cells #[.string nm,.bool dir,.slice na q nac,.slice ea el eac,.slice ca cl cac] 26)) w1):=hid (by rw[hw1];exact Ext.refl _);have XW:Hid (Ext w w1):=hid (((Ext.refl _).alloc _).trans X1.out);rw[<-hw1];clear hw1
 go_loopw [1,5] (fun c' n' wr=>∃ (c:Int) (n f:Nat),c'=.int .i64 c/\n'=.int .i64 n /\ -1<=c/\(n:Int)+c<=i/\c < f/\Hid (n+depT CC f c=D)/\Ext w1 wr) (fun c' _ _=>(RowKit.intOf c'+1).toNat)
 case atStart=>exact⟨i,0,i+1,rfl,rfl,by omega,by omega,by omega,hid (by rw[HD.out];omega),Ext.refl _⟩
 obtain⟨c,n,f,rfl,rfl,hc1,hnc,hcf,hd,hx⟩:=hrel;have e0:=box1 (X1.out.trans hx) 4 _ rfl;by_cases hlt:0<=c
 ·obtain⟨k,rfl⟩:∃ k:Nat,c=(k:Int):=⟨c.toNat,by omega⟩;have hkC:k < CC.length:=by rw[<-HCL.out];omega
  obtain⟨f',rfl⟩:∃ f',f=f'+1:=⟨f - 1,by omega⟩;have hd1:=hd.out;rw[depT_step CC f' hkC] at hd1;obtain⟨g1,o1,rfl,x0,x1⟩:=(A3.out.ext (XW.out.trans hx)) k hkC;obtain⟨h1,h2⟩:=HP.out k hkC (by omega);obtain⟨p,hpe⟩:∃ p,p=CC[k].2:=⟨_,rfl⟩;rw[<-hpe] at x1 h1 h2 hd1;have HD1:Hid (n+1+depT CC f' p=D):=hid (by omega);have b0:(0:Int)<=(k:Int):=by omega
  have b1:(k:Int) < (cl:Int):=by omega
  have ws:=wrap_sm (x:=(n:Int)+1) (by omega) (by omega);clear hd hd1 hpe x0;go_wp2
  go_roundw
  case rel=>exact⟨p,n+1,f',rfl,by go_num,by omega,by omega,by omega,HD1,hx⟩
  case measure=>simp[RowKit.intOf];omega
 have hd1:=hd.out;rw[depT_end CC f (by omega)] at hd1;have hnD:n=D:=by omega
 have HND:=hid hnD;clear hd hd1 hnD;have d0:decide (0<=c)=false:=decide_eq_false hlt;go_wp2;go_ret;exact⟨ret_i (by rw[HND.out]),XW.out.trans hx⟩
end Go.Proofs.YtjaeedbjknejdaaGreatDoor.Nm
