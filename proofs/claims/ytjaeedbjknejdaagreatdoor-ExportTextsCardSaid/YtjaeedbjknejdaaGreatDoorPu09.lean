/- Packed texts: ExpVal, NorMem, NorSame, NorFindR, NorPlainR -/
import Derived.Test.YtjaeedbjknejdaaGreatDoorPu08
import Derived.StillTailTactics
set_option linter.unusedVariables false
set_option linter.unusedSimpArgs false
set_option maxHeartbeats 16000000
set_option maxRecDepth 100000
namespace Go.Proofs.YtjaeedbjknejdaaGreatDoor.Ex
open Go.Lib Fx Lx Tr At Go.Proofs.YtjaeedbjknejdaaGreatDoor.Nm
theorem nds_all {nc:Nat}:∀ (L D:List Nd),ndsE nc L D=0->∀ (k:Nat) (h:k < L.length),ndE nc (D++L.take k) L[k]=0
  | [],_,_,k,h=>absurd h (by simp)
  | x::r,D,h,0,_=>by
    unfold ndsE at h;simp only[List.take_zero,List.append_nil,List.getElem_cons_zero];by_cases h1:ndE nc D x=0
    · exact h1
    · rw[if_pos h1] at h;exact absurd h h1
  | x::r,D,h,k+1,hk=>by
    unfold ndsE at h;by_cases h1:ndE nc D x=0
    · rw[if_neg (by simpa using h1)] at h;have:=nds_all r (D++[x]) h k (by simpa using hk)
      simpa using this
    · rw[if_pos h1] at h;exact absurd h h1
theorem nd_ok {nc:Nat}{D:List Nd}{x:Nd}(h:ndE nc D x=0):nameB x.name.data.toList=true/\(D.any fun p=>decide (p.name=x.name))=false/\labE x.label=0/\1<=x.w/\x.w<=1048576/\1<=x.h/\x.h<=1048576 /\ -1<=x.c/\x.c < nc/\prtE x.ports=0:=by
  unfold ndE at h;split at h
  · exact absurd h (by decide)
  split at h
  · exact absurd h (by decide)
  split at h
  · rename_i h3;exact absurd h h3
  split at h
  · exact absurd h (by decide)
  rename_i h1 h2 h3 h4;exact⟨by simpa using h1,by simpa using h2,by simpa using h3,by omega,by omega,by omega,by omega,by omega,by omega,h⟩
theorem cls_all {N:List Nd}{C:List (ByteArray × Int)}:∀ (L:List (ByteArray × Int)) (i:Nat),clsE N C i L=0->∀ (k:Nat) (h:k < L.length),clE N C (i+k) L[k]=0
  | [],_,_,k,h=>absurd h (by simp)
  | x::r,i,h,0,_=>by
    unfold clsE at h;by_cases h1:clE N C i x=0
    · exact h1
    · rw[if_pos h1] at h;exact absurd h h1
  | x::r,i,h,k+1,hk=>by
    unfold clsE at h;by_cases h1:clE N C i x=0
    · rw[if_neg (by simpa using h1)] at h;have:=cls_all r (i+1) h k (by simpa using hk);rw[show i+(k+1)=i+1+k by omega]
      simpa using this
    · rw[if_pos h1] at h;exact absurd h h1
theorem cl_ok {N:List Nd}{C:List (ByteArray × Int)}{i:Nat}{x:ByteArray × Int}(h:clE N C i x=0):nameB x.1.data.toList=true/\(N.any fun p=>decide (p.name=x.1))=false/\((C.take i).any fun p=>decide (p.1=x.1))=false /\ -1<=x.2/\x.2 < i/\depT C (i+1) i<=6:=by
  unfold clE at h;split at h
  · exact absurd h (by decide)
  split at h
  · exact absurd h (by decide)
  split at h
  · exact absurd h (by decide)
  split at h
  · exact absurd h (by decide)
  rename_i h1 h2 h3 h4;have h2':¬ ((N.any fun p=>decide (p.name=x.1))=true)/\¬ (((C.take i).any fun p=>decide (p.1=x.1))=true):=⟨fun e=>h2 (.inl e),fun e=>h2 (.inr e)⟩;exact⟨by simpa using h1,Bool.eq_false_iff.2 h2'.1,Bool.eq_false_iff.2 h2'.2,by omega,by omega,by omega⟩
theorem eds_all {N:List Nd}:∀ (L:List Ed),edsE N L=0->∀ x ∈ L,edE N x=0
  | [],_,_,h=>by cases h
  | y::r,h,x,hx=>by
    unfold edsE at h;by_cases h1:edE N y=0
    · rw[if_neg (by simpa using h1)] at h;rcases List.mem_cons.1 hx with rfl | hx
      · exact h1
      exact eds_all r h x hx
    · rw[if_pos h1] at h;exact absurd h h1
theorem ed_ok {N:List Nd}{x:Ed}(h:edE N x=0):0<=x.a/\x.a < N.length/\0<=x.b/\x.b < N.length /\ -1<=x.ap/\x.ap < portsOf N x.a /\ -1<=x.bp/\x.bp < portsOf N x.b/\labE x.label=0/\1<=x.wt/\x.wt<=1000/\1<=x.len/\x.len<=64:=by
  unfold edE at h;split at h
  · exact absurd h (by decide)
  split at h
  · rename_i h3;exact absurd h h3
  split at h
  · exact absurd h (by decide)
  rename_i h1 h2 h3;refine⟨by omega,by omega,by omega,by omega,by omega,by omega,by omega,by omega,by simpa using h2,by omega,by omega,by omega,by omega⟩
structure GrOk (g:Gr):Prop where
  nl:g.N.length<=64
  el:g.E.length<=256
  cl:g.C.length<=16
  nm:nameB g.name.data.toList=true
  nd:∀ (k:Nat) (h:k < g.N.length),ndE g.C.length (g.N.take k) g.N[k]=0
  cs:∀ (k:Nat) (h:k < g.C.length),clE g.N g.C k g.C[k]=0
  ed:∀ x ∈ g.E,edE g.N x=0
theorem gr_ok {g:Gr}(h:grE g=0):GrOk g:=by
  unfold grE at h;split at h
  · exact absurd h (by decide)
  split at h
  · exact absurd h (by decide)
  split at h
  · rename_i h3;exact absurd h h3
  split at h
  · rename_i h3;exact absurd h h3
  rename_i h1 h2 h3 h4;refine⟨by omega,by omega,by omega,by simpa using h2,fun k hk=>?_,fun k hk=>?_,eds_all _ h⟩
  · have:=nds_all g.N [] (by simpa using h3) k hk
    simpa using this
  have:=cls_all g.C 0 (by simpa using h4) k hk
  simpa using this
theorem prt_all : ∀ (L D:List Prt),prtGo L D=0->∀ (k:Nat) (h:k < L.length),nameB L[k].1.data.toList=true/\((D++L.take k).any fun p=>decide (p.1=L[k].1))=false/\0<=L[k].2/\L[k].2<=3
  | [],_,_,k,h=>absurd h (by simp)
  | x::r,D,h,k,hk=>by
    unfold prtGo at h;split at h
    · exact absurd h (by decide)
    · split at h
      · exact absurd h (by decide)
      split at h
      · exact absurd h (by decide)
      · rename_i h1 h2 h3;cases k with
        | zero=>exact⟨by simpa using h1,by rw[List.take_zero,List.append_nil];exact Bool.eq_false_iff.2 h2,by simp only[List.getElem_cons_zero];omega,by simp only[List.getElem_cons_zero];omega⟩
        | succ k =>
          have:=prt_all r (D++[x]) h k (by simpa using hk)
          simpa using this
theorem prt_ok {L:List Prt}(h:prtE L=0):L.length<=8/\∀ (k:Nat) (hk:k < L.length),nameB L[k].1.data.toList=true/\((L.take k).any fun p=>decide (p.1=L[k].1))=false/\0<=L[k].2/\L[k].2<=3:=by
  unfold prtE at h;split at h
  · exact absurd h (by decide)
  refine⟨by omega,fun k hk=>?_⟩;have:=prt_all L [] h k hk
  simpa using this
theorem lab_size {s:ByteArray}(h:labE s=0):s.size<=32/\s.data.toList.all Tr.okT=true:=by
  unfold labE at h;split at h
  · exact absurd h (by decide)
  split at h
  · exact absurd h (by decide)
  rename_i h1 h2;exact⟨by omega,by simpa using h2⟩
end Go.Proofs.YtjaeedbjknejdaaGreatDoor.Ex

namespace Go.Proofs.YtjaeedbjknejdaaGreatDoor.Nm
open Go.RowKit Go.Lib Fx Lx At
def NdIn (w:World)(a:Option Addr)(L:List Nd):Prop :=
  ∀ k (h:k < L.length),∃ g o p c,a=some ⟨g,o,none⟩/\w.cell? ⟨g,o+k * 6,none⟩=some (.string L[k].name)/\w.cell? ⟨g,o+k * 6+1,none⟩=some (.string L[k].label) /\
    w.cell? ⟨g,o+k * 6+2,none⟩=some (.int .i64 L[k].w)/\w.cell? ⟨g,o+k * 6+3,none⟩=some (.int .i64 L[k].h)/\w.cell? ⟨g,o+k * 6+4,none⟩=some (.int .i64 L[k].c) /\
    w.cell? ⟨g,o+k * 6+5,none⟩=some (.slice p L[k].ports.length c)/\PrtIn w p L[k].ports
def EdIn (w:World)(a:Option Addr)(L:List Ed):Prop :=
  ∀ k (h:k < L.length),∃ g o,a=some ⟨g,o,none⟩/\w.cell? ⟨g,o+k * 7,none⟩=some (.int .i64 L[k].a)/\w.cell? ⟨g,o+k * 7+1,none⟩=some (.int .i64 L[k].b) /\
    w.cell? ⟨g,o+k * 7+2,none⟩=some (.int .i64 L[k].ap)/\w.cell? ⟨g,o+k * 7+3,none⟩=some (.int .i64 L[k].bp)/\w.cell? ⟨g,o+k * 7+4,none⟩=some (.string L[k].label) /\
    w.cell? ⟨g,o+k * 7+5,none⟩=some (.int .i64 L[k].wt)/\w.cell? ⟨g,o+k * 7+6,none⟩=some (.int .i64 L[k].len)
def ClIn (w:World)(a:Option Addr)(L:List (ByteArray × Int)):Prop :=
  ∀ k (h:k < L.length),∃ g o,a=some ⟨g,o,none⟩/\w.cell? ⟨g,o+k * 2,none⟩=some (.string L[k].1)/\w.cell? ⟨g,o+k * 2+1,none⟩=some (.int .i64 L[k].2)
theorem NdIn.ext {w w':World}{a:Option Addr}{L:List Nd}(h:NdIn w a L)(x:Ext w w'):NdIn w' a L:=fun k hk=>by
  obtain⟨g,o,p,c,ha,h0,h1,h2,h3,h4,h5,h6⟩:=h k hk;exact⟨g,o,p,c,ha,x.cell h0,x.cell h1,x.cell h2,x.cell h3,x.cell h4,x.cell h5,h6.ext x⟩
theorem EdIn.ext {w w':World}{a:Option Addr}{L:List Ed}(h:EdIn w a L)(x:Ext w w'):EdIn w' a L:=fun k hk=>by
  obtain⟨g,o,ha,h0,h1,h2,h3,h4,h5,h6⟩:=h k hk;exact⟨g,o,ha,x.cell h0,x.cell h1,x.cell h2,x.cell h3,x.cell h4,x.cell h5,x.cell h6⟩
theorem ClIn.ext {w w':World}{a:Option Addr}{L:List (ByteArray × Int)}(h:ClIn w a L)(x:Ext w w'):ClIn w' a L:=fun k hk=>by
  obtain⟨g,o,ha,h0,h1⟩:=h k hk;exact⟨g,o,ha,x.cell h0,x.cell h1⟩
def GrIn (w:World)(v:Value)(g:Gr):Prop :=
  ∃ n nc e ec c cc,v=.agg #[.string g.name,.bool g.dir,.slice n g.N.length nc,.slice e g.E.length ec,.slice c g.C.length cc]/\NdIn w n g.N/\EdIn w e g.E/\ClIn w c g.C
theorem GrIn.ext {w w':World}{v:Value}{g:Gr}(h:GrIn w v g)(x:Ext w w'):GrIn w' v g:=by
  obtain⟨n,nc,e,ec,c,cc,hv,h1,h2,h3⟩:=h;exact⟨n,nc,e,ec,c,cc,hv,h1.ext x,h2.ext x,h3.ext x⟩
end Go.Proofs.YtjaeedbjknejdaaGreatDoor.Nm

namespace Go.Proofs.YtjaeedbjknejdaaGreatDoor.Nm
open Go.RowKit Go.Lib Fx Lx At
theorem boxes {w w1:World}{c d:Array Value}{T U:TypeId}(h:Ext ((w.alloc (.cells c T)).alloc (.cells d U)) w1):(∀ j v,c[j]? = some v->w1.cell? ⟨w.heap.size,j,none⟩=some v)/\(∀ j v,d[j]? = some v->w1.cell? ⟨w.heap.size+1,j,none⟩=some v):=by
  refine⟨fun j v hv=>h.cell (((Ext.refl _).alloc _).cell ?_),fun j v hv=>h.cell ?_⟩
  · rw[Lib.cell_of_heap (heap_alloc_new w _)];exact hv
  have:=heap_alloc_new (w.alloc (.cells c T)) (.cells d U);rw[World.size_alloc] at this;rw[Lib.cell_of_heap this];exact hv
end Go.Proofs.YtjaeedbjknejdaaGreatDoor.Nm

namespace Go.Proofs.YtjaeedbjknejdaaGreatDoor.Nm
open Go.RowKit Go.Lib Fx Lx At
def findGo (n:ByteArray):Int->List Nd->Int
  | _,[] => -1
  | k,x::r=>if x.name=n then k else findGo n (k+1) r
def findT (L:List Nd)(n:ByteArray):Int:=findGo n 0 L
theorem findGo_hit (n:ByteArray):∀ (L:List Nd) (b:Int) (k:Nat) (h:k < L.length),(∀ j (hj:j < L.length),j < k->L[j].name ≠ n)->L[k].name=n->findGo n b L=b+k
  | x::r,b,0,_,_,hx=>by
    have hx:x.name=n:=hx;unfold findGo;rw[if_pos hx];simp
  | x::r,b,k+1,h,hall,hx=>by
    unfold findGo;have h0:x.name ≠ n:=hall 0 (by simp) (by omega);rw[if_neg h0,findGo_hit n r (b+1) k (by simpa using h) (fun j hj hjk=>hall (j+1) (by simpa using hj) (by omega)) (by simpa using hx)];omega
theorem findGo_miss (n:ByteArray):∀ (L:List Nd) (b:Int),(∀ j (hj:j < L.length),L[j].name ≠ n)->findGo n b L = -1
  | [],_,_=>rfl
  | x::r,b,hall=>by
    unfold findGo;have h0:x.name ≠ n:=hall 0 (by simp);rw[if_neg h0,findGo_miss n r (b+1) (fun j hj=>hall (j+1) (by simpa using hj))]
theorem box1 {w w1:World}{c:Array Value}{T:TypeId}(h:Ext (w.alloc (.cells c T)) w1):∀ j v,c[j]? = some v->w1.cell? ⟨w.heap.size,j,none⟩=some v:=fun j v hv=>h.cell (by rw[Lib.cell_of_heap (heap_alloc_new w _)];exact hv)
theorem findR_any (g:Gr)(va:Value)(n:ByteArray)(w:World)(ha:GrIn w va g)(hN:g.N.length<=4611686018427387904):
    Calls Tryz.prog 140 #[va,.string n] w fun e w'=>e=.returned (.int .i64 (findT g.N n))/\Ext w w':=by
  obtain⟨na,nac,ea,eac,ca,cac,rfl,a1,-,-⟩:=ha;obtain⟨nm,dir,NN,EE,CC⟩:=g;dsimp only at *;obtain⟨q,hq⟩:∃ n,n=NN.length:=⟨_,rfl⟩;obtain⟨el,hel⟩:∃ n,n=EE.length:=⟨_,rfl⟩;obtain⟨cl,hcl⟩:∃ n,n=CC.length:=⟨_,rfl⟩;rw[<-hq] at hN ⊢;rw[<-hel,<- hcl];have A1:=Lib.hid a1;have HQ:=Lib.hid hq;clear a1 hq hel hcl;go_enter Tryz.func140,Tryz.ntmps140;go_wp2;obtain⟨w1,hw1⟩:∃ w1,w1=w.alloc (.cells #[.string nm,.bool dir,.slice na q nac,.slice ea el eac,.slice ca cl cac] 26):=⟨_,rfl⟩;have X1:Hid (Ext (w.alloc (.cells #[.string nm,.bool dir,.slice na q nac,.slice ea el eac,.slice ca cl cac] 26)) w1):=Lib.hid (by rw[hw1];exact Ext.refl _);have XW:Hid (Ext w w1):=Lib.hid (((Ext.refl _).alloc _).trans X1.out);rw[<-hw1];clear hw1
  go_loopw [5] (fun i' wr=>∃ k:Nat,k<=q/\i'=.int .i64 k/\Hid (∀ j (hj:j < NN.length),j < k->NN[j].name ≠ n)/\Ext w1 wr) (fun i' _=>q - (RowKit.intOf i').toNat)
  case atStart=>exact⟨0,Nat.zero_le _,rfl,Lib.hid (fun j _ h=>absurd h (by omega)),Ext.refl _⟩
  obtain⟨k,hk,rfl,hall,hx⟩:=hrel;have e0:=box1 (X1.out.trans hx) 2 _ rfl;by_cases hlt:k < q
  · have hkN:k < NN.length:=by rw[<-HQ.out];exact hlt
    obtain⟨g1,o1,p1,c1,rfl,x0,x1,x2,x3,x4,x5,x6⟩:=(A1.out.ext (XW.out.trans hx)) k hkN;obtain⟨s,hs⟩:∃ s,s=NN[k].name:=⟨_,rfl⟩;rw[<-hs] at x0;have HS:=Lib.hid hs;have b0:(0:Int)<=(k:Int):=by omega
    have b1:(k:Int) < (q:Int):=by omega
    clear hs x1 x2 x3 x4 x5 x6;by_cases heq:s=n
    · have f1:(s.toList == n.toList)=true:=by rw[beqs];exact decide_eq_true heq
      have hr:Hid (findT NN n=(k:Int)):=Lib.hid (by
        unfold findT
        rw[findGo_hit n NN 0 k hkN hall.out (by rw[<-HS.out];exact heq)];omega)
      clear heq hall HS;go_wp2;go_ret;exact⟨congrArg (fun z=>Ending.returned (Value.int .i64 z)) hr.out.symm,XW.out.trans hx⟩
    have f1:(s.toList == n.toList)=false:=by rw[beqs];exact decide_eq_false heq
    have hf:Hid (∀ j (hj:j < NN.length),j < k+1->NN[j].name ≠ n):=Lib.hid (fun j hj h=>by
      by_cases e:j=k
      · subst e;rw[<-HS.out];exact heq
      exact hall.out j hj (by omega))
    clear heq hall HS;go_wp2
    go_roundw
    case rel=>exact⟨k+1,by omega,by go_num,hf,hx⟩
    case measure=>simp[RowKit.intOf];omega
  have hr:Hid (findT NN n = -1):=Lib.hid (findGo_miss n NN 0 (fun j hj=>hall.out j hj (by rw[<-HQ.out] at hj;omega)));clear hall;go_wp2;go_ret;exact⟨congrArg (fun z=>Ending.returned (Value.int .i64 z)) hr.out.symm,XW.out.trans hx⟩
end Go.Proofs.YtjaeedbjknejdaaGreatDoor.Nm

namespace Go.Proofs.YtjaeedbjknejdaaGreatDoor.Nm
open Go.RowKit Go.Sort Go.Lib Go.Shelf Fx Lx Tr At
theorem ret_b {a b:Bool}(h:a=b):Ending.returned (.bool a)=.returned (.bool b):=by rw[h]
theorem ret_i {a b:Int}(h:a=b):Ending.returned (.int .i64 a)=.returned (.int .i64 b):=by rw[h]
theorem plainR_any (d:ByteArray)(hd0:d.size<=4611686018427387904)(w:World):
    Calls Tryz.prog 141 #[.string d] w fun e w'=>e=.returned (.bool (d.data.toList.all Tr.okT))/\w'=w:=by
  obtain⟨q,hq'⟩:∃ q,q=d.data.toList.all Tr.okT:=⟨_,rfl⟩;rw[<-hq'];have HQ:Hid (q=(d.data.toList.drop 0).all Tr.okT):=Lib.hid (by rw[List.drop_zero];exact hq');clear hq';go_enter Tryz.func141,Tryz.ntmps141;go_wp2
  go_loop [3] (fun m'=>∃ m:Nat,m<=d.size/\m'=.int .i64 m/\Hid (q=(d.data.toList.drop m).all Tr.okT)) (fun m'=>d.size - (RowKit.intOf m').toNat)
  case atStart=>exact⟨0,by omega,rfl,HQ⟩
  obtain⟨m,hm,rfl,hb⟩:=hrel;clear HQ;by_cases hjd:m < d.size
  · have hb':=hb.out
    have hd:d.data.toList.drop m=d[m]::d.data.toList.drop (m+1):=by
      rw[List.drop_eq_getElem_cons (by rw[<-size_len];exact hjd)];rfl
    rw[hd,List.all_cons] at hb';clear hb hd;by_cases k1:32<=d[m].toNat
    · by_cases k2:d[m].toNat<=126
      · have hf:Hid (q=(d.data.toList.drop (m+1)).all Tr.okT):=Lib.hid (by
          rw[hb'];unfold Tr.okT;rw[decide_eq_true k1,decide_eq_true k2];rfl)
        have g2:decide ((126:Int) < d[m].toNat)=false:=decide_eq_false (by omega);have g3:decide ((d[m].toNat:Int) < 32)=false:=decide_eq_false (by omega);clear hb';go_wp2
        go_round
        case rel=>exact⟨m+1,by omega,by go_num,hf⟩
        case measure=>simp[RowKit.intOf];omega
      have hf:Hid (q=false):=Lib.hid (by
        rw[hb'];unfold Tr.okT;rw[decide_eq_false k2];simp)
      have g2:decide ((126:Int) < d[m].toNat)=true:=decide_eq_true (by omega);have g3:decide ((d[m].toNat:Int) < 32)=false:=decide_eq_false (by omega);clear hb';go_wp2;go_returns;exact⟨ret_b hf.out.symm,rfl⟩
    have hf:Hid (q=false):=Lib.hid (by
      rw[hb'];unfold Tr.okT;rw[decide_eq_false k1];simp)
    have g3:decide ((d[m].toNat:Int) < 32)=true:=decide_eq_true (by omega);clear hb';go_wp2;go_returns;exact⟨ret_b hf.out.symm,rfl⟩
  have hf:Hid (q=true):=Lib.hid (by
    rw[hb.out,List.drop_eq_nil_of_le (by rw[<-size_len];omega)];rfl)
  clear hb;go_wp2;go_returns;exact⟨ret_b hf.out.symm,rfl⟩
end Go.Proofs.YtjaeedbjknejdaaGreatDoor.Nm
