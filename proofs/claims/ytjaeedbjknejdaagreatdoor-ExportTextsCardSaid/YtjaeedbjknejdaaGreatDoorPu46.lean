/- Packed texts: TreLisR, TreStmR, TreStsR, TrePriR, TreLen -/
import Derived.Test.YtjaeedbjknejdaaGreatDoorPu45
set_option linter.unusedVariables false
set_option linter.unusedSimpArgs false
set_option maxHeartbeats 16000000
set_option maxRecDepth 100000
namespace Go.Proofs.YtjaeedbjknejdaaGreatDoor.Tr
open Go.RowKit Go.Sort Go.Lib Go.Shelf Fx Lx
abbrev bs (l:List UInt8):ByteArray:=⟨l.toArray⟩
theorem bs_app (a b:List UInt8):bs a++bs b=bs (a++b):=by
  apply ByteArray.ext;simp[ByteArray.data_append]
theorem bs_data (s:ByteArray):bs s.data.toList=s:=by cases s;simp
theorem bs_size (l:List UInt8):(bs l).size=l.length:=by simp[ByteArray.size]
theorem add_run (a b:ByteArray)(h:a.size+b.size<=140737488355328):∀ w,(Op.stringOp .add a b).run Tryz.prog w=.ok (.string (a++b)) w:=fun w=>run_string_add_sum w _ _ (Nat.le_trans h (by decide))
def listRT (a:List Two):List UInt8:=if a.isEmpty=true then [] else listedT a
def listP (a:List Two):List UInt8:=91::sepT [44,32] (a.map attrT)
theorem listP_snoc (a:List Two)(q:Two):listP (a++[q])=if a.isEmpty=true then 91::attrT q else listP a++[44,32]++attrT q:=by
  unfold listP;rw[List.map_append,List.map_cons,List.map_nil,sepT_snoc];cases a <;> simp
theorem sepT_prefix (sep:List UInt8)(M:List (List UInt8)):∀ L:List (List UInt8),(sepT sep L).length<=(sepT sep (L++M)).length
  | []=>by simp[sepT]
  | [x]=>by
    cases M with
    | nil=>exact Nat.le_refl _
    | cons y r=>show x.length<=(x++sep++sepT sep (y::r)).length;rw[List.length_append,List.length_append];omega
  | x::y::r=>by
    have:=sepT_prefix sep M (y::r);show(x++sep++sepT sep (y::r)).length<=(x++sep++sepT sep (y::r++M)).length;simp only[List.length_append] at this ⊢;omega
theorem listR_any (a:Option Addr)(L:List Two)(cap:Nat)(w:World)(h:TwoIn w a L)(hL:L.length<=2000000)(hs:∀ q ∈ L,q.2.size < 4294967281)(hlen:(listedT L).length<=140737488355328):
    Calls Tryz.prog 204 #[.slice a L.length cap] w fun e w'=>e=.returned (.string (bs (listRT L)))/\Ext w w':=by
  by_cases h0:L=[]
  · subst h0;clear h hs hlen hL;go_enter Tryz.func204,Tryz.ntmps204;go_wp2;go_returns;exact⟨rfl,Ext.refl _⟩
  have hp0:0 < L.length:=List.length_pos_iff.2 h0;obtain⟨V,hV⟩:∃ V:ByteArray,V=bs (listRT L):=⟨_,rfl⟩;rw[<-hV]
  have hVV:V=bs (listP L)++⟨#[93]⟩:=by
    rw[hV,show(⟨#[93]⟩:ByteArray)=bs [93] from rfl,bs_app];unfold listRT listedT listP;rw[if_neg (by simpa using h0)]
    rfl
  have hle:∀ k,(listP (L.take k)).length<=140737488355327:=fun k=>by
    have:=sepT_prefix [44,32] ((L.drop k).map attrT) ((L.take k).map attrT);rw[<-List.map_append,List.take_append_drop] at this;unfold listP;unfold listedT at hlen;simp only[List.length_cons,List.length_append,List.length_nil] at hlen ⊢;omega
  obtain⟨N,hN⟩:∃ N,N=L.length:=⟨_,rfl⟩;have f1:((N:Int) == 0)=false:=by rw[beq_eq_false_iff_ne];omega
  rw[<-hN] at hL ⊢;have HV:=Lib.hid hVV;have HLE:=Lib.hid hle;have HN:=Lib.hid hN;have HI:=Lib.hid h;have HS:=Lib.hid hs;have HZ:Hid (bs (listP (L.take 0))=⟨#[91]⟩):=Lib.hid rfl;clear hVV hle hV hN h hs hlen h0 hp0;go_enter Tryz.func204,Tryz.ntmps204;go_wp2
  go_loopw [3,4] (fun s' i' wr=>∃ (k:Nat) (s:ByteArray),k<=N/\s'=.string s/\i'=.int .i64 k/\Ext w wr/\Hid (s=bs (listP (L.take k)))) (fun _ i' _=>N - (RowKit.intOf i').toNat)
  case atStart=>exact⟨0,_,by omega,rfl,rfl,Ext.refl _,Lib.hid HZ.out.symm⟩
  obtain⟨k,s,hk,rfl,rfl,hx,hb⟩:=hrel;clear HZ;by_cases hlt:k < N
  · have hkl:k < L.length:=by rw[<-HN.out];exact hlt
    obtain⟨g,o,rfl,c0,c1⟩:=(HI.out.ext hx) k hkl;have hs2:=HS.out _ (List.getElem_mem hkl)
    have hsn:listP (L.take (k+1))=if(L.take k).isEmpty=true then 91::attrT L[k] else listP (L.take k)++[44,32]++attrT L[k]:=by
      rw[List.take_succ_eq_append_getElem hkl,listP_snoc]
    have hlk:=HLE.out (k+1);obtain⟨n,d,hq⟩:∃ n d,L[k]=(n,d):=⟨_,_,rfl⟩;rw[hq] at c0 c1 hs2 hsn;obtain⟨T,hT⟩:∃ T:ByteArray,T=bs (valueT d):=⟨_,rfl⟩;have hval:∀ w',Calls Tryz.prog 205 #[.string d] w' fun e w''=>e=.returned (.string T)/\w'=w'':=fun w'=>by rw[hT];exact valueR_any d w' hs2
    have cV:∀ dd os,Calls Tryz.prog 205 #[.string d] (grow (redrawn wr dd) os) fun e w''=>e=.returned (.string T)/\∃ p:Regrown,w''=grow (redrawn wr p.d) p.os :=
      fun dd os=>Calls.regrown_of ((hval _).mono fun e w' ⟨he,hw⟩=>⟨he,hw ▸ Ext.refl _⟩)
    have k0:=cell_regrown c0;have k1:=cell_regrown c1;have CV:=Lib.hid cV;have hx2:∀ d2 os,Ext w (grow (redrawn wr d2) os):=fun d2 os=>hx.trans (below_regrown _ d2 os)
    have HX2:=Lib.hid hx2;by_cases hk0:k=0
    · have hfin:bs (listP (L.take (k+1)))=s++n++⟨#[61]⟩++T:=by
        rw[hsn,hb.out,hT];subst hk0;rw[if_pos (by simp)];unfold attrT;rw[show listP (L.take 0)=[91] from rfl,show(⟨#[61]⟩:ByteArray)=bs [61] from rfl]
        conv=>rhs;rw[<-bs_data n]
        rw[bs_app,bs_app,bs_app];simp
      have hz:s.size+n.size+1+T.size<=140737488355328:=by
        have h:(bs (listP (L.take (k+1)))).size=(s++n++(⟨#[61]⟩:ByteArray)++T).size:=by rw[hfin]
        rw[bs_size] at h;simp only[ByteArray.size_append] at h;have e1:(⟨#[61]⟩:ByteArray).size=1:=rfl;omega
      have a1:=add_run s n (by omega);have a2:=add_run (s++n) ⟨#[61]⟩ (by rw[ByteArray.size_append];show _+1<=_;omega);have a3:=add_run (s++n++⟨#[61]⟩) T (by rw[ByteArray.size_append,ByteArray.size_append];show _+1+_<=_;omega);have HF:=Lib.hid hfin.symm;have g0:decide (0 < k)=false:=decide_eq_false (by omega);have g0':¬ 0 < k:=by omega
      clear hfin hz hsn hlk hq hT hval cV hx2 hb hs2 c0 c1 hk0;go_wp2_with fail;refine wp_region_quiet_below (by kernel_rfl) (by kernel_rfl) ?_
      repeat (go_big_quiet_step ((go_at_call 205;exact CV.out _ _)))
      refine wpQuiet_nil ?_;intro _ hw';obtain⟨⟨dq,osq⟩,hw''⟩:=hw';subst hw'';go_wp2_with fail
      go_roundw
      case rel=>exact⟨k+1,_,by omega,rfl,by go_num,HX2.out _ _,HF⟩
      case measure=>simp[RowKit.intOf];omega
    have hfin:bs (listP (L.take (k+1)))=s++⟨#[44,32]⟩++n++⟨#[61]⟩++T:=by
      rw[hsn,hb.out,hT]
      rw[if_neg (by
        intro h;have h2:(L.take k).length=0:=by rw[List.isEmpty_iff.1 h];rfl
        rw[List.length_take] at h2
        omega)]
      unfold attrT;rw[show(⟨#[61]⟩:ByteArray)=bs [61] from rfl,show(⟨#[44,32]⟩:ByteArray)=bs [44,32] from rfl]
      conv=>rhs;rw[<-bs_data n]
      rw[bs_app,bs_app,bs_app,bs_app];simp
    have hz:s.size+2+n.size+1+T.size<=140737488355328:=by
      have h:(bs (listP (L.take (k+1)))).size=(s++(⟨#[44,32]⟩:ByteArray)++n++(⟨#[61]⟩:ByteArray)++T).size:=by rw[hfin]
      rw[bs_size] at h;simp only[ByteArray.size_append] at h;have e1:(⟨#[61]⟩:ByteArray).size=1:=rfl;have e2:(⟨#[44,32]⟩:ByteArray).size=2:=rfl;omega
    have a0:=add_run s ⟨#[44,32]⟩ (by show _+2<=_;omega);have a1:=add_run (s++⟨#[44,32]⟩) n (by rw[ByteArray.size_append];show _+2+_<=_;omega);have a2:=add_run (s++⟨#[44,32]⟩++n) ⟨#[61]⟩ (by rw[ByteArray.size_append,ByteArray.size_append];show _+2+_+1<=_;omega);have a3:=add_run (s++⟨#[44,32]⟩++n++⟨#[61]⟩) T (by rw[ByteArray.size_append,ByteArray.size_append,ByteArray.size_append];show _+2+_+1+_<=_;omega);have HF:=Lib.hid hfin.symm;have g0:0 < k:=by omega
    have g0':decide (0 < k)=true:=decide_eq_true (by omega);clear hfin hz hsn hlk hq hT hval cV hx2 hb hs2 c0 c1 hk0;go_wp2_with fail;refine wp_region_quiet_below (by kernel_rfl) (by kernel_rfl) ?_
    repeat (go_big_quiet_step ((go_at_call 205;exact CV.out _ _)))
    refine wpQuiet_nil ?_;intro _ hw';obtain⟨⟨dq,osq⟩,hw''⟩:=hw';subst hw'';go_wp2_with fail
    go_roundw
    case rel=>exact⟨k+1,_,by omega,rfl,by go_num,HX2.out _ _,HF⟩
    case measure=>simp[RowKit.intOf];omega
  have hf:s=bs (listP L):=by rw[hb.out,List.take_of_length_le (by rw[<-HN.out];omega)]
  have a1:=add_run s ⟨#[93]⟩ (by have:=HLE.out k;rw[hb.out,bs_size];show _+1<=_;omega);have HF:Hid (s++⟨#[93]⟩=V):=Lib.hid (by rw[HV.out,hf]);clear hb hf;go_wp2;go_returns;rw[<-HF.out];exact⟨rfl,hx⟩
end Go.Proofs.YtjaeedbjknejdaaGreatDoor.Tr

namespace Go.Proofs.YtjaeedbjknejdaaGreatDoor.Tr
open Go.RowKit Go.Sort Go.Lib Go.Shelf Fx Lx
def afterT (a:List Two):List UInt8:=if a.isEmpty=true then [] else 32::listedT a
theorem tailT_after (a:List Two):tailT a=afterT a++[59]:=by
  unfold tailT afterT;by_cases h:a.isEmpty=true
  · rw[if_pos h,if_pos h];rfl
  rw[if_neg h,if_neg h];rfl
theorem afterR_any (a:Option Addr)(L:List Two)(cap:Nat)(w:World)(h:TwoIn w a L)(hL:L.length<=2000000)(hs:∀ q ∈ L,q.2.size < 4294967281)(hlen:(listedT L).length < 140737488355328):
    Calls Tryz.prog 202 #[.slice a L.length cap] w fun e w'=>e=.returned (.string (bs (afterT L)))/\Ext w w':=by
  by_cases h0:L=[]
  · subst h0;clear h hs hlen hL;go_enter Tryz.func202,Tryz.ntmps202;go_wp2;go_returns;exact⟨rfl,Ext.refl _⟩
  have hp0:0 < L.length:=List.length_pos_iff.2 h0;have hl:=listR_any a L cap w h hL hs (Nat.le_of_lt hlen);have e1:L.isEmpty=false:=by simpa using h0
  have e2:listRT L=listedT L:=by unfold listRT;rw[e1,if_neg (by decide)]
  have e3:bs (afterT L)=⟨#[32]⟩++bs (listedT L):=by
    rw[show(⟨#[32]⟩:ByteArray)=bs [32] from rfl,bs_app];unfold afterT;rw[e1,if_neg (by decide)];rfl
  rw[e2] at hl;rw[e3];have a1:=add_run ⟨#[32]⟩ (bs (listedT L)) (by have hb:=bs_size (listedT L);show 1+_<=_;omega);generalize bs (listedT L)=T at *;have f1:((L.length:Int) == 0)=false:=by rw[beq_eq_false_iff_ne];omega
  generalize L.length=N at *;have HL:=Lib.hid hl;clear hl h hs hlen hL h0 e1 e2 e3 hp0;go_enter Tryz.func202,Tryz.ntmps202;go_wp2_with (go_at_call 204;refine HL.out.mono ?_;rintro e w1 ⟨rfl,x1⟩);go_returns;exact⟨rfl,x1⟩
def refP (d:Bool)(L:List Two):List UInt8:=sepT (arrow d) (L.map refT)
theorem refP_snoc (d:Bool)(a:List Two)(q:Two):refP d (a++[q])=if a.isEmpty=true then refT q else refP d a++arrow d++refT q:=by
  unfold refP;rw[List.map_append,List.map_cons,List.map_nil,sepT_snoc];cases a <;> simp
theorem refP_le (d:Bool)(L:List Two)(k:Nat):(refP d (L.take k)).length<=(refP d L).length:=by
  have:=sepT_prefix (arrow d) ((L.drop k).map refT) ((L.take k).map refT);rw[<-List.map_append,List.take_append_drop] at this;exact this
theorem refsR_true (a:Option Addr)(L:List Two)(cap:Nat)(w:World)(h:TwoIn w a L)(hL:L.length<=2000000)(hlen:(refP true L).length<=140737488355328):
    Calls Tryz.prog 203 #[.slice a L.length cap,.bool true] w fun e w'=>e=.returned (.string (bs (refP true L)))/\Ext w w':=by
  obtain⟨V,hV⟩:∃ V:ByteArray,V=bs (refP true L):=⟨_,rfl⟩;rw[<-hV];have hle:∀ k,(refP true (L.take k)).length<=140737488355328:=fun k=>Nat.le_trans (refP_le true L k) hlen
  obtain⟨N,hN⟩:∃ N,N=L.length:=⟨_,rfl⟩;rw[<-hN] at hL ⊢;have HV:=Lib.hid hV;have HLE:=Lib.hid hle;have HN:=Lib.hid hN;have HI:=Lib.hid h;have HZ:Hid (bs (refP true (L.take 0))=⟨#[]⟩):=Lib.hid rfl;clear hle hV hN h hlen;go_enter Tryz.func203,Tryz.ntmps203;go_wp2
  go_loopw [5,6] (fun s' i' wr=>∃ (k:Nat) (s:ByteArray),k<=N/\s'=.string s/\i'=.int .i64 k/\Ext w wr/\Hid (s=bs (refP true (L.take k)))) (fun _ i' _=>N - (RowKit.intOf i').toNat)
  case atStart=>exact⟨0,_,by omega,rfl,rfl,Ext.refl _,Lib.hid HZ.out.symm⟩
  obtain⟨k,s,hk,rfl,rfl,hx,hb⟩:=hrel;clear HZ;by_cases hlt:k < N
  · have hkl:k < L.length:=by rw[<-HN.out];exact hlt
    obtain⟨g,o,rfl,c0,c1⟩:=(HI.out.ext hx) k hkl
    have hsn:refP true (L.take (k+1))=if(L.take k).isEmpty=true then refT L[k] else refP true (L.take k)++arrow true++refT L[k]:=by
      rw[List.take_succ_eq_append_getElem hkl,refP_snoc]
    have hlk:=HLE.out (k+1);obtain⟨n,d,hq⟩:∃ n d,L[k]=(n,d):=⟨_,_,rfl⟩;rw[hq] at c0 c1 hsn;have hz0:=@size0 d;by_cases hk0:k=0
    · have hsn2:bs (refP true (L.take (k+1)))=s++bs (refT (n,d)):=by
        rw[hsn,hb.out];subst hk0;rw[if_pos (by simp),show refP true (L.take 0)=[] from rfl,bs_app];rfl
      have g0:decide (0 < k)=false:=decide_eq_false (by omega);have g0':¬ 0 < k:=by omega
      by_cases hz:d.size=0
      · rw[decide_eq_true hz] at hz0
        have hfin:bs (refP true (L.take (k+1)))=s++n:=by
          rw[hsn2];unfold refT;dsimp only;rw[if_pos hz,List.append_nil,bs_data]
        have hzz:(s++n).size<=140737488355328:=by rw[<-hfin,bs_size];exact hlk
        rw[ByteArray.size_append] at hzz;have a1:=add_run s n hzz;have HF:=Lib.hid hfin.symm;clear hfin hsn2 hsn hlk hq hb hk0 hzz hz;go_wp2
        go_roundw
        case rel=>exact⟨k+1,_,by omega,rfl,by go_num,hx,HF⟩
        case measure=>simp[RowKit.intOf];omega
      rw[decide_eq_false hz] at hz0
      have hfin:bs (refP true (L.take (k+1)))=s++n++⟨#[58]⟩++d:=by
        have e:bs (refT (n,d))=n++⟨#[58]⟩++d:=by
          unfold refT;dsimp only;rw[if_neg hz]
          conv=>rhs;rw[<-bs_data n,<- bs_data d]
          rw[show(⟨#[58]⟩:ByteArray)=bs [58] from rfl,bs_app,bs_app];simp
        rw[hsn2,e,<- ByteArray.append_assoc,<- ByteArray.append_assoc]
      have hzz:(s++n++⟨#[58]⟩++d).size<=140737488355328:=by rw[<-hfin,bs_size];exact hlk
      have e1:∀ x:ByteArray,(x++⟨#[58]⟩).size=x.size+1:=fun x=>by rw[ByteArray.size_append];rfl
      have hz4:=hzz;rw[ByteArray.size_append] at hzz hz4;rw[e1,ByteArray.size_append] at hz4;have a1:=add_run s n (by omega);have a2:=add_run (s++n) ⟨#[58]⟩ (by rw[ByteArray.size_append];show _+1<=_;omega);have a3:=add_run (s++n++⟨#[58]⟩) d hzz;have HF:=Lib.hid hfin.symm;clear hfin hsn2 hsn hlk hq hb hk0 hzz hz4 hz e1;go_wp2
      go_roundw
      case rel=>exact⟨k+1,_,by omega,rfl,by go_num,hx,HF⟩
      case measure=>simp[RowKit.intOf];omega
    have hsn2:bs (refP true (L.take (k+1)))=s++⟨#[32,45,62,32]⟩++bs (refT (n,d)):=by
      rw[hsn,hb.out]
      rw[if_neg (by
        intro h;have h2:(L.take k).length=0:=by rw[List.isEmpty_iff.1 h];rfl
        rw[List.length_take] at h2
        omega),show(⟨#[32,45,62,32]⟩:ByteArray)=bs (arrow true) from rfl,bs_app,bs_app]
    have g0:decide (0 < k)=true:=decide_eq_true (by omega);have g0':0 < k:=by omega
    by_cases hz:d.size=0
    · rw[decide_eq_true hz] at hz0
      have hfin:bs (refP true (L.take (k+1)))=(s++⟨#[32,45,62,32]⟩)++n:=by
        rw[hsn2];unfold refT;dsimp only;rw[if_pos hz,List.append_nil,bs_data]
      have hzz:((s++⟨#[32,45,62,32]⟩)++n).size<=140737488355328:=by rw[<-hfin,bs_size];exact hlk
      rw[ByteArray.size_append] at hzz
      have hzy:s.size+(4:Nat)<=140737488355328:=by
        have e4:(s++⟨#[32,45,62,32]⟩).size=s.size+4:=by rw[ByteArray.size_append];rfl
        omega
      have a0:=add_run s ⟨#[32,45,62,32]⟩ hzy;have a1:=add_run (s++⟨#[32,45,62,32]⟩) n hzz;have HF:=Lib.hid hfin.symm;clear hfin hsn2 hsn hlk hq hb hk0 hzz hz;go_wp2
      go_roundw
      case rel=>exact⟨k+1,_,by omega,rfl,by go_num,hx,HF⟩
      case measure=>simp[RowKit.intOf];omega
    rw[decide_eq_false hz] at hz0
    have hfin:bs (refP true (L.take (k+1)))=(s++⟨#[32,45,62,32]⟩)++n++⟨#[58]⟩++d:=by
      have e:bs (refT (n,d))=n++⟨#[58]⟩++d:=by
        unfold refT;dsimp only;rw[if_neg hz]
        conv=>rhs;rw[<-bs_data n,<- bs_data d]
        rw[show(⟨#[58]⟩:ByteArray)=bs [58] from rfl,bs_app,bs_app];simp
      rw[hsn2,e,<- ByteArray.append_assoc,<- ByteArray.append_assoc]
    have hzz:((s++⟨#[32,45,62,32]⟩)++n++⟨#[58]⟩++d).size<=140737488355328:=by rw[<-hfin,bs_size];exact hlk
    have e1:∀ x:ByteArray,(x++⟨#[58]⟩).size=x.size+1:=fun x=>by rw[ByteArray.size_append];rfl
    have hz4:=hzz;rw[ByteArray.size_append] at hzz hz4;rw[e1,ByteArray.size_append] at hz4
    have hzy:s.size+(4:Nat)<=140737488355328:=by
      have e4:(s++⟨#[32,45,62,32]⟩).size=s.size+4:=by rw[ByteArray.size_append];rfl
      omega
    have a0:=add_run s ⟨#[32,45,62,32]⟩ hzy;have a1:=add_run (s++⟨#[32,45,62,32]⟩) n (by omega);have a2:=add_run ((s++⟨#[32,45,62,32]⟩)++n) ⟨#[58]⟩ (by rw[ByteArray.size_append];show _+1<=_;omega);have a3:=add_run ((s++⟨#[32,45,62,32]⟩)++n++⟨#[58]⟩) d hzz;have HF:=Lib.hid hfin.symm;clear hfin hsn2 hsn hlk hq hb hk0 hzz hz4 hz e1;go_wp2
    go_roundw
    case rel=>exact⟨k+1,_,by omega,rfl,by go_num,hx,HF⟩
    case measure=>simp[RowKit.intOf];omega
  have hf:s=V:=by rw[hb.out,HV.out,List.take_of_length_le (by rw[<-HN.out];omega)]
  have HF:=Lib.hid hf;clear hb hf;go_wp2;go_returns;rw[<-HF.out];exact⟨rfl,hx⟩
theorem refsR_false (a:Option Addr)(L:List Two)(cap:Nat)(w:World)(h:TwoIn w a L)(hL:L.length<=2000000)(hlen:(refP false L).length<=140737488355328):
    Calls Tryz.prog 203 #[.slice a L.length cap,.bool false] w fun e w'=>e=.returned (.string (bs (refP false L)))/\Ext w w':=by
  obtain⟨V,hV⟩:∃ V:ByteArray,V=bs (refP false L):=⟨_,rfl⟩;rw[<-hV];have hle:∀ k,(refP false (L.take k)).length<=140737488355328:=fun k=>Nat.le_trans (refP_le false L k) hlen
  obtain⟨N,hN⟩:∃ N,N=L.length:=⟨_,rfl⟩;rw[<-hN] at hL ⊢;have HV:=Lib.hid hV;have HLE:=Lib.hid hle;have HN:=Lib.hid hN;have HI:=Lib.hid h;have HZ:Hid (bs (refP false (L.take 0))=⟨#[]⟩):=Lib.hid rfl;clear hle hV hN h hlen;go_enter Tryz.func203,Tryz.ntmps203;go_wp2
  go_loopw [5,6] (fun s' i' wr=>∃ (k:Nat) (s:ByteArray),k<=N/\s'=.string s/\i'=.int .i64 k/\Ext w wr/\Hid (s=bs (refP false (L.take k)))) (fun _ i' _=>N - (RowKit.intOf i').toNat)
  case atStart=>exact⟨0,_,by omega,rfl,rfl,Ext.refl _,Lib.hid HZ.out.symm⟩
  obtain⟨k,s,hk,rfl,rfl,hx,hb⟩:=hrel;clear HZ;by_cases hlt:k < N
  · have hkl:k < L.length:=by rw[<-HN.out];exact hlt
    obtain⟨g,o,rfl,c0,c1⟩:=(HI.out.ext hx) k hkl
    have hsn:refP false (L.take (k+1))=if(L.take k).isEmpty=true then refT L[k] else refP false (L.take k)++arrow false++refT L[k]:=by
      rw[List.take_succ_eq_append_getElem hkl,refP_snoc]
    have hlk:=HLE.out (k+1);obtain⟨n,d,hq⟩:∃ n d,L[k]=(n,d):=⟨_,_,rfl⟩;rw[hq] at c0 c1 hsn;have hz0:=@size0 d;by_cases hk0:k=0
    · have hsn2:bs (refP false (L.take (k+1)))=s++bs (refT (n,d)):=by
        rw[hsn,hb.out];subst hk0;rw[if_pos (by simp),show refP false (L.take 0)=[] from rfl,bs_app];rfl
      have g0:decide (0 < k)=false:=decide_eq_false (by omega);have g0':¬ 0 < k:=by omega
      by_cases hz:d.size=0
      · rw[decide_eq_true hz] at hz0
        have hfin:bs (refP false (L.take (k+1)))=s++n:=by
          rw[hsn2];unfold refT;dsimp only;rw[if_pos hz,List.append_nil,bs_data]
        have hzz:(s++n).size<=140737488355328:=by rw[<-hfin,bs_size];exact hlk
        rw[ByteArray.size_append] at hzz;have a1:=add_run s n hzz;have HF:=Lib.hid hfin.symm;clear hfin hsn2 hsn hlk hq hb hk0 hzz hz;go_wp2
        go_roundw
        case rel=>exact⟨k+1,_,by omega,rfl,by go_num,hx,HF⟩
        case measure=>simp[RowKit.intOf];omega
      rw[decide_eq_false hz] at hz0
      have hfin:bs (refP false (L.take (k+1)))=s++n++⟨#[58]⟩++d:=by
        have e:bs (refT (n,d))=n++⟨#[58]⟩++d:=by
          unfold refT;dsimp only;rw[if_neg hz]
          conv=>rhs;rw[<-bs_data n,<- bs_data d]
          rw[show(⟨#[58]⟩:ByteArray)=bs [58] from rfl,bs_app,bs_app];simp
        rw[hsn2,e,<- ByteArray.append_assoc,<- ByteArray.append_assoc]
      have hzz:(s++n++⟨#[58]⟩++d).size<=140737488355328:=by rw[<-hfin,bs_size];exact hlk
      have e1:∀ x:ByteArray,(x++⟨#[58]⟩).size=x.size+1:=fun x=>by rw[ByteArray.size_append];rfl
      have hz4:=hzz;rw[ByteArray.size_append] at hzz hz4;rw[e1,ByteArray.size_append] at hz4;have a1:=add_run s n (by omega);have a2:=add_run (s++n) ⟨#[58]⟩ (by rw[ByteArray.size_append];show _+1<=_;omega);have a3:=add_run (s++n++⟨#[58]⟩) d hzz;have HF:=Lib.hid hfin.symm;clear hfin hsn2 hsn hlk hq hb hk0 hzz hz4 hz e1;go_wp2
      go_roundw
      case rel=>exact⟨k+1,_,by omega,rfl,by go_num,hx,HF⟩
      case measure=>simp[RowKit.intOf];omega
    have hsn2:bs (refP false (L.take (k+1)))=s++⟨#[32,45,45,32]⟩++bs (refT (n,d)):=by
      rw[hsn,hb.out]
      rw[if_neg (by
        intro h;have h2:(L.take k).length=0:=by rw[List.isEmpty_iff.1 h];rfl
        rw[List.length_take] at h2
        omega),show(⟨#[32,45,45,32]⟩:ByteArray)=bs (arrow false) from rfl,bs_app,bs_app]
    have g0:decide (0 < k)=true:=decide_eq_true (by omega);have g0':0 < k:=by omega
    by_cases hz:d.size=0
    · rw[decide_eq_true hz] at hz0
      have hfin:bs (refP false (L.take (k+1)))=(s++⟨#[32,45,45,32]⟩)++n:=by
        rw[hsn2];unfold refT;dsimp only;rw[if_pos hz,List.append_nil,bs_data]
      have hzz:((s++⟨#[32,45,45,32]⟩)++n).size<=140737488355328:=by rw[<-hfin,bs_size];exact hlk
      rw[ByteArray.size_append] at hzz
      have hzy:s.size+(4:Nat)<=140737488355328:=by
        have e4:(s++⟨#[32,45,45,32]⟩).size=s.size+4:=by rw[ByteArray.size_append];rfl
        omega
      have a0:=add_run s ⟨#[32,45,45,32]⟩ hzy;have a1:=add_run (s++⟨#[32,45,45,32]⟩) n hzz;have HF:=Lib.hid hfin.symm;clear hfin hsn2 hsn hlk hq hb hk0 hzz hz;go_wp2
      go_roundw
      case rel=>exact⟨k+1,_,by omega,rfl,by go_num,hx,HF⟩
      case measure=>simp[RowKit.intOf];omega
    rw[decide_eq_false hz] at hz0
    have hfin:bs (refP false (L.take (k+1)))=(s++⟨#[32,45,45,32]⟩)++n++⟨#[58]⟩++d:=by
      have e:bs (refT (n,d))=n++⟨#[58]⟩++d:=by
        unfold refT;dsimp only;rw[if_neg hz]
        conv=>rhs;rw[<-bs_data n,<- bs_data d]
        rw[show(⟨#[58]⟩:ByteArray)=bs [58] from rfl,bs_app,bs_app];simp
      rw[hsn2,e,<- ByteArray.append_assoc,<- ByteArray.append_assoc]
    have hzz:((s++⟨#[32,45,45,32]⟩)++n++⟨#[58]⟩++d).size<=140737488355328:=by rw[<-hfin,bs_size];exact hlk
    have e1:∀ x:ByteArray,(x++⟨#[58]⟩).size=x.size+1:=fun x=>by rw[ByteArray.size_append];rfl
    have hz4:=hzz;rw[ByteArray.size_append] at hzz hz4;rw[e1,ByteArray.size_append] at hz4
    have hzy:s.size+(4:Nat)<=140737488355328:=by
      have e4:(s++⟨#[32,45,45,32]⟩).size=s.size+4:=by rw[ByteArray.size_append];rfl
      omega
    have a0:=add_run s ⟨#[32,45,45,32]⟩ hzy;have a1:=add_run (s++⟨#[32,45,45,32]⟩) n (by omega);have a2:=add_run ((s++⟨#[32,45,45,32]⟩)++n) ⟨#[58]⟩ (by rw[ByteArray.size_append];show _+1<=_;omega);have a3:=add_run ((s++⟨#[32,45,45,32]⟩)++n++⟨#[58]⟩) d hzz;have HF:=Lib.hid hfin.symm;clear hfin hsn2 hsn hlk hq hb hk0 hzz hz4 hz e1;go_wp2
    go_roundw
    case rel=>exact⟨k+1,_,by omega,rfl,by go_num,hx,HF⟩
    case measure=>simp[RowKit.intOf];omega
  have hf:s=V:=by rw[hb.out,HV.out,List.take_of_length_le (by rw[<-HN.out];omega)]
  have HF:=Lib.hid hf;clear hb hf;go_wp2;go_returns;rw[<-HF.out];exact⟨rfl,hx⟩
theorem refsR_any (d:Bool)(a:Option Addr)(L:List Two)(cap:Nat)(w:World)(h:TwoIn w a L)(hL:L.length<=2000000)(hlen:(refP d L).length<=140737488355328):
    Calls Tryz.prog 203 #[.slice a L.length cap,.bool d] w fun e w'=>e=.returned (.string (bs (refP d L)))/\Ext w w':=by
  cases d
  · exact refsR_false a L cap w h hL hlen
  exact refsR_true a L cap w h hL hlen
theorem stm_one (w:World)(k:Int)(nm:ByteArray)(r a b:Option Addr)(R A B rc ac bc:Nat)(d:Nat)(os:Array Obj):
    let wb:=w.alloc (.cells #[.int .i64 k,.string nm,.slice r R rc,.slice a A ac,.slice b B bc] 67)
    (grow (redrawn wb d) os).cell? ⟨w.heap.size,1,none⟩=some (.string nm)/\(grow (redrawn wb d) os).cell? ⟨w.heap.size,2,none⟩=some (.slice r R rc)/\(grow (redrawn wb d) os).cell? ⟨w.heap.size,3,none⟩=some (.slice a A ac)/\(grow (redrawn wb d) os).cell? ⟨w.heap.size,4,none⟩=some (.slice b B bc):=by
  intro wb;exact(stm_cells w k nm r a b R A B rc ac bc _ (below_regrown wb d os)).2
theorem regrown_ext {P:Program}{f:FuncId}{args:Array Value}{w wb:World}{T:Value}(hx:Ext w wb)(h:∀ w',Ext w w'->Calls P f args w' fun e w''=>e=.returned T/\Ext w' w'')(d:Nat)(os:Array Obj):
    Calls P f args (grow (redrawn wb d) os) fun e w''=>e=.returned T/\∃ p:Regrown,w''=grow (redrawn wb p.d) p.os :=
  Calls.regrown_of (h _ (hx.trans (below_regrown wb d os)))
theorem stmtR_1 (nm ahead:ByteArray)(r a b:Option Addr)(R A B rc ac bc:Nat)(d:Bool)(w:World)(T1:ByteArray)(h1:∀ w',Ext w w'->Calls Tryz.prog 202 #[.slice a A ac] w' fun e w''=>e=.returned (.string T1)/\Ext w' w'')(hsz:ahead.size+nm.size+T1.size+2<=140737488355328):
    Calls Tryz.prog 149 #[.agg #[.int .i64 1,.string nm,.slice r R rc,.slice a A ac,.slice b B bc],.bool d,.string ahead] w fun e w'=>e=.returned (.string (ahead++nm++T1++⟨#[59,10]⟩))/\Ext w w':=by
  have hxb:Ext w (w.alloc (.cells #[.int .i64 1,.string nm,.slice r R rc,.slice a A ac,.slice b B bc] 67)):=(Ext.refl _).alloc _;have hks:=stm_one w 1 nm r a b R A B rc ac bc;dsimp only at hks;have k0:=fun d os=>(hks d os).1
  have k1:=fun d os=>(hks d os).2.2.1
  have HX:Hid (∀ d os,Ext w (grow (redrawn (w.alloc (.cells #[.int .i64 1,.string nm,.slice r R rc,.slice a A ac,.slice b B bc] 67)) d) os)):=Lib.hid (fun d os=>hxb.trans (below_regrown _ d os));have C0:=Lib.hid (fun dd os=>regrown_ext hxb h1 dd os);have a0:=add_run (ahead) nm (by(repeat rw[ByteArray.size_append]);(try simp only[show(⟨#[59,10]⟩:ByteArray).size=2 from rfl,show(⟨#[32]⟩:ByteArray).size=1 from rfl,show(⟨#[115,101,116,32]⟩:ByteArray).size=4 from rfl,show(⟨#[32,61,32]⟩:ByteArray).size=3 from rfl,show(⟨#[99,108,117,115,116,101,114,32]⟩:ByteArray).size=8 from rfl,show(⟨#[32,123,10]⟩:ByteArray).size=3 from rfl,show(⟨#[32,32,32,32]⟩:ByteArray).size=4 from rfl,show(⟨#[125,10]⟩:ByteArray).size=2 from rfl]);omega)
  have a1:=add_run (ahead++nm) T1 (by(repeat rw[ByteArray.size_append]);(try simp only[show(⟨#[59,10]⟩:ByteArray).size=2 from rfl,show(⟨#[32]⟩:ByteArray).size=1 from rfl,show(⟨#[115,101,116,32]⟩:ByteArray).size=4 from rfl,show(⟨#[32,61,32]⟩:ByteArray).size=3 from rfl,show(⟨#[99,108,117,115,116,101,114,32]⟩:ByteArray).size=8 from rfl,show(⟨#[32,123,10]⟩:ByteArray).size=3 from rfl,show(⟨#[32,32,32,32]⟩:ByteArray).size=4 from rfl,show(⟨#[125,10]⟩:ByteArray).size=2 from rfl]);omega)
  have a2:=add_run (ahead++nm++T1) ⟨#[59,10]⟩ (by(repeat rw[ByteArray.size_append]);(try simp only[show(⟨#[59,10]⟩:ByteArray).size=2 from rfl,show(⟨#[32]⟩:ByteArray).size=1 from rfl,show(⟨#[115,101,116,32]⟩:ByteArray).size=4 from rfl,show(⟨#[32,61,32]⟩:ByteArray).size=3 from rfl,show(⟨#[99,108,117,115,116,101,114,32]⟩:ByteArray).size=8 from rfl,show(⟨#[32,123,10]⟩:ByteArray).size=3 from rfl,show(⟨#[32,32,32,32]⟩:ByteArray).size=4 from rfl,show(⟨#[125,10]⟩:ByteArray).size=2 from rfl]);omega);clear hks hxb hsz h1;go_enter Tryz.func149,Tryz.ntmps149;go_wp2_with fail;refine wp_region_quiet_below (by kernel_rfl) (by kernel_rfl) ?_
  repeat (go_big_quiet_step ((go_at_call 202;exact C0.out _ _)))
  refine wpQuiet_nil ?_;intro _ hw';obtain⟨⟨dq,osq⟩,hw''⟩:=hw';subst hw'';go_wp2_with fail;go_returns;exact⟨rfl,HX.out _ _⟩
theorem stmtR_2 (nm ahead:ByteArray)(r a b:Option Addr)(R A B rc ac bc:Nat)(d:Bool)(w:World)(T1:ByteArray)(h1:∀ w',Ext w w'->Calls Tryz.prog 203 #[.slice r R rc,.bool d] w' fun e w''=>e=.returned (.string T1)/\Ext w' w'')(T2:ByteArray)(h2:∀ w',Ext w w'->Calls Tryz.prog 202 #[.slice a A ac] w' fun e w''=>e=.returned (.string T2)/\Ext w' w'')(hsz:ahead.size+T1.size+T2.size+2<=140737488355328):
    Calls Tryz.prog 149 #[.agg #[.int .i64 2,.string nm,.slice r R rc,.slice a A ac,.slice b B bc],.bool d,.string ahead] w fun e w'=>e=.returned (.string (ahead++T1++T2++⟨#[59,10]⟩))/\Ext w w':=by
  have hxb:Ext w (w.alloc (.cells #[.int .i64 2,.string nm,.slice r R rc,.slice a A ac,.slice b B bc] 67)):=(Ext.refl _).alloc _;have hks:=stm_one w 2 nm r a b R A B rc ac bc;dsimp only at hks;have k0:=fun d os=>(hks d os).2.1
  have k1:=fun d os=>(hks d os).2.2.1
  have HX:Hid (∀ d os,Ext w (grow (redrawn (w.alloc (.cells #[.int .i64 2,.string nm,.slice r R rc,.slice a A ac,.slice b B bc] 67)) d) os)):=Lib.hid (fun d os=>hxb.trans (below_regrown _ d os));have C0:=Lib.hid (fun dd os=>regrown_ext hxb h1 dd os);have C1:=Lib.hid (fun dd os=>regrown_ext hxb h2 dd os);have a0:=add_run (ahead) T1 (by(repeat rw[ByteArray.size_append]);(try simp only[show(⟨#[59,10]⟩:ByteArray).size=2 from rfl,show(⟨#[32]⟩:ByteArray).size=1 from rfl,show(⟨#[115,101,116,32]⟩:ByteArray).size=4 from rfl,show(⟨#[32,61,32]⟩:ByteArray).size=3 from rfl,show(⟨#[99,108,117,115,116,101,114,32]⟩:ByteArray).size=8 from rfl,show(⟨#[32,123,10]⟩:ByteArray).size=3 from rfl,show(⟨#[32,32,32,32]⟩:ByteArray).size=4 from rfl,show(⟨#[125,10]⟩:ByteArray).size=2 from rfl]);omega)
  have a1:=add_run (ahead++T1) T2 (by(repeat rw[ByteArray.size_append]);(try simp only[show(⟨#[59,10]⟩:ByteArray).size=2 from rfl,show(⟨#[32]⟩:ByteArray).size=1 from rfl,show(⟨#[115,101,116,32]⟩:ByteArray).size=4 from rfl,show(⟨#[32,61,32]⟩:ByteArray).size=3 from rfl,show(⟨#[99,108,117,115,116,101,114,32]⟩:ByteArray).size=8 from rfl,show(⟨#[32,123,10]⟩:ByteArray).size=3 from rfl,show(⟨#[32,32,32,32]⟩:ByteArray).size=4 from rfl,show(⟨#[125,10]⟩:ByteArray).size=2 from rfl]);omega)
  have a2:=add_run (ahead++T1++T2) ⟨#[59,10]⟩ (by(repeat rw[ByteArray.size_append]);(try simp only[show(⟨#[59,10]⟩:ByteArray).size=2 from rfl,show(⟨#[32]⟩:ByteArray).size=1 from rfl,show(⟨#[115,101,116,32]⟩:ByteArray).size=4 from rfl,show(⟨#[32,61,32]⟩:ByteArray).size=3 from rfl,show(⟨#[99,108,117,115,116,101,114,32]⟩:ByteArray).size=8 from rfl,show(⟨#[32,123,10]⟩:ByteArray).size=3 from rfl,show(⟨#[32,32,32,32]⟩:ByteArray).size=4 from rfl,show(⟨#[125,10]⟩:ByteArray).size=2 from rfl]);omega);clear hks hxb hsz h1 h2;go_enter Tryz.func149,Tryz.ntmps149;go_wp2_with fail;refine wp_region_quiet_below (by kernel_rfl) (by kernel_rfl) ?_
  repeat (go_big_quiet_step ((first | (go_at_call 203;exact C0.out _ _) | (go_at_call 202;exact C1.out _ _))))
  refine wpQuiet_nil ?_;intro _ hw';obtain⟨⟨dq,osq⟩,hw''⟩:=hw';subst hw'';go_wp2_with fail;go_returns;exact⟨rfl,HX.out _ _⟩
theorem stmtR_3 (nm ahead:ByteArray)(r a b:Option Addr)(R A B rc ac bc:Nat)(d:Bool)(w:World)(T1:ByteArray)(h1:∀ w',Ext w w'->Calls Tryz.prog 204 #[.slice a A ac] w' fun e w''=>e=.returned (.string T1)/\Ext w' w'')(h0:A ≠ 0)(hsz:ahead.size+nm.size+T1.size+3<=140737488355328):
    Calls Tryz.prog 149 #[.agg #[.int .i64 3,.string nm,.slice r R rc,.slice a A ac,.slice b B bc],.bool d,.string ahead] w fun e w'=>e=.returned (.string (ahead++nm++⟨#[32]⟩++T1++⟨#[59,10]⟩))/\Ext w w':=by
  have hxb:Ext w (w.alloc (.cells #[.int .i64 3,.string nm,.slice r R rc,.slice a A ac,.slice b B bc] 67)):=(Ext.refl _).alloc _;have hks:=stm_one w 3 nm r a b R A B rc ac bc;dsimp only at hks;have k0:=fun d os=>(hks d os).1
  have k1:=fun d os=>(hks d os).2.2.1
  have HX:Hid (∀ d os,Ext w (grow (redrawn (w.alloc (.cells #[.int .i64 3,.string nm,.slice r R rc,.slice a A ac,.slice b B bc] 67)) d) os)):=Lib.hid (fun d os=>hxb.trans (below_regrown _ d os));have C0:=Lib.hid (fun dd os=>regrown_ext hxb h1 dd os);have a0:=add_run (ahead) nm (by(repeat rw[ByteArray.size_append]);(try simp only[show(⟨#[59,10]⟩:ByteArray).size=2 from rfl,show(⟨#[32]⟩:ByteArray).size=1 from rfl,show(⟨#[115,101,116,32]⟩:ByteArray).size=4 from rfl,show(⟨#[32,61,32]⟩:ByteArray).size=3 from rfl,show(⟨#[99,108,117,115,116,101,114,32]⟩:ByteArray).size=8 from rfl,show(⟨#[32,123,10]⟩:ByteArray).size=3 from rfl,show(⟨#[32,32,32,32]⟩:ByteArray).size=4 from rfl,show(⟨#[125,10]⟩:ByteArray).size=2 from rfl]);omega)
  have a1:=add_run (ahead++nm) ⟨#[32]⟩ (by(repeat rw[ByteArray.size_append]);(try simp only[show(⟨#[59,10]⟩:ByteArray).size=2 from rfl,show(⟨#[32]⟩:ByteArray).size=1 from rfl,show(⟨#[115,101,116,32]⟩:ByteArray).size=4 from rfl,show(⟨#[32,61,32]⟩:ByteArray).size=3 from rfl,show(⟨#[99,108,117,115,116,101,114,32]⟩:ByteArray).size=8 from rfl,show(⟨#[32,123,10]⟩:ByteArray).size=3 from rfl,show(⟨#[32,32,32,32]⟩:ByteArray).size=4 from rfl,show(⟨#[125,10]⟩:ByteArray).size=2 from rfl]);omega)
  have a2:=add_run (ahead++nm++⟨#[32]⟩) T1 (by(repeat rw[ByteArray.size_append]);(try simp only[show(⟨#[59,10]⟩:ByteArray).size=2 from rfl,show(⟨#[32]⟩:ByteArray).size=1 from rfl,show(⟨#[115,101,116,32]⟩:ByteArray).size=4 from rfl,show(⟨#[32,61,32]⟩:ByteArray).size=3 from rfl,show(⟨#[99,108,117,115,116,101,114,32]⟩:ByteArray).size=8 from rfl,show(⟨#[32,123,10]⟩:ByteArray).size=3 from rfl,show(⟨#[32,32,32,32]⟩:ByteArray).size=4 from rfl,show(⟨#[125,10]⟩:ByteArray).size=2 from rfl]);omega)
  have a3:=add_run (ahead++nm++⟨#[32]⟩++T1) ⟨#[59,10]⟩ (by(repeat rw[ByteArray.size_append]);(try simp only[show(⟨#[59,10]⟩:ByteArray).size=2 from rfl,show(⟨#[32]⟩:ByteArray).size=1 from rfl,show(⟨#[115,101,116,32]⟩:ByteArray).size=4 from rfl,show(⟨#[32,61,32]⟩:ByteArray).size=3 from rfl,show(⟨#[99,108,117,115,116,101,114,32]⟩:ByteArray).size=8 from rfl,show(⟨#[32,123,10]⟩:ByteArray).size=3 from rfl,show(⟨#[32,32,32,32]⟩:ByteArray).size=4 from rfl,show(⟨#[125,10]⟩:ByteArray).size=2 from rfl]);omega);have a4:=(show((A:Int) == 0)=false by rw[beq_eq_false_iff_ne];omega);have a5:=(stm_cells w 3 nm r a b R A B rc ac bc _ (Ext.refl _)).2.2.2.1;clear hks hxb hsz h1 h0;go_enter Tryz.func149,Tryz.ntmps149;go_wp2_with fail;refine wp_region_quiet_below (by kernel_rfl) (by kernel_rfl) ?_
  repeat (go_big_quiet_step ((go_at_call 204;exact C0.out _ _)))
  refine wpQuiet_nil ?_;intro _ hw';obtain⟨⟨dq,osq⟩,hw''⟩:=hw';subst hw'';go_wp2_with fail;go_returns;exact⟨rfl,HX.out _ _⟩
theorem stmtR_3e (nm ahead:ByteArray)(r a b:Option Addr)(R B rc ac bc:Nat)(d:Bool)(w:World)(hsz:ahead.size+nm.size+5<=140737488355328):
    Calls Tryz.prog 149 #[.agg #[.int .i64 3,.string nm,.slice r R rc,.slice a 0 ac,.slice b B bc],.bool d,.string ahead] w fun e w'=>e=.returned (.string (ahead++nm++⟨#[32,91,93,59,10]⟩))/\Ext w w':=by
  have hx:=(Ext.refl w).alloc (.cells #[.int .i64 3,.string nm,.slice r R rc,.slice a 0 ac,.slice b B bc] 67);have a0:=add_run ahead nm (by omega);have a1:=add_run (ahead++nm) ⟨#[32,91,93,59,10]⟩ (by rw[ByteArray.size_append];show _+5<=_;omega);clear hsz;go_enter Tryz.func149,Tryz.ntmps149;go_wp2;go_returns;exact⟨rfl,hx⟩
theorem stmtR_4 (nm ahead:ByteArray)(r b:Option Addr)(R B rc ac bc:Nat)(d:Bool)(w:World)(v:ByteArray)(g o:Nat)(hc:w.cell? ⟨g,o+1,none⟩=some (.string v))(T1:ByteArray)(h1:∀ w',Ext w w'->Calls Tryz.prog 205 #[.string v] w' fun e w''=>e=.returned (.string T1)/\Ext w' w'')(hsz:ahead.size+nm.size+T1.size+9<=140737488355328):
    Calls Tryz.prog 149 #[.agg #[.int .i64 4,.string nm,.slice r R rc,.slice (some ⟨g,o,none⟩) 1 ac,.slice b B bc],.bool d,.string ahead] w fun e w'=>e=.returned (.string (ahead++⟨#[115,101,116,32]⟩++nm++⟨#[32,61,32]⟩++T1++⟨#[59,10]⟩))/\Ext w w':=by
  have hxb:Ext w (w.alloc (.cells #[.int .i64 4,.string nm,.slice r R rc,.slice (some ⟨g,o,none⟩) 1 ac,.slice b B bc] 67)):=(Ext.refl _).alloc _;have hks:=stm_one w 4 nm r (some ⟨g,o,none⟩) b R 1 B rc ac bc;dsimp only at hks;have k0:=fun d os=>(hks d os).1
  have k1:=fun d os=>(hks d os).2.2.1
  have kc:=fun d os=>(hxb.trans (below_regrown _ d os)).cell hc
  have HX:Hid (∀ d os,Ext w (grow (redrawn (w.alloc (.cells #[.int .i64 4,.string nm,.slice r R rc,.slice (some ⟨g,o,none⟩) 1 ac,.slice b B bc] 67)) d) os)):=Lib.hid (fun d os=>hxb.trans (below_regrown _ d os));have C0:=Lib.hid (fun dd os=>regrown_ext hxb h1 dd os);have a0:=add_run (ahead) ⟨#[115,101,116,32]⟩ (by(repeat rw[ByteArray.size_append]);(try simp only[show(⟨#[59,10]⟩:ByteArray).size=2 from rfl,show(⟨#[32]⟩:ByteArray).size=1 from rfl,show(⟨#[115,101,116,32]⟩:ByteArray).size=4 from rfl,show(⟨#[32,61,32]⟩:ByteArray).size=3 from rfl,show(⟨#[99,108,117,115,116,101,114,32]⟩:ByteArray).size=8 from rfl,show(⟨#[32,123,10]⟩:ByteArray).size=3 from rfl,show(⟨#[32,32,32,32]⟩:ByteArray).size=4 from rfl,show(⟨#[125,10]⟩:ByteArray).size=2 from rfl]);omega)
  have a1:=add_run (ahead++⟨#[115,101,116,32]⟩) nm (by(repeat rw[ByteArray.size_append]);(try simp only[show(⟨#[59,10]⟩:ByteArray).size=2 from rfl,show(⟨#[32]⟩:ByteArray).size=1 from rfl,show(⟨#[115,101,116,32]⟩:ByteArray).size=4 from rfl,show(⟨#[32,61,32]⟩:ByteArray).size=3 from rfl,show(⟨#[99,108,117,115,116,101,114,32]⟩:ByteArray).size=8 from rfl,show(⟨#[32,123,10]⟩:ByteArray).size=3 from rfl,show(⟨#[32,32,32,32]⟩:ByteArray).size=4 from rfl,show(⟨#[125,10]⟩:ByteArray).size=2 from rfl]);omega)
  have a2:=add_run (ahead++⟨#[115,101,116,32]⟩++nm) ⟨#[32,61,32]⟩ (by(repeat rw[ByteArray.size_append]);(try simp only[show(⟨#[59,10]⟩:ByteArray).size=2 from rfl,show(⟨#[32]⟩:ByteArray).size=1 from rfl,show(⟨#[115,101,116,32]⟩:ByteArray).size=4 from rfl,show(⟨#[32,61,32]⟩:ByteArray).size=3 from rfl,show(⟨#[99,108,117,115,116,101,114,32]⟩:ByteArray).size=8 from rfl,show(⟨#[32,123,10]⟩:ByteArray).size=3 from rfl,show(⟨#[32,32,32,32]⟩:ByteArray).size=4 from rfl,show(⟨#[125,10]⟩:ByteArray).size=2 from rfl]);omega)
  have a3:=add_run (ahead++⟨#[115,101,116,32]⟩++nm++⟨#[32,61,32]⟩) T1 (by(repeat rw[ByteArray.size_append]);(try simp only[show(⟨#[59,10]⟩:ByteArray).size=2 from rfl,show(⟨#[32]⟩:ByteArray).size=1 from rfl,show(⟨#[115,101,116,32]⟩:ByteArray).size=4 from rfl,show(⟨#[32,61,32]⟩:ByteArray).size=3 from rfl,show(⟨#[99,108,117,115,116,101,114,32]⟩:ByteArray).size=8 from rfl,show(⟨#[32,123,10]⟩:ByteArray).size=3 from rfl,show(⟨#[32,32,32,32]⟩:ByteArray).size=4 from rfl,show(⟨#[125,10]⟩:ByteArray).size=2 from rfl]);omega)
  have a4:=add_run (ahead++⟨#[115,101,116,32]⟩++nm++⟨#[32,61,32]⟩++T1) ⟨#[59,10]⟩ (by(repeat rw[ByteArray.size_append]);(try simp only[show(⟨#[59,10]⟩:ByteArray).size=2 from rfl,show(⟨#[32]⟩:ByteArray).size=1 from rfl,show(⟨#[115,101,116,32]⟩:ByteArray).size=4 from rfl,show(⟨#[32,61,32]⟩:ByteArray).size=3 from rfl,show(⟨#[99,108,117,115,116,101,114,32]⟩:ByteArray).size=8 from rfl,show(⟨#[32,123,10]⟩:ByteArray).size=3 from rfl,show(⟨#[32,32,32,32]⟩:ByteArray).size=4 from rfl,show(⟨#[125,10]⟩:ByteArray).size=2 from rfl]);omega);clear hks hxb hsz h1 hc;go_enter Tryz.func149,Tryz.ntmps149;go_wp2_with fail;refine wp_region_quiet_below (by kernel_rfl) (by kernel_rfl) ?_
  repeat (go_big_quiet_step ((go_at_call 205;exact C0.out _ _)))
  refine wpQuiet_nil ?_;intro _ hw';obtain⟨⟨dq,osq⟩,hw''⟩:=hw';subst hw'';go_wp2_with fail;go_returns;exact⟨rfl,HX.out _ _⟩
theorem stmtR_5 (nm ahead:ByteArray)(r a b:Option Addr)(R A B rc ac bc:Nat)(d:Bool)(w:World)(T1:ByteArray)(h1:∀ w',Ext w w'->Calls Tryz.prog 83 #[.slice b B bc,.bool d,.string (ahead++⟨#[32,32,32,32]⟩)] w' fun e w''=>e=.returned (.string T1)/\Ext w' w'')(hsz:ahead.size+nm.size+T1.size+ahead.size+20<=140737488355328):
    Calls Tryz.prog 149 #[.agg #[.int .i64 5,.string nm,.slice r R rc,.slice a A ac,.slice b B bc],.bool d,.string ahead] w fun e w'=>e=.returned (.string (ahead++⟨#[99,108,117,115,116,101,114,32]⟩++nm++⟨#[32,123,10]⟩++T1++ahead++⟨#[125,10]⟩))/\Ext w w':=by
  have hxb:Ext w (w.alloc (.cells #[.int .i64 5,.string nm,.slice r R rc,.slice a A ac,.slice b B bc] 67)):=(Ext.refl _).alloc _;have hks:=stm_one w 5 nm r a b R A B rc ac bc;dsimp only at hks;have k0:=fun d os=>(hks d os).1
  have k1:=fun d os=>(hks d os).2.2.2
  have HX:Hid (∀ d os,Ext w (grow (redrawn (w.alloc (.cells #[.int .i64 5,.string nm,.slice r R rc,.slice a A ac,.slice b B bc] 67)) d) os)):=Lib.hid (fun d os=>hxb.trans (below_regrown _ d os));have C0:=Lib.hid (fun dd os=>regrown_ext hxb h1 dd os);have a0:=add_run (ahead) ⟨#[99,108,117,115,116,101,114,32]⟩ (by(repeat rw[ByteArray.size_append]);(try simp only[show(⟨#[59,10]⟩:ByteArray).size=2 from rfl,show(⟨#[32]⟩:ByteArray).size=1 from rfl,show(⟨#[115,101,116,32]⟩:ByteArray).size=4 from rfl,show(⟨#[32,61,32]⟩:ByteArray).size=3 from rfl,show(⟨#[99,108,117,115,116,101,114,32]⟩:ByteArray).size=8 from rfl,show(⟨#[32,123,10]⟩:ByteArray).size=3 from rfl,show(⟨#[32,32,32,32]⟩:ByteArray).size=4 from rfl,show(⟨#[125,10]⟩:ByteArray).size=2 from rfl]);omega)
  have a1:=add_run (ahead++⟨#[99,108,117,115,116,101,114,32]⟩) nm (by(repeat rw[ByteArray.size_append]);(try simp only[show(⟨#[59,10]⟩:ByteArray).size=2 from rfl,show(⟨#[32]⟩:ByteArray).size=1 from rfl,show(⟨#[115,101,116,32]⟩:ByteArray).size=4 from rfl,show(⟨#[32,61,32]⟩:ByteArray).size=3 from rfl,show(⟨#[99,108,117,115,116,101,114,32]⟩:ByteArray).size=8 from rfl,show(⟨#[32,123,10]⟩:ByteArray).size=3 from rfl,show(⟨#[32,32,32,32]⟩:ByteArray).size=4 from rfl,show(⟨#[125,10]⟩:ByteArray).size=2 from rfl]);omega)
  have a2:=add_run (ahead++⟨#[99,108,117,115,116,101,114,32]⟩++nm) ⟨#[32,123,10]⟩ (by(repeat rw[ByteArray.size_append]);(try simp only[show(⟨#[59,10]⟩:ByteArray).size=2 from rfl,show(⟨#[32]⟩:ByteArray).size=1 from rfl,show(⟨#[115,101,116,32]⟩:ByteArray).size=4 from rfl,show(⟨#[32,61,32]⟩:ByteArray).size=3 from rfl,show(⟨#[99,108,117,115,116,101,114,32]⟩:ByteArray).size=8 from rfl,show(⟨#[32,123,10]⟩:ByteArray).size=3 from rfl,show(⟨#[32,32,32,32]⟩:ByteArray).size=4 from rfl,show(⟨#[125,10]⟩:ByteArray).size=2 from rfl]);omega)
  have a3:=add_run (ahead++⟨#[99,108,117,115,116,101,114,32]⟩++nm++⟨#[32,123,10]⟩) T1 (by(repeat rw[ByteArray.size_append]);(try simp only[show(⟨#[59,10]⟩:ByteArray).size=2 from rfl,show(⟨#[32]⟩:ByteArray).size=1 from rfl,show(⟨#[115,101,116,32]⟩:ByteArray).size=4 from rfl,show(⟨#[32,61,32]⟩:ByteArray).size=3 from rfl,show(⟨#[99,108,117,115,116,101,114,32]⟩:ByteArray).size=8 from rfl,show(⟨#[32,123,10]⟩:ByteArray).size=3 from rfl,show(⟨#[32,32,32,32]⟩:ByteArray).size=4 from rfl,show(⟨#[125,10]⟩:ByteArray).size=2 from rfl]);omega)
  have a4:=add_run (ahead++⟨#[99,108,117,115,116,101,114,32]⟩++nm++⟨#[32,123,10]⟩++T1) ahead (by(repeat rw[ByteArray.size_append]);(try simp only[show(⟨#[59,10]⟩:ByteArray).size=2 from rfl,show(⟨#[32]⟩:ByteArray).size=1 from rfl,show(⟨#[115,101,116,32]⟩:ByteArray).size=4 from rfl,show(⟨#[32,61,32]⟩:ByteArray).size=3 from rfl,show(⟨#[99,108,117,115,116,101,114,32]⟩:ByteArray).size=8 from rfl,show(⟨#[32,123,10]⟩:ByteArray).size=3 from rfl,show(⟨#[32,32,32,32]⟩:ByteArray).size=4 from rfl,show(⟨#[125,10]⟩:ByteArray).size=2 from rfl]);omega)
  have a5:=add_run (ahead++⟨#[99,108,117,115,116,101,114,32]⟩++nm++⟨#[32,123,10]⟩++T1++ahead) ⟨#[125,10]⟩ (by(repeat rw[ByteArray.size_append]);(try simp only[show(⟨#[59,10]⟩:ByteArray).size=2 from rfl,show(⟨#[32]⟩:ByteArray).size=1 from rfl,show(⟨#[115,101,116,32]⟩:ByteArray).size=4 from rfl,show(⟨#[32,61,32]⟩:ByteArray).size=3 from rfl,show(⟨#[99,108,117,115,116,101,114,32]⟩:ByteArray).size=8 from rfl,show(⟨#[32,123,10]⟩:ByteArray).size=3 from rfl,show(⟨#[32,32,32,32]⟩:ByteArray).size=4 from rfl,show(⟨#[125,10]⟩:ByteArray).size=2 from rfl]);omega)
  have a6:=add_run ahead ⟨#[32,32,32,32]⟩ (by(repeat rw[ByteArray.size_append]);(try simp only[show(⟨#[59,10]⟩:ByteArray).size=2 from rfl,show(⟨#[32]⟩:ByteArray).size=1 from rfl,show(⟨#[115,101,116,32]⟩:ByteArray).size=4 from rfl,show(⟨#[32,61,32]⟩:ByteArray).size=3 from rfl,show(⟨#[99,108,117,115,116,101,114,32]⟩:ByteArray).size=8 from rfl,show(⟨#[32,123,10]⟩:ByteArray).size=3 from rfl,show(⟨#[32,32,32,32]⟩:ByteArray).size=4 from rfl,show(⟨#[125,10]⟩:ByteArray).size=2 from rfl]);omega);clear hks hxb hsz h1;go_enter Tryz.func149,Tryz.ntmps149;go_wp2_with fail;refine wp_region_quiet_below (by kernel_rfl) (by kernel_rfl) ?_
  repeat (go_big_quiet_step ((go_at_call 83;exact C0.out _ _)))
  refine wpQuiet_nil ?_;intro _ hw';obtain⟨⟨dq,osq⟩,hw''⟩:=hw';subst hw'';go_wp2_with fail;go_returns;exact⟨rfl,HX.out _ _⟩
end Go.Proofs.YtjaeedbjknejdaaGreatDoor.Tr

namespace Go.Proofs.YtjaeedbjknejdaaGreatDoor.Tr
open Go.RowKit Go.Sort Go.Lib Go.Shelf Fx Lx
theorem stmtR_any (d:Bool)(lev:Nat)(k:Int)(nm:ByteArray)(rs al:List Two)(body:List Stm)(r a b:Option Addr)(rc ac bc:Nat)(w:World)(hf:formB (.mk k nm rs al body)=true)(hr:TwoIn w r rs)(ha:TwoIn w a al)
    (hrl:rs.length<=2000000) (hal:al.length<=2000000) (hs:∀ q ∈ al,q.2.size < 4294967281) (hlen:(printS d lev (.mk k nm rs al body)).length+100<=140737488355328)
    (hb:k=5->∀ w',Ext w w'->Calls Tryz.prog 83 #[.slice b body.length bc,.bool d,.string (bs (indT lev)++⟨#[32,32,32,32]⟩)] w' fun e w''=>e=.returned (.string (bs (printL d (lev+1) body)))/\Ext w' w'') :
    Calls Tryz.prog 149 #[.agg #[.int .i64 k,.string nm,.slice r rs.length rc,.slice a al.length ac,.slice b body.length bc],.bool d,.string (bs (indT lev))] w fun e w'=>e=.returned (.string (bs (printS d lev (.mk k nm rs al body))))/\Ext w w':=by
  obtain⟨hk,_,hk4⟩:=form_kinds _ hf;simp only[Stm.kind,Stm.attrs] at hk hk4;rw[printS] at hlen ⊢;have hnm:nm=bs nm.data.toList:=(bs_data nm).symm;have lnm:nm.size=nm.data.toList.length:=size_len nm;have sb:∀ l,(bs l).size=l.length:=bs_size;by_cases h1:k=1
  · subst h1;rw[if_pos rfl] at hlen ⊢;rw[tailT_after] at hlen ⊢
    have e:bs (indT lev++nm.data.toList++(afterT al++[59])++[10])=bs (indT lev)++nm++bs (afterT al)++⟨#[59,10]⟩:=by
      rw[show(⟨#[59,10]⟩:ByteArray)=bs [59,10] from rfl]
      conv=>rhs;rw[hnm]
      rw[bs_app,bs_app,bs_app];simp
    rw[e];simp only[List.length_append,List.length_cons,List.length_nil] at hlen
    have hla:(listedT al).length<=(afterT al).length+2:=by
      unfold afterT;by_cases h:al.isEmpty=true
      · rw[if_pos h,List.isEmpty_iff.1 h];decide
      rw[if_neg h];simp;omega
    exact stmtR_1 nm _ r a b _ _ _ rc ac bc d w (bs (afterT al)) (fun w' x=>afterR_any a al ac w' (ha.ext x) hal hs (by omega)) (by rw[sb (indT lev),sb (afterT al),lnm];omega)
  by_cases h2:k=2
  · subst h2;rw[if_neg (by decide),if_pos rfl] at hlen ⊢;rw[tailT_after] at hlen ⊢
    have e:bs (indT lev++sepT (arrow d) (rs.map refT)++(afterT al++[59])++[10])=bs (indT lev)++bs (refP d rs)++bs (afterT al)++⟨#[59,10]⟩:=by
      rw[show(⟨#[59,10]⟩:ByteArray)=bs [59,10] from rfl];rw[bs_app,bs_app,bs_app];unfold refP;simp
    rw[e];have hrp:(sepT (arrow d) (rs.map refT))=refP d rs:=rfl;rw[hrp] at hlen;simp only[List.length_append,List.length_cons,List.length_nil] at hlen
    have hla:(listedT al).length<=(afterT al).length+2:=by
      unfold afterT;by_cases h:al.isEmpty=true
      · rw[if_pos h,List.isEmpty_iff.1 h];decide
      rw[if_neg h];simp;omega
    exact stmtR_2 nm _ r a b _ _ _ rc ac bc d w (bs (refP d rs)) (fun w' x=>refsR_any d r rs rc w' (hr.ext x) hrl (by omega)) (bs (afterT al)) (fun w' x=>afterR_any a al ac w' (ha.ext x) hal hs (by omega)) (by rw[sb (indT lev),sb (refP d rs),sb (afterT al)];omega)
  by_cases h3:k=3
  · subst h3;rw[if_neg (by decide),if_neg (by decide),if_pos rfl] at hlen ⊢;by_cases h0:al=[]
    · subst h0
      have e:bs (indT lev++nm.data.toList++[32]++listedT []++[59,10])=bs (indT lev)++nm++⟨#[32,91,93,59,10]⟩:=by
        rw[show(⟨#[32,91,93,59,10]⟩:ByteArray)=bs [32,91,93,59,10] from rfl]
        conv=>rhs;rw[hnm]
        rw[bs_app,bs_app,show listedT []=[91,93] from rfl];simp
      rw[e];simp only[List.length_append,List.length_cons,List.length_nil] at hlen;exact stmtR_3e nm _ r a b _ _ rc ac bc d w (by rw[sb (indT lev),lnm];omega)
    have e:bs (indT lev++nm.data.toList++[32]++listedT al++[59,10])=bs (indT lev)++nm++⟨#[32]⟩++bs (listRT al)++⟨#[59,10]⟩:=by
      rw[show(⟨#[59,10]⟩:ByteArray)=bs [59,10] from rfl,show(⟨#[32]⟩:ByteArray)=bs [32] from rfl]
      conv=>rhs;rw[hnm]
      rw[bs_app,bs_app,bs_app,bs_app];unfold listRT;rw[if_neg (by simpa using h0)]
    rw[e];have hl:(listRT al)=listedT al:=by unfold listRT;rw[if_neg (by simpa using h0)]
    simp only[List.length_append,List.length_cons,List.length_nil] at hlen;have hp0:0 < al.length:=List.length_pos_iff.2 h0;exact stmtR_3 nm _ r a b _ _ _ rc ac bc d w (bs (listRT al)) (fun w' x=>listR_any a al ac w' (ha.ext x) hal hs (by omega)) (by omega) (by rw[sb (indT lev),sb (listRT al),lnm,hl];omega)
  by_cases h4:k=4
  · subst h4;obtain⟨q,rfl,_⟩:=hk4 rfl;rw[if_neg (by decide),if_neg (by decide),if_neg (by decide),if_pos rfl] at hlen ⊢
    have e:bs (indT lev++[115,101,116,32]++nm.data.toList++[32,61,32]++valueT ([q].headD (⟨#[]⟩,⟨#[]⟩)).2++[59,10])=bs (indT lev)++⟨#[115,101,116,32]⟩++nm++⟨#[32,61,32]⟩++bs (valueT q.2)++⟨#[59,10]⟩:=by
      rw[show(⟨#[59,10]⟩:ByteArray)=bs [59,10] from rfl,show(⟨#[115,101,116,32]⟩:ByteArray)=bs [115,101,116,32] from rfl,show(⟨#[32,61,32]⟩:ByteArray)=bs [32,61,32] from rfl]
      conv=>rhs;rw[hnm]
      rw[bs_app,bs_app,bs_app,bs_app,bs_app];rfl
    rw[e];rw[show([q].headD (⟨#[]⟩,⟨#[]⟩))=q from rfl] at hlen;simp only[List.length_append,List.length_cons,List.length_nil] at hlen;obtain⟨g,o,rfl,c0,c1⟩:=ha 0 (by simp);simp only[Nat.zero_mul,Nat.add_zero,List.getElem_cons_zero] at c0 c1;exact stmtR_4 nm _ r b _ _ rc ac bc d w q.2 g o c1 (bs (valueT q.2)) (fun w' _=>(valueR_any q.2 w' (hs q (by simp))).mono fun e w2 ⟨he,hw⟩=>⟨he,hw ▸ Ext.refl _⟩) (by rw[sb (indT lev),sb (valueT q.2),lnm];omega)
  have h5:k=5:=by clear hk4;omega
  subst h5;rw[if_neg (by decide),if_neg (by decide),if_neg (by decide),if_neg (by decide)] at hlen ⊢
  have e:bs (indT lev++[99,108,117,115,116,101,114,32]++nm.data.toList++[32,123,10]++printL d (lev+1) body++indT lev++[125,10])=bs (indT lev)++⟨#[99,108,117,115,116,101,114,32]⟩++nm++⟨#[32,123,10]⟩++bs (printL d (lev+1) body)++bs (indT lev)++⟨#[125,10]⟩:=by
    rw[show(⟨#[99,108,117,115,116,101,114,32]⟩:ByteArray)=bs [99,108,117,115,116,101,114,32] from rfl,show(⟨#[32,123,10]⟩:ByteArray)=bs [32,123,10] from rfl,show(⟨#[125,10]⟩:ByteArray)=bs [125,10] from rfl]
    conv=>rhs;rw[hnm]
    rw[bs_app,bs_app,bs_app,bs_app,bs_app,bs_app]
  rw[e];simp only[List.length_append,List.length_cons,List.length_nil] at hlen;exact stmtR_5 nm _ r a b _ _ _ rc ac bc d w (bs (printL d (lev+1) body)) (hb rfl) (by rw[sb (indT lev),sb (printL d (lev+1) body),lnm];omega)
theorem indS_bs (lev:Nat):bs (indT lev)++⟨#[32,32,32,32]⟩=bs (indT (lev+1)):=by
  rw[show(⟨#[32,32,32,32]⟩:ByteArray)=bs (List.replicate 4 32) from rfl,bs_app];unfold indT;rw[List.replicate_append_replicate]
  rfl
theorem printL_at (d:Bool)(lev:Nat):∀ (L:List Stm) (k:Nat) (hk:k < L.length),(printS d lev L[k]).length<=(printL d lev L).length
  | x::r,0,_=>by rw[printL_cons];simp
  | x::r,k+1,hk=>by
    have:=printL_at d lev r k (by simpa using hk);rw[printL_cons,List.length_append];simp only[List.getElem_cons_succ];omega
theorem printL_tk (d:Bool)(lev:Nat)(L:List Stm)(k:Nat):(printL d lev (L.take k)).length<=(printL d lev L).length:=by
  have h:∀ A B:List Stm,printL d lev (A++B)=printL d lev A++printL d lev B:=by
    intro A
    induction A with
    | nil=>intro B;rw[printL_nil];rfl
    | cons x r ih=>intro B;rw[List.cons_append,printL_cons,printL_cons,ih,List.append_assoc]
  have:=h (L.take k) (L.drop k);rw[List.take_append_drop] at this;rw[this,List.length_append];omega
theorem stmtsR_any (d:Bool):∀ (M:Nat) (L:List Stm) (b:Option Addr) (cap lev n:Nat) (w:World),sizeL L<=M->M<=1048576->Formed L->n<=w.heap.size->StmsAt n w b L->(printL d lev L).length+100<=140737488355328 ->
    Calls Tryz.prog 83 #[.slice b L.length cap,.bool d,.string (bs (indT lev))] w fun e w'=>e=.returned (.string (bs (printL d lev L)))/\Ext w w':=by
  intro M
  induction M using Nat.strongRecOn with
  | _ M ih =>
  intro L b cap lev n w hM hmax hF hn h hlen;obtain⟨V,hV⟩:∃ V:ByteArray,V=bs (printL d lev L):=⟨_,rfl⟩;rw[<-hV];obtain⟨N,hN⟩:∃ N,N=L.length:=⟨_,rfl⟩;have hNM:N<=1048576:=by have:=sizeL_len L;omega
  rw[<-hN];have HN:=Lib.hid hN;have HI:=Lib.hid h;have HM:=Lib.hid hM;have HIH:=Lib.hid ih;have HMX:=Lib.hid hmax;have HV:=Lib.hid hV;have HFM:=Lib.hid hF;have HLEN:=Lib.hid hlen;have HNW:=Lib.hid hn;have HZ:Hid (bs (printL d lev (L.take 0))=⟨#[]⟩):=Lib.hid (by rw[List.take_zero,printL_nil]);obtain⟨IND,hIND⟩:∃ I:ByteArray,I=bs (indT lev):=⟨_,rfl⟩;rw[<-hIND];have HIND:=Lib.hid hIND;clear hV hN h hM ih hmax hF hlen hn hIND;go_enter Tryz.func83,Tryz.ntmps83;go_wp2
  go_loopw [7,8] (fun s' i' wr=>∃ (k:Nat) (s:ByteArray),k<=N/\s'=.string s/\i'=.int .i64 k/\Ext w wr/\Hid (s=bs (printL d lev (L.take k)))) (fun _ i' _=>N - (RowKit.intOf i').toNat)
  case atStart=>exact⟨0,_,by omega,rfl,rfl,Ext.refl _,Lib.hid HZ.out.symm⟩
  obtain⟨k,s,hk,rfl,rfl,hx,hb⟩:=hrel;clear HZ;by_cases hlt:k < N
  · have hkl:k < L.length:=by rw[<-HN.out];exact hlt
    have hin:=StmsAt.below (Below.mono hx HNW.out) L HI.out;obtain⟨g,o,rfl,hg,hst⟩:=StmsAt.at L hin k hkl;have hsz:sizeS L[k]<=M:=Nat.le_trans (sizeL_at L k hkl) HM.out;have hfk:=HFM.out.at k hkl
    have hfb:L[k].kind=5->Formed L[k].body:=fun h5=>by
      refine formed_of (lv:=lev) HFM.out fun p hp=>?_
      have:flatS lev L[k]=(L[k],lev)::flatL (lev+1) L[k].body:=by rw[flatS_eq,if_pos h5]
      have h2:p ∈ flatS lev L[k]:=by rw[this];exact List.mem_cons_of_mem _ hp
      have h3:flatL lev L=flatL lev (L.take k)++(flatS lev L[k]++flatL lev (L.drop (k+1))):=by
        rw[<-flatL_cons,<- List.drop_eq_getElem_cons hkl,<- flatL_app,List.take_append_drop]
      rw[h3];exact List.mem_append_right _ (List.mem_append_left _ h2)
    have hlk:=Nat.le_trans (printL_at d lev L k hkl) (Nat.le_sub_of_add_le HLEN.out)
    have hsn:printL d lev (L.take (k+1))=printL d lev (L.take k)++printS d lev L[k]:=by
      rw[List.take_succ_eq_append_getElem hkl,printL_snoc]
    have htk:=Nat.le_trans (printL_tk d lev L (k+1)) (Nat.le_sub_of_add_le HLEN.out);obtain⟨x,hxx⟩:∃ x,x=L[k]:=⟨_,rfl⟩;rw[<-hxx] at hst hsz hfk hfb hlk hsn;clear hxx hin;obtain⟨kind,nm,rs,al,body⟩:=x;have hbd:=sizeS_body (.mk kind nm rs al body);simp only[Stm.body,Stm.name,Stm.refs,Stm.attrs] at hbd;simp only[Stm.kind,Stm.body] at hfb;rw[StmAt] at hst;obtain⟨r,rc,a,atc,b',bc,c0,c1,c2,c3,c4,hr,ha,hbs,hl1',hl2,hl3,hl4,hl5⟩:=hst;have hs1:∀ q ∈ al,q.2.size < 4294967281:=fun q hq=>by have:=sizeTwo_at al q hq;have:=HMX.out;omega
    have hsta:=stmtR_any d lev kind nm rs al body r a b' rc atc bc wr hfk hr.in ha.in (by have:=sizeTwo_len rs;have:=HMX.out;omega) (by have:=sizeTwo_len al;have:=HMX.out;omega) hs1 (by omega)
      (fun h5 w' x=>by
        rw[indS_bs]
        exact HIH.out (sizeL body) (by omega) body b' bc (lev+1) n w' (Nat.le_refl _) (by have:=HMX.out;omega) (hfb h5) (by have h:=(hx.trans x).size;have:=HNW.out;omega) (StmsAt.below (Below.mono x (by have h:=hx.size;have:=HNW.out;omega)) body hbs) (by
          rw[printS] at hlk;subst h5;rw[if_neg (by decide),if_neg (by decide),if_neg (by decide),if_neg (by decide)] at hlk;simp only[List.length_append] at hlk
          omega))
    rw[<-HIND.out] at hsta;obtain⟨T,hT⟩:∃ T:ByteArray,T=bs (printS d lev (.mk kind nm rs al body)):=⟨_,rfl⟩;rw[<-hT] at hsta;have hfin:s++T=bs (printL d lev (L.take (k+1))):=by rw[hb.out,hT,bs_app,hsn]
    have hzz:(s++T).size<=140737488355328:=by rw[hfin,bs_size];omega
    rw[ByteArray.size_append] at hzz;have a0:=add_run s T hzz;have HF2:=Lib.hid hfin;have HST:=Lib.hid hsta;clear hsta hT hfin hzz hsn htk hlk hfb hfk hs1 hr ha hbs hl1' hl2 hl3 hl4 hl5 hb hg;generalize rs.length=R at *;generalize al.length=A at *;generalize body.length=B at *;go_wp2_with (go_at_call 149;refine HST.out.mono ?_;rintro e w1 ⟨rfl,x1⟩)
    go_roundw
    case rel=>exact⟨k+1,_,by omega,rfl,by go_num,hx.trans x1,HF2⟩
    case measure=>simp[RowKit.intOf];omega
  have hf:s=V:=by rw[hb.out,HV.out,List.take_of_length_le (by rw[<-HN.out];omega)]
  have HF2:=Lib.hid hf;clear hb hf;go_wp2;go_returns;rw[<-HF2.out];exact⟨rfl,hx⟩
end Go.Proofs.YtjaeedbjknejdaaGreatDoor.Tr

namespace Go.Proofs.YtjaeedbjknejdaaGreatDoor.Tr
open Go.RowKit Go.Sort Go.Lib Go.Shelf Fx Lx
theorem printR_dir (nm:ByteArray)(dir:Bool)(b:Option Addr)(L:List Stm)(cap n:Nat)(w:World)(hn:n<=w.heap.size)(h:StmsAt n w b L)(hs:sizeL L<=1048576)(hnm:nm.size<=1048576)(hlen:(printT dir nm L).length+1000<=140737488355328)(hv:validE nm L=0):
    Calls Tryz.prog 38 #[.agg #[.string nm,.bool dir,.slice b L.length cap]] w fun e w'=>e=.returned (.string (bs (printT dir nm L)))/\Ext w w':=by
  have hx0:Ext w (w.alloc (.cells #[.string nm,.bool dir,.slice b L.length cap] 33)):=(Ext.refl _).alloc _;have hcl:=tree_cells w nm dir b L.length cap;have hval:=fun w' (x:Ext w w')=>validR_any nm dir b L cap n w' (by have h:=x.size;omega) (StmsAt.below (Below.mono x hn) L h) hs (by omega)
  rw[hv] at hval;have hfm:=formed_valid nm L hv;have hT:(if dir=true then [100,105,103,114,97,112,104,32] else [103,114,97,112,104,32])++nm.data.toList++[32,123,10]++printL dir 1 L++[125,10]=printT dir nm L:=by unfold printT;cases dir <;> rfl
  have hlb:(printL dir 1 L).length+100<=140737488355328:=by rw[<-hT] at hlen;simp only[List.length_append] at hlen;omega
  have hsts:=fun w' (x:Ext w w')=>stmtsR_any dir 1048576 L b cap 1 n w' hs (Nat.le_refl _) hfm (by have h:=x.size;omega) (StmsAt.below (Below.mono x hn) L h) hlb
  rw[show bs (indT 1)=⟨#[32,32,32,32]⟩ from rfl] at hsts;obtain⟨T,hTT⟩:∃ T:ByteArray,T=bs (printL dir 1 L):=⟨_,rfl⟩;rw[<-hTT] at hsts;have lT:T.size=(printL dir 1 L).length:=by rw[hTT,bs_size]
  have lnm:nm.size=nm.data.toList.length:=size_len nm;have hnb:nm=bs nm.data.toList:=(bs_data nm).symm;have hl2:nm.data.toList.length+(printL dir 1 L).length+100<=140737488355328:=by rw[<-hT] at hlen;simp only[List.length_append] at hlen;omega
  have HCL:=Lib.hid hcl;have HVAL:=Lib.hid hval;have HSTS:=Lib.hid hsts;have HX:=Lib.hid hx0;clear hcl hval hsts hx0 hlb hfm h hs hn hv hlen;cases dir
  · have hfin:⟨#[103,114,97,112,104,32]⟩++nm++⟨#[32,123,10]⟩++T++⟨#[125,10]⟩=bs (printT false nm L):=by
      rw[<-hT,hTT,show(⟨#[103,114,97,112,104,32]⟩:ByteArray)=bs [103,114,97,112,104,32] from rfl,show(⟨#[32,123,10]⟩:ByteArray)=bs [32,123,10] from rfl,show(⟨#[125,10]⟩:ByteArray)=bs [125,10] from rfl]
      conv=>lhs;rw[hnb]
      rw[bs_app,bs_app,bs_app,bs_app];rfl
    rw[<-hfin];have a0:=add_run ⟨#[103,114,97,112,104,32]⟩ nm (by show 6+_<=_;omega);have a1:=add_run (⟨#[103,114,97,112,104,32]⟩++nm) ⟨#[32,123,10]⟩ (by rw[ByteArray.size_append];show 6+_+3<=_;omega);have a2:=add_run (⟨#[103,114,97,112,104,32]⟩++nm++⟨#[32,123,10]⟩) T (by rw[ByteArray.size_append,ByteArray.size_append];show 6+_+3+_<=_;omega);have a3:=add_run (⟨#[103,114,97,112,104,32]⟩++nm++⟨#[32,123,10]⟩++T) ⟨#[125,10]⟩ (by rw[ByteArray.size_append,ByteArray.size_append,ByteArray.size_append];show 6+_+3+_+2<=_;omega);clear hfin hT hTT lT lnm hnb hl2 hnm;generalize L.length=N at *;obtain⟨m0,m1,m2⟩:=HCL.out _ (Ext.refl _);go_enter Tryz.func38,Tryz.ntmps38;go_wp2_with (go_at_call 15;refine(HVAL.out _ HX.out).mono ?_;rintro e w1 ⟨rfl,x1⟩;obtain⟨m0,m1,m2⟩:=HCL.out _ x1)
    have k0:=fun d os=>(HCL.out _ (x1.trans (below_regrown w1 d os))).1
    have k1:=fun d os=>(HCL.out _ (x1.trans (below_regrown w1 d os))).2.1
    have k2:=fun d os=>(HCL.out _ (x1.trans (below_regrown w1 d os))).2.2
    have C0:=Lib.hid (fun dd os=>regrown_ext (HX.out.trans x1) HSTS.out dd os);refine wp_region_quiet_below (by kernel_rfl) (by kernel_rfl) ?_
    repeat (go_big_quiet_step ((go_at_call 83;exact C0.out _ _)))
    refine wpQuiet_nil ?_;intro _ hw';obtain⟨⟨dq,osq⟩,hw''⟩:=hw';subst hw'';go_wp2_with fail;go_returns;exact⟨rfl,(HX.out.trans x1).trans (below_regrown w1 _ _)⟩
  have hfin:⟨#[100,105,103,114,97,112,104,32]⟩++nm++⟨#[32,123,10]⟩++T++⟨#[125,10]⟩=bs (printT true nm L):=by
    rw[<-hT,hTT,show(⟨#[100,105,103,114,97,112,104,32]⟩:ByteArray)=bs [100,105,103,114,97,112,104,32] from rfl,show(⟨#[32,123,10]⟩:ByteArray)=bs [32,123,10] from rfl,show(⟨#[125,10]⟩:ByteArray)=bs [125,10] from rfl]
    conv=>lhs;rw[hnb]
    rw[bs_app,bs_app,bs_app,bs_app];rfl
  rw[<-hfin];have a0:=add_run ⟨#[100,105,103,114,97,112,104,32]⟩ nm (by show 8+_<=_;omega);have a1:=add_run (⟨#[100,105,103,114,97,112,104,32]⟩++nm) ⟨#[32,123,10]⟩ (by rw[ByteArray.size_append];show 8+_+3<=_;omega);have a2:=add_run (⟨#[100,105,103,114,97,112,104,32]⟩++nm++⟨#[32,123,10]⟩) T (by rw[ByteArray.size_append,ByteArray.size_append];show 8+_+3+_<=_;omega);have a3:=add_run (⟨#[100,105,103,114,97,112,104,32]⟩++nm++⟨#[32,123,10]⟩++T) ⟨#[125,10]⟩ (by rw[ByteArray.size_append,ByteArray.size_append,ByteArray.size_append];show 8+_+3+_+2<=_;omega);clear hfin hT hTT lT lnm hnb hl2 hnm;generalize L.length=N at *;obtain⟨m0,m1,m2⟩:=HCL.out _ (Ext.refl _);go_enter Tryz.func38,Tryz.ntmps38
  go_wp2_with (go_at_call 15;refine(HVAL.out _ HX.out).mono ?_;rintro e w1 ⟨rfl,x1⟩;obtain⟨m0,m1,m2⟩:=HCL.out _ x1);have k0:=fun d os=>(HCL.out _ (x1.trans (below_regrown w1 d os))).1
  have k1:=fun d os=>(HCL.out _ (x1.trans (below_regrown w1 d os))).2.1
  have k2:=fun d os=>(HCL.out _ (x1.trans (below_regrown w1 d os))).2.2
  have C0:=Lib.hid (fun dd os=>regrown_ext (HX.out.trans x1) HSTS.out dd os);refine wp_region_quiet_below (by kernel_rfl) (by kernel_rfl) ?_
  repeat (go_big_quiet_step ((go_at_call 83;exact C0.out _ _)))
  refine wpQuiet_nil ?_;intro _ hw';obtain⟨⟨dq,osq⟩,hw''⟩:=hw';subst hw'';go_wp2_with fail;go_returns;exact⟨rfl,(HX.out.trans x1).trans (below_regrown w1 _ _)⟩
theorem printR_bad (nm:ByteArray)(dir:Bool)(b:Option Addr)(L:List Stm)(cap n:Nat)(w:World)(hn:n<=w.heap.size)(h:StmsAt n w b L)(hs:sizeL L<=1048576)(hnm:nm.size<=1048576)(hv:validE nm L ≠ 0):
    Calls Tryz.prog 38 #[.agg #[.string nm,.bool dir,.slice b L.length cap]] w fun e w'=>e=.returned (.string ⟨#[]⟩)/\Ext w w':=by
  have hx0:Ext w (w.alloc (.cells #[.string nm,.bool dir,.slice b L.length cap] 33)):=(Ext.refl _).alloc _;have hval:=fun w' (x:Ext w w')=>validR_any nm dir b L cap n w' (by have h:=x.size;omega) (StmsAt.below (Below.mono x hn) L h) hs (by omega)
  obtain⟨m0,m1,m2⟩:=tree_cells w nm dir b L.length cap _ (Ext.refl _);generalize validE nm L=V at *;obtain⟨f0,f0'⟩:=ne_facts hv;generalize L.length=N at *;have HVAL:=Lib.hid hval;have HX:=Lib.hid hx0;clear hval hx0 h hs hnm hv hn;go_enter Tryz.func38,Tryz.ntmps38;go_wp2_with (go_at_call 15;refine(HVAL.out _ HX.out).mono ?_;rintro e w1 ⟨rfl,x1⟩);go_returns;exact⟨rfl,HX.out.trans x1⟩
theorem printR_any (nm:ByteArray)(dir:Bool)(b:Option Addr)(L:List Stm)(cap n:Nat)(w:World)(hn:n<=w.heap.size)(h:StmsAt n w b L)(hs:sizeL L<=1048576)(hnm:nm.size<=1048576)(hlen:validE nm L=0->(printT dir nm L).length+1000<=140737488355328):
    Calls Tryz.prog 38 #[.agg #[.string nm,.bool dir,.slice b L.length cap]] w fun e w'=>e=.returned (.string ⟨(if validE nm L=0 then printT dir nm L else []).toArray⟩)/\Ext w w':=by
  by_cases hv:validE nm L=0
  · rw[if_pos hv];exact printR_dir nm dir b L cap n w hn h hs hnm (hlen hv) hv
  rw[if_neg hv];exact printR_bad nm dir b L cap n w hn h hs hnm hv
end Go.Proofs.YtjaeedbjknejdaaGreatDoor.Tr

namespace Go.Proofs.YtjaeedbjknejdaaGreatDoor.Tr
open Go.Lib Fx Lx
theorem valueT_len (s:ByteArray):(valueT s).length<=2 * s.size+2:=by
  have e:s.size=s.data.toList.length:=by simp
  unfold valueT;split
  · omega
  split
  · omega
  unfold quote;split
  · simp
  split
  · simp
  have:=escL_le s.data.toList;simp only[List.length_cons,List.length_append,List.length_nil];omega
theorem attrT_len (q:Two):(attrT q).length+2<=5 * (q.1.size+q.2.size+1):=by
  have e:q.1.size=q.1.data.toList.length:=by simp
  have:=valueT_len q.2;unfold attrT;rw[List.length_append,List.length_cons];omega
theorem sepT_len (sep:List UInt8)(F:Two->List UInt8)(h:∀ q,(F q).length+sep.length<=5 * (q.1.size+q.2.size+1)):∀ L:List Two,(sepT sep (L.map F)).length<=5 * sizeTwo L
  | []=>by simp[sepT]
  | [q]=>by have:=h q;show(F q).length<=_;simp only[sizeTwo];omega
  | q::r::L=>by
    have h1:=h q;have ih:=sepT_len sep F h (r::L);show(F q++sep++sepT sep ((r::L).map F)).length<=_;rw[List.length_append,List.length_append];rw[sizeTwo];omega
theorem listedT_len (L:List Two):(listedT L).length<=5 * sizeTwo L+2:=by
  have:=sepT_len [44,32] attrT attrT_len L;unfold listedT;simp only[List.length_cons,List.length_append,List.length_nil];omega
theorem tailT_len (L:List Two):(tailT L).length<=5 * sizeTwo L+4:=by
  have:=listedT_len L;unfold tailT;split
  · simp
  simp only[List.length_cons,List.length_append,List.length_nil];omega
theorem refT_len (d:Bool)(q:Two):(refT q).length+(arrow d).length<=5 * (q.1.size+q.2.size+1):=by
  have e:q.1.size=q.1.data.toList.length:=by simp
  have e2:q.2.size=q.2.data.toList.length:=by simp
  have:(arrow d).length=4:=by cases d <;> rfl
  unfold refT;rw[List.length_append];split
  · simp only[List.length_nil];omega
  rw[List.length_cons];omega
theorem indT_len (n:Nat):(indT n).length=4 * n:=by unfold indT;simp
mutual
theorem printS_len (d:Bool):∀ (x:Stm) (lev:Nat),(printS d lev x).length<=sizeS x * (30+8 * (lev+sizeS x))
  | .mk k n r a b,lev=>by
    have ih:=printL_len d b (lev+1);have hr:=sepT_len (arrow d) refT (refT_len d) r;have hl:=listedT_len a;have ht:=tailT_len a;have hi:=indT_len lev;have hn:n.data.toList.length=n.size:=by simp
    have hv:(valueT (a.headD (⟨#[]⟩,⟨#[]⟩)).2).length<=2 * sizeTwo a+2:=by
      have:=valueT_len (a.headD (⟨#[]⟩,⟨#[]⟩)).2;cases a with
      | nil=>exact this
      | cons q t=>rw[sizeTwo];simp only[List.headD_cons] at this ⊢;omega
    obtain⟨S,hS⟩:∃ S,S=sizeS (.mk k n r a b):=⟨_,rfl⟩;rw[<-hS];rw[sizeS] at hS
    have key:(n.size+sizeTwo r+sizeTwo a+1) * (30+8 * lev)+sizeL b * (30+8 * (lev+S))<=S * (30+8 * (lev+S)):=by
      have h1:(n.size+sizeTwo r+sizeTwo a+1) * (30+8 * lev)<=(n.size+sizeTwo r+sizeTwo a+1) * (30+8 * (lev+S)):=Nat.mul_le_mul_left _ (by omega)
      have h2:S * (30+8 * (lev+S))=(n.size+sizeTwo r+sizeTwo a+1) * (30+8 * (lev+S))+sizeL b * (30+8 * (lev+S)):=by
        rw[<-Nat.add_mul];congr 1;omega
      omega
    have low:n.size * 30+sizeTwo r * 30+sizeTwo a * 30+30+8 * lev<=(n.size+sizeTwo r+sizeTwo a+1) * (30+8 * lev):=by
      rw[Nat.mul_add];have:1 * (8 * lev)<=(n.size+sizeTwo r+sizeTwo a+1) * (8 * lev):=Nat.mul_le_mul_right _ (by omega);omega
    have ih2:(printL d (lev+1) b).length<=sizeL b * (30+8 * (lev+S)):=Nat.le_trans ih (Nat.mul_le_mul_left _ (by omega));have goal:∀ m,m<=n.size * 30+sizeTwo r * 30+sizeTwo a * 30+30+8 * lev+(printL d (lev+1) b).length->m<=S * (30+8 * (lev+S)):=fun m hm=>by omega
    rw[printS];apply goal;split
    · simp only[List.length_append,List.length_cons,List.length_nil];omega
    · split
      · simp only[List.length_append,List.length_cons,List.length_nil];omega
      split
      · simp only[List.length_append,List.length_cons,List.length_nil];omega
      split
      · simp only[List.length_append,List.length_cons,List.length_nil];omega
      simp only[List.length_append,List.length_cons,List.length_nil];omega
theorem printL_len (d:Bool):∀ (L:List Stm) (lev:Nat),(printL d lev L).length<=sizeL L * (30+8 * (lev+sizeL L))
  | [],lev=>by rw[printL,sizeL];simp
  | x::r,lev=>by
    have h1:=printS_len d x lev;have h2:=printL_len d r lev;rw[printL,sizeL,List.length_append,Nat.add_mul];have h3:sizeS x * (30+8 * (lev+sizeS x))<=sizeS x * (30+8 * (lev+(sizeS x+sizeL r))):=Nat.mul_le_mul_left _ (by omega);have h4:sizeL r * (30+8 * (lev+sizeL r))<=sizeL r * (30+8 * (lev+(sizeS x+sizeL r))):=Nat.mul_le_mul_left _ (by omega);omega
end
theorem printT_len (d:Bool)(name:ByteArray)(L:List Stm)(hn:name.size<=1048576)(hL:sizeL L<=1048576):(printT d name L).length+1000<=140737488355328:=by
  have h1:=printL_len d L 1;have h2:sizeL L * (30+8 * (1+sizeL L))<=1048576 * (30+8 * (1+1048576)):=Nat.mul_le_mul hL (by omega);have hn2:name.data.toList.length=name.size:=by simp
  unfold printT;simp only[List.length_append,List.length_cons,List.length_nil];have:(if d=true then [100,105,103,114,97,112,104,32] else [103,114,97,112,104,32]:List UInt8).length<=8:=by cases d <;> decide
  omega
end Go.Proofs.YtjaeedbjknejdaaGreatDoor.Tr
