/- Packed texts: NorBld, TreForm, NorPtL, NorFin, NorRes, ExpMem -/
import Derived.Test.YtjaeedbjknejdaaGreatDoorPd15
import Derived.Laws.ResultCell
set_option linter.unusedVariables false
set_option linter.unusedSimpArgs false
set_option maxHeartbeats 16000000
set_option maxRecDepth 100000
namespace Go.Proofs.YtjaeedbjknejdaaGreatDoor.Nm
open Go.RowKit Go.Sort Go.Lib Fx Lx Tr At
variable {w0 w w2:World} {bb m1 m2 B:Nat} {nv av cv lv:Value} {aw:List Value} {ks:List (Lk × Value)} {S:St} {I T:List (ByteArray × Int)}
theorem ext_grown {w0 w w':World}{row:Option Nat}(x:Ext w0 w)(hg:w.grownBy w' row)(hr:∀ k,row=some k->w0.heap.size<=k):Ext w0 w':=Below.grown x hg x.size hr
theorem nope {a b:Nat}(h:a ≠ b):some a ≠ some b:=fun e=>h (by injection e)
theorem info_node : (Tryz.prog.info? 59).map (fun i=>(i.zero,i.size,i.bytes))=some (some (.agg #[.string ⟨#[]⟩,.string ⟨#[]⟩,.int .i64 0,.int .i64 0,.int .i64 0,.slice none 0 0]),6,80):=by kernel_rfl
theorem info_atl : (Tryz.prog.info? 65).map (fun i=>(i.zero,i.size,i.bytes))=some (some (.slice none 0 0),1,24):=by kernel_rfl
theorem info_clu : (Tryz.prog.info? 63).map (fun i=>(i.zero,i.size,i.bytes))=some (some (.agg #[.string ⟨#[]⟩,.int .i64 0]),2,24):=by kernel_rfl
end Go.Proofs.YtjaeedbjknejdaaGreatDoor.Nm

namespace Go.Proofs.YtjaeedbjknejdaaGreatDoor.Tr
open Go.RowKit Go.Sort Go.Lib Go.Shelf Fx Lx
theorem stm_cells (w:World)(k:Int)(nm:ByteArray)(r a b:Option Addr)(R A B rc ac bc:Nat):∀ w1,Ext (w.alloc (.cells #[.int .i64 k,.string nm,.slice r R rc,.slice a A ac,.slice b B bc] 67)) w1 ->
  w1.cell? ⟨w.heap.size,0,none⟩=some (.int .i64 k)/\w1.cell? ⟨w.heap.size,1,none⟩=some (.string nm)/\w1.cell? ⟨w.heap.size,2,none⟩=some (.slice r R rc)/\w1.cell? ⟨w.heap.size,3,none⟩=some (.slice a A ac)/\w1.cell? ⟨w.heap.size,4,none⟩=some (.slice b B bc):=fun w1 x=>by
 have hb:=heap_alloc_new w (.cells #[.int .i64 k,.string nm,.slice r R rc,.slice a A ac,.slice b B bc] 67);refine⟨x.cell ?_,x.cell ?_,x.cell ?_,x.cell ?_,x.cell ?_⟩ <;> rw[Lib.cell_of_heap hb] <;> rfl
theorem form_node (nm:ByteArray)(r a b:Option Addr)(R A B rc ac bc:Nat)(w:World):
  Calls Tryz.prog 135 #[.agg #[.int .i64 1,.string nm,.slice r R rc,.slice a A ac,.slice b B bc]] w fun e w'=>e=.returned (.int .i64 (if(decide (R=0) && decide (B=0))=true then 0 else 1))/\Ext w w':=by
 by_cases hR:R=0
 ·by_cases hB:B=0
  ·subst hR;subst hB;go_enter Tryz.func135,Tryz.ntmps135;go_wp2;go_ret;exact⟨rfl,(Ext.refl _).alloc _⟩
  subst hR;have f1:((B:Int) == 0)=false:=by simpa using hB
  rw[decide_eq_false hB];clear hB;go_enter Tryz.func135,Tryz.ntmps135;go_wp2;go_ret;exact⟨rfl,(Ext.refl _).alloc _⟩
 have f1:((R:Int) == 0)=false:=by simpa using hR
 rw[decide_eq_false hR];clear hR;go_enter Tryz.func135,Tryz.ntmps135;go_wp2;go_ret;exact⟨rfl,(Ext.refl _).alloc _⟩
theorem form_cluster (nm:ByteArray)(r a b:Option Addr)(R A B rc ac bc:Nat)(w:World):
  Calls Tryz.prog 135 #[.agg #[.int .i64 5,.string nm,.slice r R rc,.slice a A ac,.slice b B bc]] w fun e w'=>e=.returned (.int .i64 (if(decide (R=0) && decide (A=0))=true then 0 else 1))/\Ext w w':=by
 by_cases hR:R=0
 ·by_cases hB:A=0
  ·subst hR;subst hB;go_enter Tryz.func135,Tryz.ntmps135;go_wp2;go_ret;exact⟨rfl,(Ext.refl _).alloc _⟩
  subst hR;have f1:((A:Int) == 0)=false:=by simpa using hB
  rw[decide_eq_false hB];clear hB;go_enter Tryz.func135,Tryz.ntmps135;go_wp2;go_ret;exact⟨rfl,(Ext.refl _).alloc _⟩
 have f1:((R:Int) == 0)=false:=by simpa using hR
 rw[decide_eq_false hR];clear hR;go_enter Tryz.func135,Tryz.ntmps135;go_wp2;go_ret;exact⟨rfl,(Ext.refl _).alloc _⟩
theorem size0 {n:ByteArray}:(n.toList == [])=decide (n.size=0):=by
 rw[ByteArray.toList_eq,size_len,Bool.eq_iff_iff,beq_iff_eq,decide_eq_true_eq,List.length_eq_zero_iff]
theorem form_edge (nm:ByteArray)(r a b:Option Addr)(R A B rc ac bc:Nat)(w:World):
  Calls Tryz.prog 135 #[.agg #[.int .i64 2,.string nm,.slice r R rc,.slice a A ac,.slice b B bc]] w fun e w'=>e=.returned (.int .i64 (if(decide (nm.size=0) && decide (B=0) && decide (2<=R))=true then 0 else 1))/\Ext w w':=by
 have hN:=@size0 nm;cases hn:decide (nm.size=0)
 ·rw[hn] at hN;clear hn;go_enter Tryz.func135,Tryz.ntmps135;go_wp2;go_ret;exact⟨rfl,(Ext.refl _).alloc _⟩
 rw[hn] at hN;clear hn;by_cases hB:B=0
 ·subst hB;by_cases hR:2<=R
  ·have f1:decide ((2:Int)<=R)=true:=decide_eq_true (by omega);rw[decide_eq_true hR];go_enter Tryz.func135,Tryz.ntmps135;go_wp2;go_ret;exact⟨rfl,(Ext.refl _).alloc _⟩
  have f1:decide ((2:Int)<=R)=false:=decide_eq_false (by omega);rw[decide_eq_false hR];go_enter Tryz.func135,Tryz.ntmps135;go_wp2;go_ret;exact⟨rfl,(Ext.refl _).alloc _⟩
 have f1:((B:Int) == 0)=false:=by simpa using hB
 rw[decide_eq_false hB];clear hB;go_enter Tryz.func135,Tryz.ntmps135;go_wp2;go_ret;exact⟨rfl,(Ext.refl _).alloc _⟩
end Go.Proofs.YtjaeedbjknejdaaGreatDoor.Tr

namespace Go.Proofs.YtjaeedbjknejdaaGreatDoor.Nm
open Go.RowKit Go.Sort Go.Lib Go.Shelf Fx Lx Tr At
def PtL (w:World)(v:Value)(L:List Prt):Prop:=∃ p c,v=.slice p L.length c/\PrtIn w p L/\L.length<=c/\c<=maxLen/\∀ q,p=some q->∃ cs,w.heap[q.block]? = some (.cells cs 167 (0,0))
theorem PtL.ext {w w':World}{v:Value}{L:List Prt}(h:PtL w v L)(x:Ext w w'):PtL w' v L:=by
 obtain⟨p,c,h1,h2,h3,h4,h5⟩:=h;exact⟨p,c,h1,h2.ext x,h3,h4,fun q e=>by obtain⟨cs,hc⟩:=h5 q e;exact⟨cs,At.heap_ext hc x⟩⟩
theorem PtL.nil (w:World):PtL w (.slice none 0 0) []:=⟨none,0,rfl,fun k hk=>absurd hk (by simp),by simp,by unfold maxLen;omega,fun q e=>by cases e⟩
theorem PtL.keep {w w':World}{row:Option Nat}{t:Option TypeId}{v:Value}{L:List Prt}(h:PtL w v L)(hg:w.grownBy w' row)(ht:TyOf w row t)(hne:some 167 ≠ t):PtL w' v L:=by
 obtain⟨p,c,h1,h2,h3,h4,h5⟩:=h;refine⟨p,c,h1,fun k hk=>?_,h3,h4,fun q e=>?_⟩
 ·obtain⟨g,o,ha,c0,c1⟩:=h2 k hk;obtain⟨cs,hb⟩:=h5 _ ha;have hb':=blk_keep hb hg ht hne;refine⟨g,o,ha,?_,?_⟩
  ·rw[Lib.cell_of_heap hb'];rw[Lib.cell_of_heap hb] at c0;exact c0
  rw[Lib.cell_of_heap hb'];rw[Lib.cell_of_heap hb] at c1;exact c1
 obtain⟨cs,hb⟩:=h5 q e;exact⟨cs,blk_keep hb hg ht hne⟩
theorem own_ptL {w:World}{B:Nat}{v:Value}{L:List Prt}(h:w.ownsRow B 167 2 v L.length (prtsC L)):PtL w v L:=by
 obtain⟨a,c,hv,hi⟩:=own_prts h;rcases h.2 with⟨h1,h2⟩ | ⟨g,cap,cur,h1,_,hg,h3,h4,_⟩
 ·rw[hv] at h1;injection h1 with e1 e2 e3;subst e1;subst e3;exact⟨none,0,hv,hi,by omega,by unfold maxLen;omega,fun q e=>by cases e⟩
 rw[hv] at h1;injection h1 with e1 e2 e3;subst e1;subst e3;exact⟨_,c,hv,hi,h3,h4,fun q e=>by cases e;exact⟨cur,hg⟩⟩
theorem portR_any (a:Option Addr)(L:List Prt)(cap:Nat)(n:ByteArray)(w:World)(h:PrtIn w a L)(hL:L.length<=1000000000):
  Calls Tryz.prog 96 #[.slice a L.length cap,.string n] w fun e w'=>e=.returned (.int .i64 (portT L n))/\Ext w w':=by
 obtain⟨N,hN⟩:∃ N,N=L.length:=⟨_,rfl⟩;obtain⟨V,hV⟩:∃ V,V=portT L n:=⟨_,rfl⟩;rw[<-hV];rw[<-hN] at hL ⊢;unfold portT at hV;have hz:=@size0 n;have HN:=hid hN;have HI:=hid h;have HV:=hid hV;clear hN h hV;by_cases h0:n.size=0
 ·rw[decide_eq_true h0] at hz;have hr:Hid (V = -1):=hid (by rw[HV.out,if_pos h0]);clear h0;go_enter Tryz.func96,Tryz.ntmps96;go_wp2;go_ret;exact⟨ret_i hr.out.symm,Ext.refl _⟩
 rw[decide_eq_false h0] at hz;have H0:Hid (V=portGo n ((0:Nat):Int) (L.drop 0)):=hid (by rw[HV.out,if_neg h0,List.drop_zero];rfl);clear HV h0;go_enter Tryz.func96,Tryz.ntmps96;go_wp2_with fail
 go_loopw [5] (fun i' wr=>∃ k:Nat,k<=N/\i'=.int .i64 k/\Hid (V=portGo n (k:Int) (L.drop k))/\Ext w wr) (fun i' _=>N - (RowKit.intOf i').toNat)
 case atStart=>exact⟨0,Nat.zero_le _,rfl,H0,Ext.refl _⟩
 clear H0;obtain⟨k,hk,rfl,hv,hx⟩:=hrel;by_cases hlt:k < N
 ·have hkl:k < L.length:=by rw[<-HN.out];exact hlt
  obtain⟨g,o,rfl,c0,-⟩:=(HI.out.ext hx) k hkl;have hv1:=hv.out;rw[List.drop_eq_getElem_cons hkl] at hv1;unfold portGo at hv1;obtain⟨s,hs⟩:∃ s,s=L[k].1:=⟨_,rfl⟩;rw[<-hs] at c0 hv1;have HV:=hid hv1;have b0:(0:Int)<=(k:Int):=by omega
  have b1:(k:Int) < (N:Int):=by omega
  clear hv hv1 hs;by_cases he:s=n
  ·have f1:(s.toList == n.toList)=true:=by rw[At.beqs];exact decide_eq_true he
   have hr:Hid (V=(k:Int)):=hid (by rw[HV.out,if_pos he]);clear he;go_wp2;go_ret;exact⟨ret_i hr.out.symm,hx⟩
  have f1:(s.toList == n.toList)=false:=by rw[At.beqs];exact decide_eq_false he
  have hr:Hid (V=portGo n ((k+1:Nat):Int) (L.drop (k+1))):=hid (by rw[HV.out,if_neg he];rfl);clear he;go_wp2
  go_roundw
  case rel=>exact⟨k+1,by omega,by go_num,hr,hx⟩
  case measure=>simp[RowKit.intOf];omega
 have hr:Hid (V = -2):=hid (by rw[hv.out,List.drop_eq_nil_of_le (by rw[<-HN.out];omega)];rfl);clear hv;go_wp2;go_ret;exact⟨ret_i hr.out.symm,hx⟩
theorem portsV_len (s:ByteArray):(portsV s).1.length<=8:=by
 unfold portsV;split
 ·simp
 exact portsGo_len _ _ (by simp)
end Go.Proofs.YtjaeedbjknejdaaGreatDoor.Nm

namespace Go.Proofs.YtjaeedbjknejdaaGreatDoor.Nm
open Go.RowKit Go.Sort Go.Lib Fx Lx Tr At
def nvC (x:Nd × Value):List Value:=[.string x.1.name,.string x.1.label,.int .i64 x.1.w,.int .i64 x.1.h,.int .i64 x.1.c,x.2]
def nvsC (L:List (Nd × Value)):List Value:=L.flatMap nvC
theorem nvC_len (x:Nd × Value):(nvC x).length=6:=rfl
def edC (x:Ed):List Value:=[.int .i64 x.a,.int .i64 x.b,.int .i64 x.ap,.int .i64 x.bp,.string x.label,.int .i64 x.wt,.int .i64 x.len]
def edsC (L:List Ed):List Value:=L.flatMap edC
theorem edsC_snoc (L:List Ed)(q:Ed):edsC (L++[q])=edsC L++edC q:=by unfold edsC;simp
def PtLs (w:World)(NV:List (Nd × Value)):Prop:=∀ (k:Nat) (x:Nd × Value),NV[k]? = some x->PtL w x.2 x.1.ports
theorem PtLs.ext {w w':World}{NV:List (Nd × Value)}(h:PtLs w NV)(x:Ext w w'):PtLs w' NV:=fun k y e=>(h k y e).ext x
theorem PtLs.keep {w w':World}{row:Option Nat}{t:Option TypeId}{NV:List (Nd × Value)}(h:PtLs w NV)(hg:w.grownBy w' row)(ht:TyOf w row t)(hne:some 167 ≠ t):PtLs w' NV:=fun k y e=>(h k y e).keep hg ht hne
theorem row_nd {w:World}{B:Nat}{v:Value}{NV:List (Nd × Value)}(h:w.ownsRow B 59 6 v NV.length (nvsC NV))(hp:PtLs w NV):∃ a c,v=.slice a (NV.map Prod.fst).length c/\NdIn w a (NV.map Prod.fst)/\NdCp w a (NV.map Prod.fst):=by
 rcases h.2 with⟨h1,h2⟩ | ⟨g,cap,cur,hv,_,hg,_⟩
 ·have:NV=[]:=List.eq_nil_of_length_eq_zero h2;subst this;exact⟨_,_,h1,fun k hk=>absurd hk (by simp),fun k hk=>absurd hk (by simp)⟩
 have hc:=fun(k:Nat) (hk:k < NV.length) (j:Nat) (hj:j < 6) (u:Value) (hu:(nvC NV[k])[j]? = some u)=>h.cells (g:=g) (by rw[hv];rfl) (k * 6+j) u (by unfold nvsC;rw[fm_get nvC_len NV k hk j hj];exact hu)
 have hz:∀ j,(⟨g,0,none⟩:Addr).add j=⟨g,0+j,none⟩:=fun j=>by rw[Nat.zero_add];exact add0 g j
 refine⟨_,cap,by rw[hv,List.length_map],fun k hk=>?_,fun k hk g' o' p' n' c' e hcell=>?_⟩
 ·rw[List.length_map] at hk;obtain⟨p,c,h1,h2,h3,h4,h5⟩:=hp k NV[k] (List.getElem?_eq_getElem hk);refine⟨g,0,p,c,rfl,?_⟩;rw[List.getElem_map];have q0:=hc k hk 0 (by omega) _ rfl;have q1:=hc k hk 1 (by omega) _ rfl;have q2:=hc k hk 2 (by omega) _ rfl;have q3:=hc k hk 3 (by omega) _ rfl;have q4:=hc k hk 4 (by omega) _ rfl;have q5:=hc k hk 5 (by omega) _ rfl;rw[hz] at q0 q1 q2 q3 q4 q5;rw[h1] at q5;exact⟨q0,q1,q2,q3,q4,q5,h2⟩
 rw[List.length_map] at hk;injection e with e;injection e with e1 e2 _;subst e1;subst e2;obtain⟨p,c,h1,h2,h3,h4,h5⟩:=hp k NV[k] (List.getElem?_eq_getElem hk);have q5:=hc k hk 5 (by omega) _ rfl;rw[hz,h1] at q5;rw[show(0:Nat)+(k * 6+5)=0+k * 6+5 by omega,hcell] at q5;injection q5 with q5;injection q5 with _ e1 e2;rw[e1,e2];unfold maxLen at h4;exact⟨h3,by omega⟩
theorem row_cl {w:World}{B:Nat}{v:Value}{C:List (ByteArray × Int)}(h:w.ownsRow B 63 2 v C.length (clsC C)):∃ a c,v=.slice a C.length c/\ClIn w a C/\C.length<=c/\c<=9223372036854775807:=by
 rcases h.2 with⟨h1,h2⟩ | ⟨g,cap,cur,hv,_,hg,h3,h4,_⟩
 ·have:C=[]:=List.eq_nil_of_length_eq_zero h2;subst this;exact⟨_,_,h1,fun k hk=>absurd hk (by simp),by simp,by omega⟩
 have hc:=fun(k:Nat) (hk:k < C.length) (j:Nat) (hj:j < 2) (u:Value) (hu:(clC C[k])[j]? = some u)=>h.cells (g:=g) (by rw[hv];rfl) (k * 2+j) u (by unfold clsC;rw[fm_get (s:=2) (f:=clC) (fun _=>rfl) C k hk j hj];exact hu)
 have hz:∀ j,(⟨g,0,none⟩:Addr).add j=⟨g,0+j,none⟩:=fun j=>by rw[Nat.zero_add];exact add0 g j
 refine⟨_,cap,hv,fun k hk=>?_,h3,by unfold maxLen at h4;omega⟩;have q0:=hc k hk 0 (by omega) _ rfl;have q1:=hc k hk 1 (by omega) _ rfl;rw[hz] at q0 q1;exact⟨g,0,rfl,q0,q1⟩
theorem row_ed {w:World}{B:Nat}{v:Value}{E:List Ed}(h:w.ownsRow B 61 7 v E.length (edsC E)):∃ a c,v=.slice a E.length c/\EdIn w a E:=by
 rcases h.2 with⟨h1,h2⟩ | ⟨g,cap,cur,hv,_,hg,h3,h4,_⟩
 ·have:E=[]:=List.eq_nil_of_length_eq_zero h2;subst this;exact⟨_,_,h1,fun k hk=>absurd hk (by simp)⟩
 have hc:=fun(k:Nat) (hk:k < E.length) (j:Nat) (hj:j < 7) (u:Value) (hu:(edC E[k])[j]? = some u)=>h.cells (g:=g) (by rw[hv];rfl) (k * 7+j) u (by unfold edsC;rw[fm_get (s:=7) (f:=edC) (fun _=>rfl) E k hk j hj];exact hu)
 have hz:∀ j,(⟨g,0,none⟩:Addr).add j=⟨g,0+j,none⟩:=fun j=>by rw[Nat.zero_add];exact add0 g j
 refine⟨_,cap,hv,fun k hk=>?_⟩;have q0:=hc k hk 0 (by omega) _ rfl;have q1:=hc k hk 1 (by omega) _ rfl;have q2:=hc k hk 2 (by omega) _ rfl;have q3:=hc k hk 3 (by omega) _ rfl;have q4:=hc k hk 4 (by omega) _ rfl;have q5:=hc k hk 5 (by omega) _ rfl;have q6:=hc k hk 6 (by omega) _ rfl;rw[hz] at q0 q1 q2 q3 q4 q5 q6;exact⟨g,0,rfl,q0,q1,q2,q3,q4,q5,q6⟩
variable {w0 w w2:World} {bb m1 m2 B:Nat} {nv av cv lv:Value} {aw:List Value} {ks:List (Lk × Value)} {S:St} {NV:List (Nd × Value)}
theorem row_has {w:World}{B:Nat}{T:TypeId}{sz:Nat}{v:Value}{n:Nat}{xs:List Value}(h:w.ownsRow B T sz v n xs)(h0:0 < n):∃ g c,v=.slice (some ⟨g,0,none⟩) n c/\n<=c/\c<=maxLen/\∃ cs,w.heap[g]? = some (.cells cs T (0,0)):=by
 rcases h.2 with⟨_,rfl⟩ | ⟨g,cap,cur,rfl,_,hg,h1,h2,_⟩
 ·exact absurd h0 (by omega)
 exact⟨g,cap,rfl,h1,h2,cur,hg⟩
end Go.Proofs.YtjaeedbjknejdaaGreatDoor.Nm

namespace Go.Proofs.YtjaeedbjknejdaaGreatDoor.Nm
open Go.RowKit Go.Sort Go.Lib Fx Lx Tr At
theorem size_gr : (Tryz.prog.info? 26).map (·.size)=some 5:=by kernel_rfl
theorem results_gr {fn:Func}{p u:Tmp}(h:fn.results=#[.cell p 26,.tmp u])(tmps:Array Value)(w:World)(g:Nat)(cs:Array Value)(e:Value)(hsz:cs.size=5)(hp:tmps.getD p undef=.pointer (some ⟨g,0,none⟩))(he:tmps.getD u undef=e)(hg:w.heap[g]? = some (.cells cs 26 (0,0))):
  (results fn tmps).run Tryz.prog w=.ok (.tuple #[.agg cs,e]) w:=by
 rw[results_cell_tmp h,hp,he];have hl:=run_loadVar_row (P:=Tryz.prog) w g 26 26 cs (0,0) _ hg Tryz.underlying26 rfl (by rw[size_gr,hsz]);simp[asAddr,Result.andThen,hl]
def gr0V : Value:=.agg #[.string ⟨#[]⟩,.bool false,.slice none 0 0,.slice none 0 0,.slice none 0 0]
theorem cells5g {w:World}{g:Nat}{T:TypeId}{c0 c1 c2 c3 c4:Value}(h:w.heap[g]? = some (.cells #[c0,c1,c2,c3,c4] T (0,0))):
  w.cell? ⟨g,0,none⟩=some c0/\w.cell? ⟨g,1,none⟩=some c1/\w.cell? ⟨g,2,none⟩=some c2/\w.cell? ⟨g,3,none⟩=some c3/\w.cell? ⟨g,4,none⟩=some c4:=by
 refine⟨?_,?_,?_,?_,?_⟩ <;> (rw[Lib.cell_of_heap h];rfl)
theorem set5g {w:World}{g:Nat}{T:TypeId}{c0 c1 c2 c3 c4:Value}(h:w.heap[g]? = some (.cells #[c0,c1,c2,c3,c4] T (0,0)))(v0 v1 v2 v3 v4:Value):
  (((((w.setCell ⟨g,0,none⟩ v0).setCell ⟨g,1,none⟩ v1).setCell ⟨g,2,none⟩ v2).setCell ⟨g,3,none⟩ v3).setCell ⟨g,4,none⟩ v4).heap[g]? = some (.cells #[v0,v1,v2,v3,v4] T (0,0)) :=
 blk_set (blk_set (blk_set (blk_set (blk_set h 0 v0) 1 v1) 2 v2) 3 v3) 4 v4
theorem ext5g {w0 w:World}(x:Ext w0 w){g:Nat}(hg:w0.heap.size<=g)(v0 v1 v2 v3 v4:Value):
  Ext w0 (((((w.setCell ⟨g,0,none⟩ v0).setCell ⟨g,1,none⟩ v1).setCell ⟨g,2,none⟩ v2).setCell ⟨g,3,none⟩ v3).setCell ⟨g,4,none⟩ v4) :=
 ((((x.setCell hg _).setCell hg _).setCell hg _).setCell hg _).setCell hg _
theorem info_edge : (Tryz.prog.info? 61).map (fun i=>(i.zero,i.size,i.bytes))=some (some (.agg #[.int .i64 0,.int .i64 0,.int .i64 0,.int .i64 0,.string ⟨#[]⟩,.int .i64 0,.int .i64 0]),7,64):=by kernel_rfl
theorem set7g {w:World}{g:Nat}{T:TypeId}{c0 c1 c2 c3 c4 c5 c6:Value}(h:w.heap[g]? = some (.cells #[c0,c1,c2,c3,c4,c5,c6] T (0,0)))(v0 v1 v2 v3 v4 v5 v6:Value):
  (((((((w.setCell ⟨g,0,none⟩ v0).setCell ⟨g,1,none⟩ v1).setCell ⟨g,2,none⟩ v2).setCell ⟨g,3,none⟩ v3).setCell ⟨g,4,none⟩ v4).setCell ⟨g,5,none⟩ v5).setCell ⟨g,6,none⟩ v6).heap[g]? = some (.cells #[v0,v1,v2,v3,v4,v5,v6] T (0,0)):=by
 have h1:((w.setCell ⟨g,0,none⟩ v0)).heap[g]? = some (.cells #[v0,c1,c2,c3,c4,c5,c6] T (0,0)):=blk_set h 0 v0;have h2:(((w.setCell ⟨g,0,none⟩ v0).setCell ⟨g,1,none⟩ v1)).heap[g]? = some (.cells #[v0,v1,c2,c3,c4,c5,c6] T (0,0)):=blk_set h1 1 v1;have h3:((((w.setCell ⟨g,0,none⟩ v0).setCell ⟨g,1,none⟩ v1).setCell ⟨g,2,none⟩ v2)).heap[g]? = some (.cells #[v0,v1,v2,c3,c4,c5,c6] T (0,0)):=blk_set h2 2 v2;have h4:(((((w.setCell ⟨g,0,none⟩ v0).setCell ⟨g,1,none⟩ v1).setCell ⟨g,2,none⟩ v2).setCell ⟨g,3,none⟩ v3)).heap[g]? = some (.cells #[v0,v1,v2,v3,c4,c5,c6] T (0,0)):=blk_set h3 3 v3;have h5:((((((w.setCell ⟨g,0,none⟩ v0).setCell ⟨g,1,none⟩ v1).setCell ⟨g,2,none⟩ v2).setCell ⟨g,3,none⟩ v3).setCell ⟨g,4,none⟩ v4)).heap[g]? = some (.cells #[v0,v1,v2,v3,v4,c5,c6] T (0,0)):=blk_set h4 4 v4
 have h6:(((((((w.setCell ⟨g,0,none⟩ v0).setCell ⟨g,1,none⟩ v1).setCell ⟨g,2,none⟩ v2).setCell ⟨g,3,none⟩ v3).setCell ⟨g,4,none⟩ v4).setCell ⟨g,5,none⟩ v5)).heap[g]? = some (.cells #[v0,v1,v2,v3,v4,v5,c6] T (0,0)):=blk_set h5 5 v5;have h7:((((((((w.setCell ⟨g,0,none⟩ v0).setCell ⟨g,1,none⟩ v1).setCell ⟨g,2,none⟩ v2).setCell ⟨g,3,none⟩ v3).setCell ⟨g,4,none⟩ v4).setCell ⟨g,5,none⟩ v5).setCell ⟨g,6,none⟩ v6)).heap[g]? = some (.cells #[v0,v1,v2,v3,v4,v5,v6] T (0,0)):=blk_set h6 6 v6;exact h7
theorem ext7g {w0 w:World}(x:Ext w0 w){g:Nat}(hg:w0.heap.size<=g)(v0 v1 v2 v3 v4 v5 v6:Value):
  Ext w0 (((((((w.setCell ⟨g,0,none⟩ v0).setCell ⟨g,1,none⟩ v1).setCell ⟨g,2,none⟩ v2).setCell ⟨g,3,none⟩ v3).setCell ⟨g,4,none⟩ v4).setCell ⟨g,5,none⟩ v5).setCell ⟨g,6,none⟩ v6) :=
 ((((((x.setCell hg _).setCell hg _).setCell hg _).setCell hg _).setCell hg _).setCell hg _).setCell hg _
end Go.Proofs.YtjaeedbjknejdaaGreatDoor.Nm

namespace Go.Proofs.YtjaeedbjknejdaaGreatDoor.Ex
open Go.RowKit Go.Sort Go.Lib Go.Shelf Fx Lx Tr At Go.Proofs.YtjaeedbjknejdaaGreatDoor.Nm
theorem chn_step (C:List (ByteArray × Int))(f:Nat){k:Nat}(h:k < C.length):chnT C (f+1) k=(k:Int)::chnT C f C[k].2:=by
 rw[chnT,if_neg (by omega),show((k:Int).toNat)=k by omega,List.getElem?_eq_getElem h];rfl
theorem chn_end (C:List (ByteArray × Int))(f:Nat){c:Int}(h:c < 0):chnT C f c=[]:=by
 cases f with
 | zero=>rfl
 | succ f=>rw[chnT,if_pos h]
def intsC (L:List Int):List Value:=L.map (.int .i64 ·)
theorem intsC_snoc (L:List Int)(x:Int):intsC (L++[x])=intsC L++[.int .i64 x]:=by unfold intsC;simp
theorem intsC_at (L:List Int)(j:Nat)(h:j < L.length):(intsC L)[j]? = some (.int .i64 (L.getD j 0)):=by
 unfold intsC;rw[List.getElem?_map,List.getElem?_eq_getElem h,List.getD_eq_getElem?_getD,List.getElem?_eq_getElem h];rfl
theorem own_ints {w:World}{B:Nat}{T:TypeId}{v:Value}{L:List Int}(h:w.ownsRow B T 1 v L.length (intsC L)):(L=[]/\∃ a c,v=.slice a 0 c)\/∃ g c,v=.slice (some ⟨g,0,none⟩) L.length c/\∀ j,j < L.length->w.cell? ⟨g,0+j,none⟩=some (.int .i64 (L.getD j 0)):=by
 rcases h.2 with⟨h1,h2⟩ | ⟨g,cap,cur,hv,hb,hg,hn,hcap,_⟩
 ·exact .inl ⟨List.eq_nil_of_length_eq_zero h2,none,0,h1⟩
 refine .inr ⟨g,cap,hv,fun j hj=>?_⟩;have:=h.cells (g:=g) (by rw[hv];rfl) j _ (intsC_at L j hj);rw[add0] at this;rw[Nat.zero_add];exact this
theorem has_any (L:List Int)(v:Value)(x:Int)(B:Nat)(T:TypeId)(w:World)(h:w.ownsRow B T 1 v L.length (intsC L))(hL:L.length<=1000000000):
  Calls Tryz.prog 132 #[v,.int .i64 x] w fun e w'=>e=.returned (.bool (L.contains x))/\w'=w:=by
 rcases own_ints h with⟨rfl,a,c,rfl⟩ | ⟨g,c,rfl,hc⟩
 ·exact Tryz.slices_Contains_int_empty a c x w
 have:=Tryz.slices_Contains_int g 0 L.length c L x w (Nat.le_refl _) (by omega) hc;rw[List.take_of_length_le (Nat.le_refl _)] at this;exact this
theorem chain_any (g:Gr)(va:Value)(i:Int)(w:World)(ha:GrIn w va g)(hi0 : -1<=i)(hi:i < g.C.length)(hC:g.C.length<=1000000000)(hp:∀ k (h:k < g.C.length),g.C[k].2 < k /\ -1<=g.C[k].2):
  Calls Tryz.prog 181 #[va,.int .i64 i] w fun e w'=>(∃ v,e=.returned v/\w'.ownsRow w.heap.size 3 1 v (chnT g.C (g.C.length+1) i).length (intsC (chnT g.C (g.C.length+1) i)))/\Ext w w':=by
 obtain⟨na,nac,ea,eac,ca,cac,rfl,-,-,a3⟩:=ha;obtain⟨nm,dir,NN,EE,CC⟩:=g;dsimp only at *;obtain⟨q,hq⟩:∃ n,n=NN.length:=⟨_,rfl⟩;obtain⟨el,hel⟩:∃ n,n=EE.length:=⟨_,rfl⟩;obtain⟨cl,hcl⟩:∃ n,n=CC.length:=⟨_,rfl⟩;obtain⟨D,hD⟩:∃ n,n=chnT CC (CC.length+1) i:=⟨_,rfl⟩;rw[<-hD];rw[<-hq,<- hel,<- hcl];rw[<-hcl] at hC hi;have hD0:Hid ([]++chnT CC (cl+1) i=D):=hid (by rw[hD,hcl];rfl);have A3:=hid a3;have HCL:=hid hcl;have HP:=hid hp;clear a3 hq hel hcl hp hD;obtain⟨j0,hj0,hjz⟩:=Option.map_eq_some_iff.1 info_i;simp only[Prod.mk.injEq] at hjz;obtain⟨hjz0,hjz1,hjz2⟩:=hjz;go_enter Tryz.func181,Tryz.ntmps181;go_wp2;obtain⟨w1,hw1⟩:∃ w1,w1=w.alloc (.cells #[.string nm,.bool dir,.slice na q nac,.slice ea el eac,.slice ca cl cac] 26):=⟨_,rfl⟩
 have X1:Hid (Ext (w.alloc (.cells #[.string nm,.bool dir,.slice na q nac,.slice ea el eac,.slice ca cl cac] 26)) w1):=hid (by rw[hw1];exact Ext.refl _);have XW:Hid (Ext w w1):=hid (((Ext.refl _).alloc _).trans X1.out);rw[<-hw1];clear hw1
 go_loopw [1,5] (fun c' l' wr=>∃ (c:Int) (n f:Nat) (zs:List Int) (lv:Value),c'=.int .i64 c/\lv=l' /\ -1<=c/\c < cl/\c < f/\n+f<=cl+1/\Hid (n=zs.length)/\Hid (zs++chnT CC f c=D)/\Hid (wr.ownsRow w1.heap.size 3 1 lv n (intsC zs))/\Ext w1 wr) (fun c' _ _=>(RowKit.intOf c'+1).toNat)
 case atStart=>exact⟨i,0,cl+1,[],_,rfl,rfl,by omega,by omega,by omega,by omega,hid rfl,hD0,hid (World.ownsRow_nil _ _ _ _),Ext.refl _⟩
 clear hD0;obtain⟨c,n,f,zs,lv,rfl,rfl,hc1,hc2,hcf,hnf,hz,hd,hown,hx⟩:=hrel;have e0:=box1 (X1.out.trans hx) 4 _ rfl;by_cases hlt:0<=c
 ·obtain⟨k,rfl⟩:∃ k:Nat,c=(k:Int):=⟨c.toNat,by omega⟩;have hkC:k < CC.length:=by rw[<-HCL.out];omega
  obtain⟨f',rfl⟩:∃ f',f=f'+1:=⟨f - 1,by omega⟩;have hd1:=hd.out;rw[chn_step CC f' hkC] at hd1;obtain⟨g1,o1,rfl,x0,x1⟩:=(A3.out.ext (XW.out.trans hx)) k hkC;obtain⟨h1,h2⟩:=HP.out k hkC;obtain⟨p,hpe⟩:∃ p,p=CC[k].2:=⟨_,rfl⟩;rw[<-hpe] at x1 h1 h2 hd1;have HD1:Hid ((zs++[(k:Int)])++chnT CC f' p=D):=hid (by rw[List.append_assoc];exact hd1);have HZ1:Hid (n+1=(zs++[(k:Int)]).length):=hid (by rw[List.length_append,<- hz.out];rfl);have b0:(0:Int)<=(k:Int):=by omega
  have b1:(k:Int) < (cl:Int):=by omega
  have hbw:=hx.size;have HPE:=hid hpe;clear hd hd1 hpe x0 hz;go_wp2_with (at_builtin;refine wpList_append_lies _ rfl _ _ 48 rfl w1.heap.size 3 j0 _ 1 8 Tryz.underlying48 hj0 hjz0 hjz1 hjz2 rfl (by decide) _ _ _ rfl (hown.out.alloc _) ⟨wr.heap.size,0,none⟩ 1 1 [.int .i64 (k:Int)] rfl rfl ?c1 ?c2 (by decide) ?c3 ?c4 ?c5 _ rfl ?_)
  case c1=>exact news1 _ _
  case c2=>simp[Value.oneCell']
  case c3=>unfold maxLen;omega
  case c4=>omega
  case c5=>simp;omega
  intro gg cc w3 hown3 hgrow3 _ _;have hx3:Ext w1 w3:=Below.grown (hx.alloc _) hgrow3 (by simp;omega) (fun q hq=>by have:=(hown.out.lt q hq).1;omega);have HO3:=hid hown3;rw[<-intsC_snoc] at HO3;have e0':=box1 (X1.out.trans hx3) 4 _ rfl;obtain⟨g2,o2,ha2,-,x1''⟩:=(A3.out.ext (XW.out.trans hx3)) k hkC;cases ha2;rw[show CC[k].2=p from ?cp] at x1''
  case cp=>exact HPE.out.symm
  clear hown3 hgrow3 hown e0 x1 hx;go_wp2
  go_roundw
  case rel=>exact⟨p,n+1,f',_,_,rfl,rfl,by omega,by omega,by omega,by omega,HZ1,HD1,HO3,hx3⟩
  case measure=>simp[RowKit.intOf];omega
 have hd1:=hd.out;rw[chn_end CC f (by omega),List.append_nil] at hd1;have HO:Hid (wr.ownsRow w1.heap.size 3 1 lv D.length (intsC D)):=hid (by have h:=hown.out;rw[hz.out] at h;rw[<-hd1];exact h);clear hd hd1 hown hz;have d0:decide (0<=c)=false:=decide_eq_false hlt;have hsz:=XW.out.size;go_wp2;go_ret;exact⟨⟨_,rfl,own_base HO.out hsz⟩,XW.out.trans hx⟩
def memI (g:Gr)(c:Int)(i:Nat):List Int:=((List.range i).filter fun v=>hasC g.C c ((g.N[v]?.map Nd.c).getD (-1))).map fun(v:Nat)=>(v:Int)
theorem memI_all (g:Gr)(c:Int):memI g c g.N.length=(memT g c).map fun(v:Nat)=>(v:Int):=rfl
theorem memI_succ (g:Gr)(c:Int)(i:Nat)(h:i < g.N.length):memI g c (i+1)=memI g c i++(if hasC g.C c g.N[i].c=true then [(i:Int)] else []):=by
 unfold memI;rw[List.range_succ,List.filter_append,List.map_append]
 congr 1
 rw[List.filter_cons,List.getElem?_eq_getElem h];show List.map _ (if hasC g.C c g.N[i].c=true then [i] else [])=_;split <;> rfl
theorem memI_len (g:Gr)(c:Int)(i:Nat):(memI g c i).length<=i:=by
 unfold memI;rw[List.length_map];exact Nat.le_trans (List.length_filter_le _ _) (Nat.le_of_eq List.length_range)
theorem cells5b {w w':World}{c0 c1 c2 c3 c4:Value}{T:TypeId}(x:Ext (w.alloc (.cells #[c0,c1,c2,c3,c4] T)) w'):w'.cell? ⟨w.heap.size,0,none⟩=some c0/\w'.cell? ⟨w.heap.size,1,none⟩=some c1/\w'.cell? ⟨w.heap.size,2,none⟩=some c2/\w'.cell? ⟨w.heap.size,3,none⟩=some c3/\w'.cell? ⟨w.heap.size,4,none⟩=some c4 :=
 cells5g (At.heap_ext (heap_alloc_new w _) x)
theorem members_any (g:Gr)(va:Value)(k:Nat)(w:World)(ha:GrIn w va g)(hcp:GrCp w va g)(hsm:GrSm g)(hg0:grE g=0)(hk:k < g.C.length):
    Calls Tryz.prog 131 #[va,.int .i64 (k:Int)] w fun e w'=>(∃ v,e=.returned v/\w'.ownsRow w.heap.size 3 1 v (memT g k).length (intsC (memI g k g.N.length)))/\Ext w w':=by
  have hok:=gr_ok hg0;have hvl:=fun(w5:World) (x:Ext w w5)=>validG_any g va w5 (ha.ext x) (hcp.ext ha x) hsm
  rw[hg0] at hvl;have hcl:=hok.cl;have hpar:∀ i (h:i < g.C.length),g.C[i].2 < i /\ -1<=g.C[i].2:=fun i h=>by have:=cl_ok (hok.cs i h);exact⟨this.2.2.2.2.1,this.2.2.2.1⟩
  have hch:=fun(i:Nat) (x:Nd) (hx:g.N[i]? = some x) (w5:World) (y:Ext w w5)=>chain_any g va x.c w5 (ha.ext y) (by obtain⟨h,rfl⟩:=List.getElem?_eq_some_iff.1 hx;have:=nd_ok (hok.nd i h);exact this.2.2.2.2.2.2.2.1) (by obtain⟨h,rfl⟩:=List.getElem?_eq_some_iff.1 hx;have:=nd_ok (hok.nd i h);exact this.2.2.2.2.2.2.2.2.1) (by omega) hpar
  have hnl:=hok.nl;obtain⟨T,hT⟩:∃ T,T=memI g k g.N.length:=⟨_,rfl⟩;have htl:(memT g k).length=T.length:=by rw[hT,memI_all,List.length_map]
  rw[<-hT,htl];obtain⟨na,nac,ea,eac,ca,cac,rfl,a1,-,-⟩:=ha;have hstep:=fun i h=>memI_succ g k i h
  have hlen:=fun i=>memI_len g k i
  obtain⟨M,hM⟩:∃ M,M=memI g k:=⟨_,rfl⟩;rw[<-hM] at hT hstep hlen;have hM0:M 0=[]:=by rw[hM];rfl
  obtain⟨q,hq⟩:∃ n,n=g.N.length:=⟨_,rfl⟩;obtain⟨el,hel⟩:∃ n,n=g.E.length:=⟨_,rfl⟩;obtain⟨cl,hcle⟩:∃ n,n=g.C.length:=⟨_,rfl⟩;rw[<-hq] at hT hnl;simp only[<-hq,<- hel,<- hcle] at hvl hch;rw[<-hq,<- hel,<- hcle];rw[<-hcle] at hk hcl;have HCLE:=hid hcle.symm;have A1:=hid a1;have HVL:=hid hvl;have HCH:=hid hch;have HST:=hid hstep;have HLN:=hid hlen;have HT:=hid hT;have HQ:=hid hq;have HM0:=hid hM0;have f0:decide ((k:Int) < -1)=false:=decide_eq_false (by omega);have f1:decide ((cl:Int)<=(k:Int))=false:=decide_eq_false (by omega);have f1':decide (cl<=k)=false:=decide_eq_false (by omega);have f2:decide ((k:Int) < 0)=false:=decide_eq_false (by omega);obtain⟨e1,e2⟩:=efacts 0;obtain⟨j0,hj0,hjz⟩:=Option.map_eq_some_iff.1 info_i;simp only[Prod.mk.injEq] at hjz
  obtain⟨hjz0,hjz1,hjz2⟩:=hjz;clear a1 hvl hch hstep hlen hT hq hel hcle hM0 hpar htl hM hok hcp hsm;go_enter Tryz.func131,Tryz.ntmps131;go_wp2_with (go_at_call 25;refine Calls.mono (by with_reducible exact HVL.out _ ((Ext.refl _).alloc _)) ?_;rintro e w1 ⟨rfl,x1⟩;obtain⟨b0,b1,b2,b3,b4⟩:=cells5b x1;have X1:=hid x1;have XW:=hid (((Ext.refl w).alloc (.cells #[.string g.name,.bool g.dir,.slice na q nac,.slice ea el eac,.slice ca cl cac] 26)).trans x1);clear x1);have hsz:=XW.out.size
  go_loopw [5,25] (fun o' i' wr=>∃ (i n:Nat) (ov:Value),ov=o'/\i<=q/\n<=i/\i'=.int .i64 i/\Hid (n=(M i).length)/\Hid (wr.ownsRow w1.heap.size 3 1 ov n (intsC (M i)))/\Hid (Ext w1 wr)) (fun _ i' _=>q - (RowKit.intOf i').toNat)
  case atStart=>exact⟨0,0,_,rfl,Nat.zero_le _,Nat.le_refl _,rfl,hid (by rw[HM0.out];rfl),hid (by rw[HM0.out];exact World.ownsRow_nil _ _ _ _),hid (Ext.refl _)⟩
  obtain⟨i,n,ov,rfl,hi,hni,rfl,hn,hown,hx⟩:=hrel;clear b0 b1 b2 b3 b4;obtain⟨b0,b1,b2,b3,b4⟩:=cells5b (X1.out.trans hx.out);by_cases hlt:i < q
  · have hin:i < g.N.length:=by rw[<-HQ.out];exact hlt
    obtain⟨g1,o1,p1,pc1,rfl,n0,n1,n2,n3,n4,n5,-⟩:=(A1.out.ext (XW.out.trans hx.out)) i hin;have hcx:=HCH.out i g.N[i] (List.getElem?_eq_getElem hin);have hst:=HST.out i hin;obtain⟨x,hxe⟩:∃ x,x=g.N[i]:=⟨_,rfl⟩;rw[<-hxe] at n0 n1 n2 n3 n4 n5 hcx hst;obtain⟨nm,lb,W,H,c,L⟩:=x;dsimp only at n0 n1 n2 n3 n4 n5 hcx hst;obtain⟨PL,hPL⟩:∃ n,n=L.length:=⟨_,rfl⟩;rw[<-hPL] at n5;obtain⟨Z,hZ⟩:∃ Z,Z=chnT g.C (cl+1) c:=⟨_,rfl⟩
    have hzl:Z.length<=1000000000:=by
      rw[hZ]
      have key:∀ (f:Nat) (c:Int),(chnT g.C f c).length<=f:=by
        intro f
        induction f with
        | zero=>intro c;simp[chnT]
        | succ f ih => intro c; rw [chnT]; split; · simp
                       · rw[List.length_cons];have:=ih (((g.C[c.toNat]?.map Prod.snd).getD (-1)));omega
      have:=key (cl+1) c;omega
    have hB:hasC g.C k c=Z.contains (k:Int):=by unfold hasC;rw[HCLE.out];rw[hZ]
    obtain⟨b,hbe⟩:∃ b,b=Z.contains (k:Int):=⟨_,rfl⟩;rw[hB,<- hbe] at hst;rw[<-hZ] at hcx;have HCX:=hid hcx;have HS1:=hid hst;have HZL:=hid hzl;have HB:=hid hbe;have c0:(0:Int)<=(i:Int):=by omega
    have c1:(i:Int) < (q:Int):=by omega
    have d0:=fun ob=>((Ext.refl wr).alloc ob).cell b0;have d1:=fun ob=>((Ext.refl wr).alloc ob).cell b1;have d2:=fun ob=>((Ext.refl wr).alloc ob).cell b2;have d3:=fun ob=>((Ext.refl wr).alloc ob).cell b3;have d4:=fun ob=>((Ext.refl wr).alloc ob).cell b4
    clear hcx hst hxe hPL hZ hzl hB hbe b0 b1 b2 b3 b4 hin;cases b with
    | true =>
      have hs2:Hid (M (i+1)=M i++[(i:Int)]):=hid (by rw[HS1.out,if_pos rfl]);have hml:=HLN.out i
      go_wp2_with (first
        | (go_at_call 181;refine Calls.mono (by with_reducible exact HCX.out _ (XW.out.trans (hx.out.alloc _))) ?_;rintro e w3 ⟨⟨v3,rfl,hv3⟩,x3⟩;have HV3:=hid hv3;have X3:=hid ((Ext.refl wr).alloc _ |>.trans x3);clear hv3 x3)
        | (go_at_call 132;refine Calls.mono (by with_reducible exact has_any Z _ _ _ _ _ HV3.out HZL.out) ?_;rintro e w4 ⟨rfl,rfl⟩;rw[<-HB.out])
        | (at_builtin;refine wpList_append_lies _ rfl _ _ 48 rfl w1.heap.size 3 j0 _ 1 8 Tryz.underlying48 hj0 hjz0 hjz1 hjz2 rfl (by decide) _ _ _ rfl (At.own_ext hown.out (X3.out.alloc _)) ⟨w4.heap.size,0,none⟩ 1 1 [.int .i64 (i:Int)] rfl rfl ?c1 ?c2 (by decide) ?c3 ?c4 ?c5 _ rfl ?_))
      case c1=>exact news1 _ _
      case c2=>simp[Value.oneCell']
      case c3=>unfold maxLen;omega
      case c4=>omega
      case c5=>have:=hx.out.size;have:=X3.out.size;simp;omega
      intro gg cc w5 hown5 hgrow5 _ _;have X5:=hid (show Ext w1 w5 from Below.grown ((hx.out.trans X3.out).alloc _) hgrow5 (by have:=hx.out.size;have:=X3.out.size;simp;omega) (fun q hq=>by have:=(hown.out.lt q hq).1;omega));rw[<-intsC_snoc,<- hs2.out] at hown5;have HO5:=hid hown5;clear hown5 hgrow5;go_wp2
      go_roundw
      case rel=>exact⟨i+1,n+1,_,rfl,by omega,by omega,by go_num,hid (by rw[hs2.out,List.length_append,<- hn.out];rfl),HO5,X5⟩
      case measure=>simp[RowKit.intOf];omega
    | false =>
      have hs2:Hid (M (i+1)=M i):=hid (by rw[HS1.out,if_neg (by decide),List.append_nil])
      go_wp2_with (first
        | (go_at_call 181;refine Calls.mono (by with_reducible exact HCX.out _ (XW.out.trans (hx.out.alloc _))) ?_;rintro e w3 ⟨⟨v3,rfl,hv3⟩,x3⟩;have HV3:=hid hv3;have X3:=hid ((Ext.refl wr).alloc _ |>.trans x3);clear hv3 x3)
        | (go_at_call 132;refine Calls.mono (by with_reducible exact has_any Z _ _ _ _ _ HV3.out HZL.out) ?_;rintro e w4 ⟨rfl,rfl⟩;rw[<-HB.out]))
      go_roundw
      case rel=>exact⟨i+1,n,ov,rfl,by omega,by omega,by go_num,hid (by rw[hs2.out];exact hn.out),hid (by rw[hs2.out];exact At.own_ext hown.out X3.out),hid (hx.out.trans X3.out)⟩
      case measure=>simp[RowKit.intOf];omega
  have hiq:i=q:=by omega
  have hr:Hid (M i=T):=hid (by rw[hiq];exact HT.out.symm);have c1:¬ (i:Int) < (q:Int):=by omega
  clear hiq;go_wp2;go_ret;exact⟨⟨_,rfl,by have h:=hown.out;rw[hr.out,hn.out,hr.out] at h;exact own_base h hsz⟩,XW.out.trans hx.out⟩
end Go.Proofs.YtjaeedbjknejdaaGreatDoor.Ex
