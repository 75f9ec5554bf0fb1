/- Packed texts: NorOptP, NorVop, ExpOpt0, ExpTre0, ExpApp, ExpDcl -/
import Derived.Test.YtjaeedbjknejdaaGreatDoorPd21
import Derived.Test.YtjaeedbjknejdaaGreatDoorPd26
import Derived.Laws.StructEq
import Derived.Deep.DeepCutAuto
set_option linter.unusedVariables false
set_option linter.unusedSimpArgs false
set_option maxHeartbeats 16000000
set_option maxRecDepth 100000
namespace Go.Proofs.YtjaeedbjknejdaaGreatDoor.Nm
open Go.RowKit Go.Sort Go.Lib Go.Shelf Fx Lx Tr At
def opV (o:Op5):Value:=.agg #[.int .i64 o.mode,.int .i64 o.ns,.int .i64 o.rs,.int .i64 o.mg,.int .i64 o.rd]
end Go.Proofs.YtjaeedbjknejdaaGreatDoor.Nm

namespace Go.Proofs.YtjaeedbjknejdaaGreatDoor.Nm
open Go.RowKit Go.Sort Go.Lib Go.Shelf Fx Lx Tr At
def inR (x hi:Int):Bool:=decide (0<=x/\x<=hi)
def okOb (o:Op5):Bool:=inR o.mode 4 && inR o.ns 1048576 && inR o.rs 1048576 && inR o.mg 1048576 && inR o.rd 100
theorem clamp_eq (x hi:Int)(hh:0<=hi):(x == min (max x 0) hi)=inR x hi:=by
 unfold inR;by_cases h:0<=x/\x<=hi
 ·rw[decide_eq_true h,beq_iff_eq];omega
 rw[decide_eq_false h,beq_eq_false_iff_ne];omega
theorem vopP_any (o:Op5)(w:World):Calls Tryz.prog 26 #[opV o] w fun e w'=>e=.returned (.bool (okOb o))/\Ext w w':=by
 obtain⟨m,a,b,c,d⟩:=o;have h1:=clamp_eq m 4 (by decide);have h2:=clamp_eq a 1048576 (by decide);have h3:=clamp_eq b 1048576 (by decide);have h4:=clamp_eq c 1048576 (by decide);have h5:=clamp_eq d 100 (by decide);unfold okOb opV;dsimp only;generalize inR m 4=r1 at h1 ⊢;generalize inR a 1048576=r2 at h2 ⊢;generalize inR b 1048576=r3 at h3 ⊢;generalize inR c 1048576=r4 at h4 ⊢;generalize inR d 100=r5 at h5 ⊢;go_enter Tryz.func26,Tryz.ntmps26;go_wp2
 all_goals (
  go_returns;refine⟨?_,((Ext.refl _).alloc _).alloc _⟩;clear h1 h2 h3 h4 h5
  cases r1 <;> cases r2 <;> cases r3 <;> cases r4 <;> cases r5 <;> first | rfl | (exfalso;simp_all;done))
end Go.Proofs.YtjaeedbjknejdaaGreatDoor.Nm

namespace Go.Proofs.YtjaeedbjknejdaaGreatDoor.Ex
open Go.RowKit Go.Sort Go.Lib Go.Shelf Fx Lx Tr At Pa Go.Proofs.YtjaeedbjknejdaaGreatDoor.Nm
theorem inR5_ok {o:Op5}(h:inR5 o=true):0<=o.mode/\o.mode<=4/\0<=o.ns/\o.ns<=1048576/\0<=o.rs/\o.rs<=1048576/\0<=o.mg/\o.mg<=1048576/\0<=o.rd/\o.rd<=100:=by
 unfold inR5 at h;simp only[Bool.and_eq_true,decide_eq_true_eq] at h;omega
end Go.Proofs.YtjaeedbjknejdaaGreatDoor.Ex

namespace Go.Proofs.YtjaeedbjknejdaaGreatDoor.Ex
open Go.RowKit Go.Sort Go.Lib Go.Shelf Fx Lx Tr At Pa Go.Proofs.YtjaeedbjknejdaaGreatDoor.Nm
theorem ok5 (o:Op5):okOb o=inR5 o:=by
 unfold okOb inR5 inR;rw[Bool.eq_iff_iff];simp only[Bool.and_eq_true,decide_eq_true_eq];omega
theorem stmsV_at {m:Nat}{w:World}{b:Option Addr}{L:List Stm}(h:StmsP (m <= ·) w b L):StmsAt w.heap.size w b L :=
 StmsP.at (ok:=fun g=>g < w.heap.size) (fun _ h=>h) L b (StmsP.keep (fun _ _ _=>rfl) (fun _ _ h=>h) L b h)
theorem cnt_block (g:Gr):∀ (f:Nat) (p:Int) (n k:Nat),n<=g.N.length->k<=g.C.length->cntL (blockT g f p n k).1+msr g (blockT g f p n k).2.1 (blockT g f p n k).2.2<=msr g n k
 | 0,_,n,k,_,_=>by rw[blockT];dsimp only;rw[cntL_nil];omega
 | f+1,p,n,k,h1,h2=>by
  rw[blockT];split
  ·rename_i hr;have hk:=ready_lt hr;have a:=block_le g f k n (k+1) h1 hk;have a2:=cnt_block g f k n (k+1) h1 hk;have b:=cnt_block g f p _ _ a.1 a.2;have d:msr g n (k+1)+1=msr g n k:=by unfold msr;omega
   dsimp only;rw[cntL_cons,cntS_body];have e:∀ (nm:ByteArray) (B:List Stm),(Stm.mk 5 nm [] [] B).body=B:=fun _ _=>rfl
   rw[e];omega
  ·split
   ·dsimp only;rw[cntL_nil];omega
   rename_i x hx;have hn:=(List.getElem?_eq_some_iff.1 hx).1;split
   ·have c:=cnt_block g f p (n+1) k hn h2;have d:msr g (n+1) k+1=msr g n k:=by unfold msr;omega
    dsimp only;rw[cntL_cons,cntS_body,show(nodeS x).body=[] from rfl,cntL_nil];omega
   dsimp only;rw[cntL_nil];omega
theorem cnt_app : ∀ (L M:List Stm),cntL (L++M)=cntL L+cntL M
 | [],M=>by rw[List.nil_append,cntL_nil,Nat.zero_add]
 | x::L,M=>by rw[List.cons_append,cntL_cons,cntL_cons,cnt_app L M,Nat.add_assoc]
theorem cnt_map {α : Type}(f : α -> Stm)(hf:∀ x,cntS (f x)=1):∀ L:List α,cntL (L.map f)=L.length
 | []=>cntL_nil
 | x::L=>by rw[List.map_cons,cntL_cons,hf,cnt_map f hf L,List.length_cons,Nat.add_comm]
theorem cnt_opts (o:Op5):cntL (optsL o)<=5:=by
 have h:∀ (c:Prop) [Decidable c] (k v:ByteArray),cntL (if c then [] else [setS k v])<=1:=fun c _ k v=>by
  split
  ·rw[cntL_nil];omega
  rw[cntL_cons,cntL_nil,cntS_body];show cntL []+1+0<=1;rw[cntL_nil];omega
 unfold optsL;rw[cnt_app,cnt_app,cnt_app,cnt_app];have a:=h (o.mode=0) kMode (modeT o.mode);have b:=h (o.ns=10000) kNs (fmtB o.ns);have c:=h (o.rs=20000) kRs (fmtB o.rs);have d:=h (o.mg=5000) kMg (fmtB o.mg);have e:=h (o.rd=8) kRd (fmtB (1000 * o.rd));omega
theorem cnt_body {g:Gr}(hok:GrOk g)(o:Op5):cntL (bodyT g o)<=341:=by
 unfold bodyT;rw[cnt_app,cnt_app,cnt_map _ (fun x=>by rw[cntS_body];show cntL []+1=1;rw[cntL_nil])];have a:=cnt_opts o;have b:=cnt_block g (msr g 0 0+1) (-1) 0 0 (Nat.zero_le _) (Nat.zero_le _);have c:=hok.nl;have d:=hok.cl;have e:=hok.el;have f:msr g 0 0<=80:=by unfold msr;omega
 show _+cntL (blockT g (msr g 0 0+1) (-1) 0 0).1+_<=_;omega
theorem opts_blk {g:Gr}(hok:GrOk g)(o:Op5):(optsL o).length+(blkT g (-1) 0 0).1.length<=100:=by
 have h:∀ (c:Prop) [Decidable c] (k v:ByteArray),(if c then [] else [setS k v]).length<=1:=fun c _ k v=>by split <;> simp
 have a:=h (o.mode=0) kMode (modeT o.mode);have b:=h (o.ns=10000) kNs (fmtB o.ns);have c:=h (o.rs=20000) kRs (fmtB o.rs);have d:=h (o.mg=5000) kMg (fmtB o.mg);have e:=h (o.rd=8) kRd (fmtB (1000 * o.rd));have f:=blk_len (g:=g) (p := -1) (Nat.zero_le _) (Nat.zero_le _);have g1:=hok.nl;have g2:=hok.cl;have g3:msr g 0 0<=80:=by unfold msr;omega
 unfold optsL;simp only[List.length_append];omega
theorem fmt_len30 (n:Int)(h0 : -9223372036854775808<=n)(h1:n<=9223372036854775807):(fmt n).length<=30:=by
 obtain⟨u,q,r,A,D,_,_,_,_,_,_,_,_,hD,hA,hDl,hf⟩:=fmt_parts n h0 h1;have ht:=(trim_props (D.drop 1)).2.2;rw[hf];simp only[List.length_append,List.length_drop] at ht ⊢;have e1:(if n < 0 then [45] else ([]:List UInt8)).length<=1:=by split <;> simp
 have e2:(if 0 < r then 46::trimRightB (D.drop 1) 48 else []).length<=4:=by
  split
  ·simp only[List.length_cons];omega
  simp
 omega
theorem fmtB_size (n:Int)(h0:0<=n)(h1:n<=1048576000):(fmtB n).size<=30:=fmt_len30 n (by omega) (by omega)
theorem name16c {n:ByteArray}(h:nameB n.data.toList=true):n.size<=16:=by
 unfold nameB at h;simp only[Bool.and_eq_true,decide_eq_true_eq] at h;rw[size_len];exact h.1.1.2
theorem ports_size {L:List Prt}(hl:L.length<=8)(h:∀ q ∈ L,q.1.size<=1000):(portsTx L).size<=10000:=by
 have:=join_le (L.map portTx) [44,32] 1010 (fun x hx=>by
  obtain⟨q,hq,rfl⟩:=List.mem_map.1 hx;have h1:=h q hq;have h2:=side_le q.2;unfold portTx;rw[List.length_append,List.length_append,<- size_len,<- size_len];show _+1+_<=_
  omega)
 rw[List.length_map] at this;show(Lib.join (L.map portTx) [44,32]).length<=_;have h3:L.length * (1010+[44,32].length)<=8 * 1012:=Nat.mul_le_mul hl (by decide);omega
def SmT (q:Two):Prop:=q.1.size<=10000/\q.2.size<=10000
theorem if_mem {c:Prop}[Decidable c]{y q:Two}(h:SmT y)(hq:q ∈ (if c then [] else [y])):SmT q:=by
 split at hq
 ·cases hq
 rw[List.mem_singleton.1 hq];exact h
theorem node_sm {x:Nd}{nc:Nat}{D:List Nd}(h:ndE nc D x=0):∀ q ∈ nodeA x,SmT q:=by
 obtain⟨-,-,hl,h1,h2,h3,h4,-,-,h5⟩:=nd_ok h;obtain⟨p1,p2⟩:=prt_ok h5
 have hps:=ports_size p1 (fun q hq=>by
  obtain⟨k,hk,rfl⟩:=List.getElem_of_mem hq
  exact Nat.le_trans (name16c (p2 k hk).1) (by decide))
 have hls:=(lab_size hl).1;have a:=fmtB_size x.h (by omega) (by omega);have b:=fmtB_size x.w (by omega) (by omega);intro q hq;unfold nodeA at hq;rcases List.mem_append.1 hq with hq | hq
 ·rcases List.mem_append.1 hq with hq | hq
  ·rcases List.mem_append.1 hq with hq | hq
   ·exact if_mem ⟨show kHeight.size<=10000 by decide,by dsimp only;omega⟩ hq
   exact if_mem ⟨show kLabel.size<=10000 by decide,by dsimp only;omega⟩ hq
  exact if_mem ⟨show kPorts.size<=10000 by decide,hps⟩ hq
 exact if_mem ⟨show kWidth.size<=10000 by decide,by dsimp only;omega⟩ hq
theorem edge_sm {N:List Nd}{x:Ed}(h:edE N x=0):∀ q ∈ edgeA x,SmT q:=by
 obtain⟨-,-,-,-,-,-,-,-,hl,t0,t1,l0,l1⟩:=ed_ok h;have hls:=(lab_size hl).1;have a:=fmtB_size (1000 * x.len) (by omega) (by omega);have b:=fmtB_size (1000 * x.wt) (by omega) (by omega);intro q hq;unfold edgeA at hq;rcases List.mem_append.1 hq with hq | hq
 ·rcases List.mem_append.1 hq with hq | hq
  ·exact if_mem ⟨show kLabel.size<=10000 by decide,by dsimp only;omega⟩ hq
  exact if_mem ⟨show kLen.size<=10000 by decide,by dsimp only;omega⟩ hq
 exact if_mem ⟨show kWeight.size<=10000 by decide,by dsimp only;omega⟩ hq
theorem end_sm {g:Gr}(hok:GrOk g)(v p:Int):SmT (endT g.N v p):=by
 unfold endT;cases h:g.N[v.toNat]? with
 | none=>exact⟨show(ByteArray.mk #[]).size<=10000 by decide,show(ByteArray.mk #[]).size<=10000 by decide⟩
 | some x =>
  obtain⟨hi,rfl⟩:=List.getElem?_eq_some_iff.1 h;have hnd:=nd_ok (hok.nd _ hi);refine⟨Nat.le_trans (name16c hnd.1) (by decide),?_⟩;dsimp only;split
  ·decide
  ·cases h2:g.N[v.toNat].ports[p.toNat]? with
   | none=>decide
   | some y =>
    obtain⟨hj,rfl⟩:=List.getElem?_eq_some_iff.1 h2;exact Nat.le_trans (name16c ((prt_ok hnd.2.2.2.2.2.2.2.2.2).2 _ hj).1) (by decide)
def SmS (x:Stm):Prop:=x.name.size<=10000/\(∀ q ∈ x.attrs,SmT q)/\∀ q ∈ x.refs,SmT q
theorem SmS.big {x:Stm}(h:SmS x):BigS x :=
 ⟨Nat.le_trans h.1 (by decide),fun q hq=>⟨Nat.le_trans (h.2.1 q hq).1 (by decide),Nat.le_trans (h.2.1 q hq).2 (by decide)⟩,fun q hq=>⟨Nat.le_trans (h.2.2 q hq).1 (by decide),Nat.le_trans (h.2.2 q hq).2 (by decide)⟩⟩
theorem block_sm {g:Gr}(hok:GrOk g):∀ (f:Nat) (p:Int) (n k lev:Nat),∀ q ∈ flatL lev (blockT g f p n k).1,SmS q.1
 | 0,_,n,k,lev,q,hq=>by rw[blockT] at hq;dsimp only at hq;rw[flatL_nil] at hq;cases hq
 | f+1,p,n,k,lev,q,hq=>by
  rw[blockT] at hq;split at hq
  ·rename_i hr;have hk:=ready_lt hr;dsimp only at hq;rw[flatL_cons,flatS_mk] at hq;rcases List.mem_append.1 hq with hq | hq
   ·rcases List.mem_cons.1 hq with rfl | hq
    ·refine⟨?_,fun q hq=>(by cases hq),fun q hq=>(by cases hq)⟩;show((Option.map Prod.fst g.C[k]?).getD ⟨#[]⟩).size<=10000;rw[List.getElem?_eq_getElem hk];exact Nat.le_trans (name16c (cl_ok (hok.cs k hk)).1) (by decide)
    exact block_sm hok f _ _ _ _ q hq
   exact block_sm hok f _ _ _ _ q hq
  ·split at hq
   ·dsimp only at hq;rw[flatL_nil] at hq;cases hq
   rename_i x hx;obtain⟨hn,rfl⟩:=List.getElem?_eq_some_iff.1 hx;split at hq
   ·dsimp only at hq;unfold nodeS at hq;rw[flatL_cons,flatS_mk,flatL_nil] at hq;rcases List.mem_append.1 hq with hq | hq
    ·rcases List.mem_cons.1 hq with rfl | hq
     ·exact⟨Nat.le_trans (name16c (nd_ok (hok.nd n hn)).1) (by decide),node_sm (hok.nd n hn),fun q hq=>by cases hq⟩
     cases hq
    exact block_sm hok f _ _ _ _ q hq
   dsimp only at hq;rw[flatL_nil] at hq;cases hq
theorem flat_app (lev:Nat):∀ (L M:List Stm),flatL lev (L++M)=flatL lev L++flatL lev M
 | [],M=>by rw[List.nil_append,flatL_nil,List.nil_append]
 | x::L,M=>by rw[List.cons_append,flatL_cons,flatL_cons,flat_app lev L M,List.append_assoc]
theorem opts_sm {o:Op5}(h:inR5 o=true):∀ q ∈ flatL 0 (optsL o),SmS q.1:=by
 obtain⟨m0,m1,a0,a1,b0,b1,c0,c1,d0,d1⟩:=inR5_ok h
 have key:∀ (c:Prop) [Decidable c] (k v:ByteArray),k.size<=10000->v.size<=10000->∀ q ∈ flatL 0 (if c then [] else [setS k v]),SmS q.1:=fun c _ k v hk hv q hq=>by
  split at hq
  ·rw[flatL_nil] at hq;cases hq
  unfold setS at hq;rw[flatL_cons,flatS_mk,flatL_nil,flatL_nil] at hq;rcases List.mem_cons.1 hq with rfl | hq
  ·refine⟨hk,fun q hq=>?_,fun q hq=>(by cases hq)⟩;rw[List.mem_singleton.1 hq];exact⟨show(ByteArray.mk #[]).size<=10000 by decide,hv⟩
  cases hq
 intro q hq;unfold optsL at hq;simp only[flat_app,List.mem_append] at hq;have e1:=fmtB_size o.ns (by omega) (by omega);have e2:=fmtB_size o.rs (by omega) (by omega);have e3:=fmtB_size o.mg (by omega) (by omega);have e4:=fmtB_size (1000 * o.rd) (by omega) (by omega);rcases hq with(((hq | hq) | hq) | hq) | hq
 ·refine key _ _ _ (by decide) ?_ q hq;unfold modeT;split
  ·decide
  split
  ·decide
  split
  ·decide
  split <;> decide
 ·exact key _ _ _ (by decide) (by omega) q hq
 ·exact key _ _ _ (by decide) (by omega) q hq
 ·exact key _ _ _ (by decide) (by omega) q hq
 exact key _ _ _ (by decide) (by omega) q hq
theorem edges_sm {g:Gr}(hok:GrOk g):∀ (E:List Ed),(∀ x ∈ E,edE g.N x=0)->∀ q ∈ flatL 0 (E.map (edgeS g.N)),SmS q.1
 | [],_,q,hq=>by rw[List.map_nil,flatL_nil] at hq;cases hq
 | x::E,h,q,hq=>by
  rw[List.map_cons,flatL_cons] at hq;unfold edgeS at hq;rw[flatS_mk,flatL_nil] at hq;rcases List.mem_append.1 hq with hq | hq
  ·rcases List.mem_cons.1 hq with rfl | hq
   ·refine⟨by show(ByteArray.mk #[]).size<=10000;decide,edge_sm (h x (List.mem_cons_self ..)),fun q hq=>?_⟩;rcases List.mem_cons.1 hq with rfl | hq
    ·exact end_sm hok _ _
    rw[List.mem_singleton.1 hq];exact end_sm hok _ _
   cases hq
  ·exact edges_sm hok E (fun y hy=>h y (List.mem_cons_of_mem _ hy)) q hq
theorem body_big {g:Gr}(hok:GrOk g){o:Op5}(h:inR5 o=true):BigL (bodyT g o):=fun q hq=>by
 unfold bodyT at hq;rw[flat_app,flat_app] at hq;rcases List.mem_append.1 hq with hq | hq
 ·rcases List.mem_append.1 hq with hq | hq
  ·exact(opts_sm h q hq).big
  exact(block_sm hok _ _ _ _ _ q hq).big
 exact(edges_sm hok g.E hok.ed q hq).big
end Go.Proofs.YtjaeedbjknejdaaGreatDoor.Ex

namespace Go.Proofs.YtjaeedbjknejdaaGreatDoor.Ex
open Go Go.RowKit Go.Sort Go.Lib Go.Shelf Fx Lx Tr At Pa Go.Proofs.YtjaeedbjknejdaaGreatDoor.Nm
theorem stmsP_cells {ok:Nat->Prop}{w:World}{g:Nat}:∀ (L:List Stm) (o:Nat),StmsP ok w (some ⟨g,o,none⟩) L->∃ X:List Value,X.length=L.length * 5/\StmsC ok w L X/\(∀ j u,X[j]? = some u->w.cell? ⟨g,o+j,none⟩=some u)/\∀ u ∈ X,u.oneCell'=true
 | [],_,_=>⟨[],by simp,rfl,(by intro j u hj;simp at hj),(by intro u hu;simp at hu)⟩
 | s::L,o,h=>by
  rw[StmsP] at h;obtain⟨g',o',xs,hb,hg,hc,hs,hr⟩:=h;injection hb with hb;injection hb with e1 e2;subst e1;subst e2;obtain⟨X,hl,hcs,hcc,h1⟩:=stmsP_cells L (o+5) hr
  have hx:xs.length=5/\∀ u ∈ xs,u.oneCell'=true:=by
   obtain⟨r,rc,a,ac,b,bc,hx,-⟩:=(stmP_mk ok w s xs).1 hs;subst hx;exact⟨rfl,fun u hu=>by simp at hu;rcases hu with rfl | rfl | rfl | rfl | rfl <;> rfl⟩
  refine⟨xs++X,by rw[List.length_append,hx.1,hl,List.length_cons];omega,⟨xs,X,rfl,hx.1,hs,hcs⟩,fun j u hj=>?_,fun u hu=>?_⟩
  ·by_cases hj5:j < 5
   ·rw[List.getElem?_append_left (by omega)] at hj;exact hc j u hj
   rw[List.getElem?_append_right (by omega),hx.1] at hj;have:=hcc (j - 5) u hj;rw[show o+5+(j - 5)=o+j by omega] at this;exact this
  ·rcases List.mem_append.1 hu with hu | hu
   ·exact hx.2 u hu
   exact h1 u hu
section
variable {P:Program}
theorem run_append_no (w:World)(base:Nat)(t ty e:TypeId)(i:TypeInfo)(ht:P.underlying t=some (.slice e))(hi:P.info? e=some i)(size:Nat)(v:Value)(n:Nat)(xs:List Value)(hown:w.ownsRow base e size v n xs)(c:Nat):
  (Builtin.append_ #[t,t] ty #[v,.slice none 0 c]).run P w=.ok v w:=by
 rcases hown.2 with⟨rfl,rfl⟩ | ⟨g,cap,cur,rfl,hbg,hg,hnc,hcm,hcs,htake⟩
 ·simp[Builtin.append_,run_underlying ht,sizeOf,typeInfo,hi,Builtin.lenOf,Builtin.firstCells,loadCells,loadCellsFrom]
 simp[Builtin.append_,run_underlying ht,sizeOf,typeInfo,hi,Builtin.lenOf,Builtin.firstCells,loadCells,loadCellsFrom,hnc,storeCells]
end
theorem add_o (g o j:Nat):(⟨g,o,none⟩:Addr).add j=⟨g,o+j,none⟩:=by simp[Addr.add]
end Go.Proofs.YtjaeedbjknejdaaGreatDoor.Ex

namespace Go.Proofs.YtjaeedbjknejdaaGreatDoor.Ex
open Go.RowKit Go.Sort Go.Lib Go.Shelf Fx Lx Tr At Pa Go.Proofs.YtjaeedbjknejdaaGreatDoor.Nm
theorem info_s9 : (Tryz.prog.info? 9).map (fun i=>(i.zero,i.size,i.bytes))=some (some (.string ⟨#[]⟩),1,16):=by kernel_rfl
def nmC (L:List ByteArray):List Value:=L.map .string
theorem nmC_snoc (L:List ByteArray)(s:ByteArray):nmC (L++[s])=nmC L++[.string s]:=by unfold nmC;rw[List.map_append];rfl
structure NmD (B:Nat)(w:World)(O:List ByteArray)(v:Value)(wr:World):Prop where
 own:wr.ownsRow B 9 1 v O.length (nmC O)
 x:Below B w wr
 sz:B<=wr.heap.size
theorem NmD.ext {B:Nat}{w wr w':World}{O:List ByteArray}{v:Value}(h:NmD B w O v wr)(x:Ext wr w'):NmD B w O v w' :=
 ⟨At.own_ext h.own x,h.x.trans (x.mono h.sz),Nat.le_trans h.sz x.size⟩
theorem NmD.add {B:Nat}{w wr wA w7:World}{O:List ByteArray}{v:Value}{s:ByteArray}{g7 c7:Nat}(h:NmD B w O v wr)(x:Ext wr wA)(hg:wA.grownBy w7 v.ownBlock)
  (ho:w7.ownsRow B 9 1 (.slice (some ⟨g7,0,none⟩) (O.length+1) c7) (O.length+1) (nmC O++[.string s])):NmD B w (O++[s]) (.slice (some ⟨g7,0,none⟩) (O.length+1) c7) w7:=by
 have h2:=h.ext x;refine⟨?_,h2.x.trans (Below.grown (Below.refl B wA) hg h2.sz (fun k hk=>(h.own.lt k hk).1)),Nat.le_trans h2.sz hg.size⟩;rw[List.length_append,nmC_snoc];exact ho
def DclR (B:Nat)(w:World)(M:Nat)(e:Ending)(w':World):Prop:=∃ (v:Value) (b:Bool) (O:List ByteArray),e=.returned (.tuple #[v,.bool b])/\NmD B w O v w'/\O.length<=M
def DclC (B n:Nat)(w0:World)(K:Nat):Prop :=
 ∀ (L:List Stm) (b:Option Addr) (cap:Nat) (O:List ByteArray) (v:Value) (w:World),cntL L<=K->L.length<=1000->StmsAt n w0 b L->NmD B w0 O v w->O.length+cntL L<=1000 ->
  Calls Tryz.prog 17 #[.slice b L.length cap,v] w fun e w'=>DclR B w0 (O.length+cntL L) e w'
theorem cntL_take {L:List Stm}{i:Nat}(h:i < L.length):cntL (L.take (i+1))=cntL (L.take i)+cntS L[i]:=by
 rw[List.take_add_one,List.getElem?_eq_getElem h]
 have:∀ (A B:List Stm),cntL (A++B)=cntL A+cntL B:=by
  intro A B
  induction A with
  | nil=>rw[List.nil_append,cntL_nil,Nat.zero_add]
  | cons x A ih=>rw[List.cons_append,cntL_cons,cntL_cons,ih,Nat.add_assoc]
 rw[this];show _+cntL [L[i]]=_;rw[cntL_cons,cntL_nil,Nat.add_zero]
theorem cntL_le : ∀ (L:List Stm) (i:Nat),cntL (L.take i)<=cntL L
 | [],i=>by rw[List.take_nil];exact Nat.le_refl _
 | x::r,0=>by rw[List.take_zero,cntL_nil];exact Nat.zero_le _
 | x::r,i+1=>by rw[List.take_succ_cons,cntL_cons,cntL_cons];have:=cntL_le r i;omega
theorem str_at {B:Nat}{w wr:World}{O:List ByteArray}{v:Value}(h:NmD B w O v wr)(j:Nat)(hj:j < O.length):∃ g c,v=.slice (some ⟨g,0,none⟩) O.length c/\wr.cell? ⟨g,j,none⟩=some (.string O[j]):=by
 rcases h.own.2 with⟨h3,h4⟩ | ⟨g',cap,cur,hv,hbg,hg,h5,h6,hcs,htake⟩
 ·omega
 refine⟨g',cap,hv,?_⟩;have:=h.own.cells (g:=g') (by rw[hv];rfl) j (.string O[j]) (by unfold nmC;simp[hj]);rw[add0] at this;exact this
theorem dcl_step (B n:Nat)(w0:World)(hnB:n<=B)(hn:n<=w0.heap.size)(K:Nat)(ih:∀ k,k < K->DclC B n w0 k):DclC B n w0 K:=by
 intro L b cap O v w hK hlen hst hO hsum;obtain⟨i0,hi0,hz0,hz1,hz2⟩:=info_parts info_s9;obtain⟨N,hN⟩:∃ N,N=L.length:=⟨_,rfl⟩;rw[<-hN] at hlen ⊢;have HN:=hid hN;have HL:=hid hst;have HK:=hid hK;have HIH:=hid ih;have HO:=hid hO;have HS:=hid hsum;clear hN hst hK ih hsum;obtain⟨va,vc,rfl,hvc1,hvc2⟩:=row_val hO.own;obtain⟨ON,hON⟩:∃ n,n=O.length:=⟨_,rfl⟩;rw[<-hON] at HO HS ⊢;have HON:=hid hON;clear hO hON;go_enter Tryz.func17,Tryz.ntmps17;go_wp2_with fail
 go_loopw [1,6] (fun nv i' wr=>∃ (i:Nat) (P:List ByteArray) (pa:Option Addr) (PN pc:Nat),i<=N/\i'=.int .i64 i/\nv=.slice pa PN pc/\Hid (NmD B w0 P (.slice pa PN pc) wr)/\Hid (PN=P.length/\PN<=ON+cntL (L.take i))) (fun _ i' _=>N - (RowKit.intOf i').toNat)
 case atStart=>exact⟨0,O,va,ON,vc,Nat.zero_le _,rfl,rfl,HO,hid ⟨HON.out,Nat.le_add_right _ _⟩⟩
 obtain⟨i,P,pa,PN,pc,hi,rfl,rfl,HP,HPL⟩:=hrel;obtain⟨wo,hwo⟩:∃ w',w'=wr:=⟨_,rfl⟩;subst hwo;have d0:(0:Int)<=(i:Int):=by omega
 by_cases hlt:i < N
 ·have hkl:i < L.length:=by rw[<-HN.out];exact hlt
  have hbn:Below n w0 wo:=HP.out.x.mono hnB;obtain⟨g,o,rfl,hg,hsa⟩:=StmsAt.at L HL.out i hkl;have hct:=cntL_take hkl;have hcl:=cntL_le L (i+1);obtain⟨x,hx⟩:∃ x,x=L[i]:=⟨_,rfl⟩;rw[<-hx] at hsa hct;clear hx;obtain⟨kind,nm,rs,al,body⟩:=x;rw[StmAt] at hsa;obtain⟨r,rc,a',atc,b',bc,c0,c1,c2,c3,c4,hr,-,hbs,hl1,-,hl3,-,hl5⟩:=hsa;replace c0:=(hbn.cell hg).trans c0;replace c1:=(hbn.cell hg).trans c1;replace c2:=(hbn.cell hg).trans c2;replace c3:=(hbn.cell hg).trans c3;replace c4:=(hbn.cell hg).trans c4;have HBN:=hid hbn;obtain⟨BN,hBN⟩:∃ q,q=body.length:=⟨_,rfl⟩;rw[<-hBN] at c4;have HBL:=hid hBN;have hcb:=cntS_body (.mk kind nm rs al body);simp only[Stm.body] at hcb;have hPs:PN+1<=1001:=by have:=HPL.out.2;have:=HS.out;omega
  have d1:(i:Int) < (N:Int):=by omega
  obtain⟨R,hR⟩:∃ R,R=rs.length:=⟨_,rfl⟩;rw[<-hR] at c2 hl1;have hRm:R<=9223372036854775807:=by unfold maxLen at hl3;omega
  have HR:=hid hR;have HCT:=hid hct;have HCB:=hid hcb;have HRF:=hid hr;have HBS:=hid hbs;have HCL:=hid hcl;have HGN:=hid hg;have HL5:=hid hl5;have HC:=hid (fun(w':World) (x:Below n wo w') (hgn:g < n)=>And.intro ((x.cell hgn).trans c2) ((x.cell hgn).trans c4));clear hR hct hcb hr hbs hcl hg hl5 hl1 hl3 hBN hbn;generalize al.length=AN at *
  go_upto_if 22 with fail
  go_cut [1] from 11 to 79 (fun s1 wx=>∃ (P2:List ByteArray) (pa2:Option Addr) (PN2 pc2:Nat),s1=.slice pa2 PN2 pc2/\Hid (NmD B w0 P2 (.slice pa2 PN2 pc2) wx)/\Hid (PN2=P2.length/\PN2<=PN+1)/\Hid (Below B wo wx))
  case first =>
   by_cases hk:kind=1
   ·obtain⟨f1,f2⟩:=Lx.eq_facts hk;clear hk;go_wp2_with (at_builtin;refine wpList_append_lies _ rfl _ _ 43 rfl B 9 i0 _ 1 16 Tryz.underlying43 hi0 hz0 hz1 hz2 rfl (by decide) _ _ _ rfl (by have h:=HP.out.own;rw[<-HPL.out.1] at h;exact At.own_ext h ((Ext.refl wo).alloc _)) ⟨wo.heap.size,0,none⟩ 1 1 [.string nm] rfl rfl ?c1 ?c2 (by decide) ?c3 ?c4 ?c5 _ rfl ?_)
    case c1=>exact World.news_of_block (cs:=#[.string nm]) (t:=9) (fr:=(0,0)) (heap_alloc_new wo _)
    case c2=>intro u hu;simp at hu;subst hu;rfl
    case c3=>unfold maxLen;omega
    case c4=>omega
    case c5=>have:=HP.out.sz;simp;omega
    intro g7 c7 w7 hown7 hgrow7 hor7 _;have HN7:=hid (NmD.add (s:=nm) HP.out ((Ext.refl wo).alloc (.cells #[.string nm] 9)) hgrow7 (by rw[<-HPL.out.1];exact hown7));have HB7:Hid (Below B wo w7):=hid (Below.grown (((Ext.refl wo).alloc (.cells #[.string nm] 9)).mono HP.out.sz) hgrow7 (Nat.le_trans HP.out.sz ((Ext.refl wo).alloc (.cells #[.string nm] 9)).size) (fun k hk=>(HP.out.own.lt k hk).1));clear hown7 hgrow7 hor7;go_wp2_with fail
    go_meet
    exact⟨P++[nm],_,PN+1,c7,rfl,hid (by have h:=HN7.out;rw[<-HPL.out.1] at h;exact h),hid ⟨by rw[List.length_append,<- HPL.out.1];rfl,Nat.le_refl _⟩,HB7⟩
   obtain⟨f1,f2⟩:=Lx.ne_facts hk;clear hk;go_wp2_with fail
   go_meet
   exact⟨P,pa,PN,pc,rfl,HP,hid ⟨HPL.out.1,Nat.le_succ _⟩,hid (Below.refl B wo)⟩
  case rest =>
  obtain⟨P2,pa2,PN2,pc2,rfl,HP2,HPL2,HB2⟩:=hcut;have hp2:PN2<=1001:=by have:=HPL2.out.2;omega
  clear c0 c1 c2 c3 c4;obtain⟨c2,c4⟩:=HC.out _ (HB2.out.mono hnB) HGN.out;go_wp2_with fail
  go_loopw [7] (fun k' wr=>∃ k:Nat,k<=R/\k'=.int .i64 k/\Hid (Ext wc wr)) (fun k' _=>R - (RowKit.intOf k').toNat)
  case atStart=>exact⟨0,Nat.zero_le _,rfl,hid (Ext.refl _)⟩
  obtain⟨k,hk,rfl,HY⟩:=hrel;obtain⟨w2,hw2⟩:∃ w',w'=wr:=⟨_,rfl⟩;subst hw2;clear c2 c4;obtain⟨c2,c4⟩:=HC.out _ ((HB2.out.trans (HY.out.mono HP2.out.sz)).mono hnB) HGN.out;have e0:(0:Int)<=(k:Int):=by omega
  by_cases hkr:k < R
  ·have hkl2:k < rs.length:=by rw[<-HR.out];exact hkr
   obtain⟨gr,or,rfl,-,q0,-⟩:=(HRF.out.below (HBN.out.trans ((HB2.out.trans (HY.out.mono HP2.out.sz)).mono hnB))) k hkl2;generalize rs[k].1=rn at *;have e1:(k:Int) < (R:Int):=by omega
   go_wp2_with fail
   go_loopw [8,9] (fun kn j' wr=>∃ (kb:Bool) (j:Nat),kn=.bool kb/\j'=.int .i64 j/\j<=PN2/\Hid (Ext w2 wr)) (fun _ j' _=>PN2 - (RowKit.intOf j').toNat)
   case atStart=>exact⟨false,0,rfl,rfl,Nat.zero_le _,hid (Ext.refl _)⟩
   obtain⟨kb,j,rfl,rfl,hj,HZ⟩:=hrel;have y2:=HZ.out.cell c2;have z0:=HZ.out.cell q0;have y4:=HZ.out.cell c4;have m0:(0:Int)<=(j:Int):=by omega
   by_cases hjp:j < PN2
   ·have m1:(j:Int) < (PN2:Int):=by omega
    cases kb with
    | true =>
     go_wp2_with fail
     go_quiet (fail)
     go_wp2_with fail
     go_roundw
     case rel=>exact⟨true,j+1,rfl,by go_num,by omega,hid (HZ.out.drewN _)⟩
     case measure=>simp[RowKit.intOf];omega
    | false =>
     obtain⟨pg,pc3,hpe,hpc⟩:=str_at (HP2.out.ext (HY.out.trans HZ.out)) j (by rw[<-HPL2.out.1];exact hjp);injection hpe with hpe1 _ _;subst hpe1;generalize P2[j]=pn at hpc;go_wp2_with fail
     go_quiet (fail)
     go_wp2_with fail
     go_roundw
     case rel=>exact⟨_,j+1,rfl,by go_num,by omega,hid (HZ.out.drewN _)⟩
     case measure=>simp[RowKit.intOf];omega
   ·have m1:¬ (j:Int) < (PN2:Int):=by omega
    cases kb with
    | false =>
     go_wp2_with fail;go_returns;exact⟨_,false,P2,rfl,HP2.out.ext (HY.out.trans HZ.out),by have:=HPL2.out;have:=HPL.out;have:=HCT.out;have:=HCB.out;have:=HCL.out;omega⟩
    | true =>
     go_wp2_with fail
     go_roundw
     case rel=>exact⟨k+1,by omega,by go_num,hid (HY.out.trans HZ.out)⟩
     case measure=>simp[RowKit.intOf];omega
  have e1:¬ (k:Int) < (R:Int):=by omega
  have hcall:Calls Tryz.prog 17 #[.slice b' BN bc,.slice pa2 PN2 pc2] w2 fun e w'=>DclR B w0 (P2.length+cntL body) e w':=by
   have h0:=HIH.out (cntL body) (by have:=HK.out;have:=HCL.out;have:=HCT.out;have:=HCB.out;omega) body b' bc P2 (.slice pa2 PN2 pc2) w2 (Nat.le_refl _) (by have:=cntL_len body;have:=HCL.out;have:=HCT.out;have:=HCB.out;have:=HS.out;omega) HBS.out (HP2.out.ext HY.out) (by have:=HPL2.out;have:=HPL.out;have:=HCT.out;have:=HCB.out;have:=HCL.out;have:=HS.out;omega);rw[<-HBL.out] at h0;exact h0
  go_wp2_with (go_at_call 17;refine Calls.mono (by with_reducible exact hcall) ?_;rintro e w7 ⟨v7,b7,O7,rfl,h7,hl7⟩;have H7:=hid h7;have HL7:=hid hl7;clear h7 hl7 hcall)
  ·obtain⟨v8,c8,rfl,-,-⟩:=row_val H7.out.own;go_returns;exact⟨_,false,O7,rfl,H7.out,by have:=HL7.out;have:=HPL2.out;have:=HPL.out;have:=HCT.out;have:=HCB.out;have:=HCL.out;omega⟩
  obtain⟨v8,c8,rfl,-,-⟩:=row_val H7.out.own;refine⟨⟨i+1,O7,v8,_,c8,by omega,by go_num,rfl,H7,hid ⟨rfl,?_⟩⟩,?_⟩
  ·have:=HL7.out;have:=HPL2.out;have:=HPL.out;have:=HCT.out;have:=HCB.out;omega
  simp[RowKit.intOf];omega
 have d1:¬ (i:Int) < (N:Int):=by omega
 go_wp2_with fail;go_returns;exact⟨_,true,P,rfl,HP.out,by rw[<-HPL.out.1];have:=HPL.out.2;have:=cntL_le L i;omega⟩
theorem dcl_all (B n:Nat)(w0:World)(hnB:n<=B)(hn:n<=w0.heap.size):∀ K,DclC B n w0 K:=by
 intro K
 induction K using Nat.strongRecOn with
 | _ K ih=>exact dcl_step B n w0 hnB hn K ih
theorem declared_any (L:List Stm)(b:Option Addr)(cap:Nat)(w:World)(hs:cntL L<=1000)(hl:L.length<=1000)(h:StmsAt w.heap.size w b L):
  Calls Tryz.prog 17 #[.slice b L.length cap,.slice none 0 0] w fun e w'=>(∃ v b,e=.returned (.tuple #[v,.bool b]))/\Ext w w' :=
 (dcl_all w.heap.size w.heap.size w (Nat.le_refl _) (Nat.le_refl _) (cntL L) L b cap [] (.slice none 0 0) w (Nat.le_refl _) hl h ⟨World.ownsRow_nil _ _ _ _,Below.refl _ _,Nat.le_refl _⟩ (by simpa using hs)).mono
  fun e w' hh=>by obtain⟨v,b,O,h1,h2,-⟩:=hh;exact⟨⟨v,b,h1⟩,h2.x⟩
end Go.Proofs.YtjaeedbjknejdaaGreatDoor.Ex
