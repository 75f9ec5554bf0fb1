/- Packed texts: NorOptP, NorVop, ExpOpt0, ExpTre0, ExpApp -/
import Derived.Test.YtjaeedbjknejdaaGreatDoorPu26
import Derived.Test.YtjaeedbjknejdaaGreatDoorPu18
import Derived.Laws.StructEq
set_option linter.unusedVariables false
set_option linter.unusedSimpArgs false
set_option maxHeartbeats 16000000
set_option maxRecDepth 100000
namespace Go.Proofs.YtjaeedbjknejdaaGreatDoor.Nm
open Go.RowKit Go.Sort Go.Lib Go.Shelf Fx Lx Tr At
def opV (o:Op5):Value:=.agg #[.int .i64 o.mode,.int .i64 o.ns,.int .i64 o.rs,.int .i64 o.mg,.int .i64 o.rd]
end Go.Proofs.YtjaeedbjknejdaaGreatDoor.Nm

namespace Go.Proofs.YtjaeedbjknejdaaGreatDoor.Nm
open Go.RowKit Go.Sort Go.Lib Go.Shelf Fx Lx Tr At
def inR (x hi:Int):Bool:=decide (0<=x/\x<=hi)
def okOb (o:Op5):Bool:=inR o.mode 4 && inR o.ns 1048576 && inR o.rs 1048576 && inR o.mg 1048576 && inR o.rd 100
theorem clamp_eq (x hi:Int)(hh:0<=hi):(x == min (max x 0) hi)=inR x hi:=by
  unfold inR;by_cases h:0<=x/\x<=hi
  · rw[decide_eq_true h,beq_iff_eq];omega
  rw[decide_eq_false h,beq_eq_false_iff_ne];omega
theorem vopP_any (o:Op5)(w:World):Calls Tryz.prog 26 #[opV o] w fun e w'=>e=.returned (.bool (okOb o))/\Ext w w':=by
  obtain⟨m,a,b,c,d⟩:=o;have h1:=clamp_eq m 4 (by decide);have h2:=clamp_eq a 1048576 (by decide);have h3:=clamp_eq b 1048576 (by decide);have h4:=clamp_eq c 1048576 (by decide);have h5:=clamp_eq d 100 (by decide);unfold okOb opV;dsimp only;generalize inR m 4=r1 at h1 ⊢;generalize inR a 1048576=r2 at h2 ⊢;generalize inR b 1048576=r3 at h3 ⊢;generalize inR c 1048576=r4 at h4 ⊢;generalize inR d 100=r5 at h5 ⊢;go_enter Tryz.func26,Tryz.ntmps26;go_wp2
  all_goals (
    go_returns;refine⟨?_,((Ext.refl _).alloc _).alloc _⟩;clear h1 h2 h3 h4 h5
    cases r1 <;> cases r2 <;> cases r3 <;> cases r4 <;> cases r5 <;> first | rfl | (exfalso;simp_all;done))
theorem vopD_any (o:Op5)(w:World):Calls Tryz.prog 32 #[opV o] w fun e w'=>e=.returned (.bool (okOb o))/\Ext w w':=by
  obtain⟨m,a,b,c,d⟩:=o;obtain⟨V,hV⟩:∃ V,V=okOb ⟨m,a,b,c,d⟩:=⟨_,rfl⟩;rw[<-hV];unfold okOb inR at hV;dsimp only at hV;have HV:=Lib.hid hV;clear hV;unfold opV;dsimp only;have x0:Ext w (w.alloc (.cells #[.int .i64 m,.int .i64 a,.int .i64 b,.int .i64 c,.int .i64 d] 28)):=(Ext.refl _).alloc _;go_enter Tryz.func32,Tryz.ntmps32;by_cases h1:0<=m
  case neg =>
    have hr:Hid (V=false):=Lib.hid (by rw[HV.out];simp[h1]);go_wp2;go_returns;exact⟨by rw[hr.out];rfl,x0⟩
  by_cases h2:m<=4
  case neg =>
    have hr:Hid (V=false):=Lib.hid (by rw[HV.out];simp[h2]);go_wp2;go_returns;exact⟨by rw[hr.out];rfl,x0⟩
  by_cases h3:0<=a
  case neg =>
    have hr:Hid (V=false):=Lib.hid (by rw[HV.out];simp[h3]);go_wp2;go_returns;exact⟨by rw[hr.out];rfl,x0⟩
  by_cases h4:a<=1048576
  case neg =>
    have hr:Hid (V=false):=Lib.hid (by rw[HV.out];simp[h4]);go_wp2;go_returns;exact⟨by rw[hr.out];rfl,x0⟩
  by_cases h5:0<=b
  case neg =>
    have hr:Hid (V=false):=Lib.hid (by rw[HV.out];simp[h5]);go_wp2;go_returns;exact⟨by rw[hr.out];rfl,x0⟩
  by_cases h6:b<=1048576
  case neg =>
    have hr:Hid (V=false):=Lib.hid (by rw[HV.out];simp[h6]);go_wp2;go_returns;exact⟨by rw[hr.out];rfl,x0⟩
  by_cases h7:0<=c
  case neg =>
    have hr:Hid (V=false):=Lib.hid (by rw[HV.out];simp[h7]);go_wp2;go_returns;exact⟨by rw[hr.out];rfl,x0⟩
  by_cases h8:c<=1048576
  case neg =>
    have hr:Hid (V=false):=Lib.hid (by rw[HV.out];simp[h8]);go_wp2;go_returns;exact⟨by rw[hr.out];rfl,x0⟩
  by_cases h9:0<=d
  case neg =>
    have hr:Hid (V=false):=Lib.hid (by rw[HV.out];simp[h9]);go_wp2;go_returns;exact⟨by rw[hr.out];rfl,x0⟩
  by_cases h10:d<=100
  case neg =>
    have hr:Hid (V=false):=Lib.hid (by rw[HV.out];simp[h10]);go_wp2;go_returns;exact⟨by rw[hr.out];rfl,x0⟩
  have hr:Hid (V=true):=Lib.hid (by rw[HV.out];simp[h1,h2,h3,h4,h5,h6,h7,h8,h9,h10]);go_wp2;go_returns;exact⟨by rw[hr.out];rfl,x0⟩
end Go.Proofs.YtjaeedbjknejdaaGreatDoor.Nm

namespace Go.Proofs.YtjaeedbjknejdaaGreatDoor.Ex
open Go.RowKit Go.Sort Go.Lib Go.Shelf Fx Lx Tr At Pa Go.Proofs.YtjaeedbjknejdaaGreatDoor.Nm
theorem inR5_ok {o:Op5}(h:inR5 o=true):0<=o.mode/\o.mode<=4/\0<=o.ns/\o.ns<=1048576/\0<=o.rs/\o.rs<=1048576/\0<=o.mg/\o.mg<=1048576/\0<=o.rd/\o.rd<=100:=by
  unfold inR5 at h;simp only[Bool.and_eq_true,decide_eq_true_eq] at h;omega
theorem one_two {w:World}{g m:Nat}{T:TypeId}{a b:ByteArray}(h:w.heap[g]? = some (.cells #[.string a,.string b] T (0,0)))(hm:m<=g):TwoP (m <= ·) w (some ⟨g,0,none⟩) [(a,b)]:=fun k hk=>by
  have h2:k=0:=by simp at hk;omega
  subst h2;exact⟨g,0,rfl,hm,by rw[Lib.cell_of_heap h];rfl,by rw[Lib.cell_of_heap h];rfl⟩
structure OptA (w2:World)(L:List Stm)(v:Value)(wx:World):Prop where
  own:BarAt w2.heap.size 0 L v wx
  X:Ext w2 wx
theorem OptA.next {w2 wx wA w7:World}{L:List Stm}{v:Value}{LN:Nat}{XX xs:List Value}{s:Stm}{g7 c7:Nat}(h:OptA w2 L v wx)(hn:LN=L.length)(own:wx.ownsRow w2.heap.size 67 5 v LN XX)(hc:StmsC (OkB 0 w2.heap.size v) wx L XX)(x:Ext wx wA)
    (hs:StmP (fun g=>g < 0\/wx.heap.size<=g) wA s xs) (hl:xs.length=5) (hg:wA.grownBy w7 v.ownBlock) (ho:w7.ownsRow w2.heap.size 67 5 (.slice (some ⟨g7,0,none⟩) (LN+1) c7) (LN+1) (XX++xs)) (hor:v.ownBlock=some g7\/g7=wA.heap.size) :
    OptA w2 (L++[s]) (.slice (some ⟨g7,0,none⟩) (LN+1) c7) w7:=by
  subst hn;exact⟨BarAt.next own hc (Nat.zero_le _) h.X.size x hs hl hg ho hor,ext_grown (h.X.trans x) hg (fun k e=>(own.lt k e).1)⟩
end Go.Proofs.YtjaeedbjknejdaaGreatDoor.Ex

namespace Go.Proofs.YtjaeedbjknejdaaGreatDoor.Ex
open Go.RowKit Go.Sort Go.Lib Go.Shelf Fx Lx Tr At Pa Go.Proofs.YtjaeedbjknejdaaGreatDoor.Nm
theorem ok5 (o:Op5):okOb o=inR5 o:=by
  unfold okOb inR5 inR;rw[Bool.eq_iff_iff];simp only[Bool.and_eq_true,decide_eq_true_eq];omega
theorem stmsV_at {m:Nat}{w:World}{b:Option Addr}{L:List Stm}(h:StmsP (m <= ·) w b L):StmsAt w.heap.size w b L :=
  StmsP.at (ok:=fun g=>g < w.heap.size) (fun _ h=>h) L b (StmsP.keep (fun _ _ _=>rfl) (fun _ _ h=>h) L b h)
theorem cnt_block (g:Gr):∀ (f:Nat) (p:Int) (n k:Nat),n<=g.N.length->k<=g.C.length->cntL (blockT g f p n k).1+msr g (blockT g f p n k).2.1 (blockT g f p n k).2.2<=msr g n k
  | 0,_,n,k,_,_=>by rw[blockT];dsimp only;rw[cntL_nil];omega
  | f+1,p,n,k,h1,h2=>by
    rw[blockT];split
    · rename_i hr;have hk:=ready_lt hr;have a:=block_le g f k n (k+1) h1 hk;have a2:=cnt_block g f k n (k+1) h1 hk;have b:=cnt_block g f p _ _ a.1 a.2;have d:msr g n (k+1)+1=msr g n k:=by unfold msr;omega
      dsimp only;rw[cntL_cons,cntS_body];have e:∀ (nm:ByteArray) (B:List Stm),(Stm.mk 5 nm [] [] B).body=B:=fun _ _=>rfl
      rw[e];omega
    · split
      · dsimp only;rw[cntL_nil];omega
      rename_i x hx;have hn:=(List.getElem?_eq_some_iff.1 hx).1;split
      · have c:=cnt_block g f p (n+1) k hn h2;have d:msr g (n+1) k+1=msr g n k:=by unfold msr;omega
        dsimp only;rw[cntL_cons,cntS_body,show(nodeS x).body=[] from rfl,cntL_nil];omega
      dsimp only;rw[cntL_nil];omega
theorem cnt_app : ∀ (L M:List Stm),cntL (L++M)=cntL L+cntL M
  | [],M=>by rw[List.nil_append,cntL_nil,Nat.zero_add]
  | x::L,M=>by rw[List.cons_append,cntL_cons,cntL_cons,cnt_app L M,Nat.add_assoc]
theorem cnt_map {α : Type}(f : α -> Stm)(hf:∀ x,cntS (f x)=1):∀ L:List α,cntL (L.map f)=L.length
  | []=>cntL_nil
  | x::L=>by rw[List.map_cons,cntL_cons,hf,cnt_map f hf L,List.length_cons,Nat.add_comm]
theorem cnt_opts (o:Op5):cntL (optsL o)<=5:=by
  have h:∀ (c:Prop) [Decidable c] (k v:ByteArray),cntL (if c then [] else [setS k v])<=1:=fun c _ k v=>by
    split
    · rw[cntL_nil];omega
    rw[cntL_cons,cntL_nil,cntS_body];show cntL []+1+0<=1;rw[cntL_nil];omega
  unfold optsL;rw[cnt_app,cnt_app,cnt_app,cnt_app];have a:=h (o.mode=0) kMode (modeT o.mode);have b:=h (o.ns=10000) kNs (fmtB o.ns);have c:=h (o.rs=20000) kRs (fmtB o.rs);have d:=h (o.mg=5000) kMg (fmtB o.mg);have e:=h (o.rd=8) kRd (fmtB (1000 * o.rd));omega
theorem cnt_body {g:Gr}(hok:GrOk g)(o:Op5):cntL (bodyT g o)<=341:=by
  unfold bodyT;rw[cnt_app,cnt_app,cnt_map _ (fun x=>by rw[cntS_body];show cntL []+1=1;rw[cntL_nil])];have a:=cnt_opts o;have b:=cnt_block g (msr g 0 0+1) (-1) 0 0 (Nat.zero_le _) (Nat.zero_le _);have c:=hok.nl;have d:=hok.cl;have e:=hok.el;have f:msr g 0 0<=80:=by unfold msr;omega
  show _+cntL (blockT g (msr g 0 0+1) (-1) 0 0).1+_<=_;omega
theorem opts_blk {g:Gr}(hok:GrOk g)(o:Op5):(optsL o).length+(blkT g (-1) 0 0).1.length<=100:=by
  have h:∀ (c:Prop) [Decidable c] (k v:ByteArray),(if c then [] else [setS k v]).length<=1:=fun c _ k v=>by split <;> simp
  have a:=h (o.mode=0) kMode (modeT o.mode);have b:=h (o.ns=10000) kNs (fmtB o.ns);have c:=h (o.rs=20000) kRs (fmtB o.rs);have d:=h (o.mg=5000) kMg (fmtB o.mg);have e:=h (o.rd=8) kRd (fmtB (1000 * o.rd));have f:=blk_len (g:=g) (p := -1) (Nat.zero_le _) (Nat.zero_le _);have g1:=hok.nl;have g2:=hok.cl;have g3:msr g 0 0<=80:=by unfold msr;omega
  unfold optsL;simp only[List.length_append];omega
theorem fmt_len30 (n:Int)(h0 : -9223372036854775808<=n)(h1:n<=9223372036854775807):(fmt n).length<=30:=by
  obtain⟨u,q,r,A,D,_,_,_,_,_,_,_,_,hD,hA,hDl,hf⟩:=fmt_parts n h0 h1;have ht:=(trim_props (D.drop 1)).2.2;rw[hf];simp only[List.length_append,List.length_drop] at ht ⊢;have e1:(if n < 0 then [45] else ([]:List UInt8)).length<=1:=by split <;> simp
  have e2:(if 0 < r then 46::trimRightB (D.drop 1) 48 else []).length<=4:=by
    split
    · simp only[List.length_cons];omega
    simp
  omega
theorem fmtB_size (n:Int)(h0:0<=n)(h1:n<=1048576000):(fmtB n).size<=30:=fmt_len30 n (by omega) (by omega)
theorem name16c {n:ByteArray}(h:nameB n.data.toList=true):n.size<=16:=by
  unfold nameB at h;simp only[Bool.and_eq_true,decide_eq_true_eq] at h;rw[size_len];exact h.1.1.2
theorem ports_size {L:List Prt}(hl:L.length<=8)(h:∀ q ∈ L,q.1.size<=1000):(portsTx L).size<=10000:=by
  have:=join_le (L.map portTx) [44,32] 1010 (fun x hx=>by
    obtain⟨q,hq,rfl⟩:=List.mem_map.1 hx;have h1:=h q hq;have h2:=side_le q.2;unfold portTx;rw[List.length_append,List.length_append,<- size_len,<- size_len];show _+1+_<=_
    omega)
  rw[List.length_map] at this;show(Lib.join (L.map portTx) [44,32]).length<=_;have h3:L.length * (1010+[44,32].length)<=8 * 1012:=Nat.mul_le_mul hl (by decide);omega
def SmT (q:Two):Prop:=q.1.size<=10000/\q.2.size<=10000
theorem if_mem {c:Prop}[Decidable c]{y q:Two}(h:SmT y)(hq:q ∈ (if c then [] else [y])):SmT q:=by
  split at hq
  · cases hq
  rw[List.mem_singleton.1 hq];exact h
theorem node_sm {x:Nd}{nc:Nat}{D:List Nd}(h:ndE nc D x=0):∀ q ∈ nodeA x,SmT q:=by
  obtain⟨-,-,hl,h1,h2,h3,h4,-,-,h5⟩:=nd_ok h;obtain⟨p1,p2⟩:=prt_ok h5
  have hps:=ports_size p1 (fun q hq=>by
    obtain⟨k,hk,rfl⟩:=List.getElem_of_mem hq
    exact Nat.le_trans (name16c (p2 k hk).1) (by decide))
  have hls:=(lab_size hl).1;have a:=fmtB_size x.h (by omega) (by omega);have b:=fmtB_size x.w (by omega) (by omega);intro q hq;unfold nodeA at hq;rcases List.mem_append.1 hq with hq | hq
  · rcases List.mem_append.1 hq with hq | hq
    · rcases List.mem_append.1 hq with hq | hq
      · exact if_mem ⟨show kHeight.size<=10000 by decide,by dsimp only;omega⟩ hq
      exact if_mem ⟨show kLabel.size<=10000 by decide,by dsimp only;omega⟩ hq
    exact if_mem ⟨show kPorts.size<=10000 by decide,hps⟩ hq
  exact if_mem ⟨show kWidth.size<=10000 by decide,by dsimp only;omega⟩ hq
theorem edge_sm {N:List Nd}{x:Ed}(h:edE N x=0):∀ q ∈ edgeA x,SmT q:=by
  obtain⟨-,-,-,-,-,-,-,-,hl,t0,t1,l0,l1⟩:=ed_ok h;have hls:=(lab_size hl).1;have a:=fmtB_size (1000 * x.len) (by omega) (by omega);have b:=fmtB_size (1000 * x.wt) (by omega) (by omega);intro q hq;unfold edgeA at hq;rcases List.mem_append.1 hq with hq | hq
  · rcases List.mem_append.1 hq with hq | hq
    · exact if_mem ⟨show kLabel.size<=10000 by decide,by dsimp only;omega⟩ hq
    exact if_mem ⟨show kLen.size<=10000 by decide,by dsimp only;omega⟩ hq
  exact if_mem ⟨show kWeight.size<=10000 by decide,by dsimp only;omega⟩ hq
theorem end_sm {g:Gr}(hok:GrOk g)(v p:Int):SmT (endT g.N v p):=by
  unfold endT;cases h:g.N[v.toNat]? with
  | none=>exact⟨show(ByteArray.mk #[]).size<=10000 by decide,show(ByteArray.mk #[]).size<=10000 by decide⟩
  | some x =>
    obtain⟨hi,rfl⟩:=List.getElem?_eq_some_iff.1 h;have hnd:=nd_ok (hok.nd _ hi);refine⟨Nat.le_trans (name16c hnd.1) (by decide),?_⟩;dsimp only;split
    · decide
    · cases h2:g.N[v.toNat].ports[p.toNat]? with
      | none=>decide
      | some y =>
        obtain⟨hj,rfl⟩:=List.getElem?_eq_some_iff.1 h2;exact Nat.le_trans (name16c ((prt_ok hnd.2.2.2.2.2.2.2.2.2).2 _ hj).1) (by decide)
def SmS (x:Stm):Prop:=x.name.size<=10000/\(∀ q ∈ x.attrs,SmT q)/\∀ q ∈ x.refs,SmT q
theorem SmS.big {x:Stm}(h:SmS x):BigS x :=
  ⟨Nat.le_trans h.1 (by decide),fun q hq=>⟨Nat.le_trans (h.2.1 q hq).1 (by decide),Nat.le_trans (h.2.1 q hq).2 (by decide)⟩,fun q hq=>⟨Nat.le_trans (h.2.2 q hq).1 (by decide),Nat.le_trans (h.2.2 q hq).2 (by decide)⟩⟩
theorem block_sm {g:Gr}(hok:GrOk g):∀ (f:Nat) (p:Int) (n k lev:Nat),∀ q ∈ flatL lev (blockT g f p n k).1,SmS q.1
  | 0,_,n,k,lev,q,hq=>by rw[blockT] at hq;dsimp only at hq;rw[flatL_nil] at hq;cases hq
  | f+1,p,n,k,lev,q,hq=>by
    rw[blockT] at hq;split at hq
    · rename_i hr;have hk:=ready_lt hr;dsimp only at hq;rw[flatL_cons,flatS_mk] at hq;rcases List.mem_append.1 hq with hq | hq
      · rcases List.mem_cons.1 hq with rfl | hq
        · refine⟨?_,fun q hq=>(by cases hq),fun q hq=>(by cases hq)⟩;show((Option.map Prod.fst g.C[k]?).getD ⟨#[]⟩).size<=10000;rw[List.getElem?_eq_getElem hk];exact Nat.le_trans (name16c (cl_ok (hok.cs k hk)).1) (by decide)
        exact block_sm hok f _ _ _ _ q hq
      exact block_sm hok f _ _ _ _ q hq
    · split at hq
      · dsimp only at hq;rw[flatL_nil] at hq;cases hq
      rename_i x hx;obtain⟨hn,rfl⟩:=List.getElem?_eq_some_iff.1 hx;split at hq
      · dsimp only at hq;unfold nodeS at hq;rw[flatL_cons,flatS_mk,flatL_nil] at hq;rcases List.mem_append.1 hq with hq | hq
        · rcases List.mem_cons.1 hq with rfl | hq
          · exact⟨Nat.le_trans (name16c (nd_ok (hok.nd n hn)).1) (by decide),node_sm (hok.nd n hn),fun q hq=>by cases hq⟩
          cases hq
        exact block_sm hok f _ _ _ _ q hq
      dsimp only at hq;rw[flatL_nil] at hq;cases hq
theorem flat_app (lev:Nat):∀ (L M:List Stm),flatL lev (L++M)=flatL lev L++flatL lev M
  | [],M=>by rw[List.nil_append,flatL_nil,List.nil_append]
  | x::L,M=>by rw[List.cons_append,flatL_cons,flatL_cons,flat_app lev L M,List.append_assoc]
theorem opts_sm {o:Op5}(h:inR5 o=true):∀ q ∈ flatL 0 (optsL o),SmS q.1:=by
  obtain⟨m0,m1,a0,a1,b0,b1,c0,c1,d0,d1⟩:=inR5_ok h
  have key:∀ (c:Prop) [Decidable c] (k v:ByteArray),k.size<=10000->v.size<=10000->∀ q ∈ flatL 0 (if c then [] else [setS k v]),SmS q.1:=fun c _ k v hk hv q hq=>by
    split at hq
    · rw[flatL_nil] at hq;cases hq
    unfold setS at hq;rw[flatL_cons,flatS_mk,flatL_nil,flatL_nil] at hq;rcases List.mem_cons.1 hq with rfl | hq
    · refine⟨hk,fun q hq=>?_,fun q hq=>(by cases hq)⟩;rw[List.mem_singleton.1 hq];exact⟨show(ByteArray.mk #[]).size<=10000 by decide,hv⟩
    cases hq
  intro q hq;unfold optsL at hq;simp only[flat_app,List.mem_append] at hq;have e1:=fmtB_size o.ns (by omega) (by omega);have e2:=fmtB_size o.rs (by omega) (by omega);have e3:=fmtB_size o.mg (by omega) (by omega);have e4:=fmtB_size (1000 * o.rd) (by omega) (by omega);rcases hq with(((hq | hq) | hq) | hq) | hq
  · refine key _ _ _ (by decide) ?_ q hq;unfold modeT;split
    · decide
    split
    · decide
    split
    · decide
    split <;> decide
  · exact key _ _ _ (by decide) (by omega) q hq
  · exact key _ _ _ (by decide) (by omega) q hq
  · exact key _ _ _ (by decide) (by omega) q hq
  exact key _ _ _ (by decide) (by omega) q hq
theorem edges_sm {g:Gr}(hok:GrOk g):∀ (E:List Ed),(∀ x ∈ E,edE g.N x=0)->∀ q ∈ flatL 0 (E.map (edgeS g.N)),SmS q.1
  | [],_,q,hq=>by rw[List.map_nil,flatL_nil] at hq;cases hq
  | x::E,h,q,hq=>by
    rw[List.map_cons,flatL_cons] at hq;unfold edgeS at hq;rw[flatS_mk,flatL_nil] at hq;rcases List.mem_append.1 hq with hq | hq
    · rcases List.mem_cons.1 hq with rfl | hq
      · refine⟨by show(ByteArray.mk #[]).size<=10000;decide,edge_sm (h x (List.mem_cons_self ..)),fun q hq=>?_⟩;rcases List.mem_cons.1 hq with rfl | hq
        · exact end_sm hok _ _
        rw[List.mem_singleton.1 hq];exact end_sm hok _ _
      cases hq
    · exact edges_sm hok E (fun y hy=>h y (List.mem_cons_of_mem _ hy)) q hq
theorem body_big {g:Gr}(hok:GrOk g){o:Op5}(h:inR5 o=true):BigL (bodyT g o):=fun q hq=>by
  unfold bodyT at hq;rw[flat_app,flat_app] at hq;rcases List.mem_append.1 hq with hq | hq
  · rcases List.mem_append.1 hq with hq | hq
    · exact(opts_sm h q hq).big
    exact(block_sm hok _ _ _ _ _ q hq).big
  exact(edges_sm hok g.E hok.ed q hq).big
end Go.Proofs.YtjaeedbjknejdaaGreatDoor.Ex

namespace Go.Proofs.YtjaeedbjknejdaaGreatDoor.Ex
open Go Go.RowKit Go.Sort Go.Lib Go.Shelf Fx Lx Tr At Pa Go.Proofs.YtjaeedbjknejdaaGreatDoor.Nm
theorem stmsP_cells {ok:Nat->Prop}{w:World}{g:Nat}:∀ (L:List Stm) (o:Nat),StmsP ok w (some ⟨g,o,none⟩) L->∃ X:List Value,X.length=L.length * 5/\StmsC ok w L X/\(∀ j u,X[j]? = some u->w.cell? ⟨g,o+j,none⟩=some u)/\∀ u ∈ X,u.oneCell'=true
  | [],_,_=>⟨[],by simp,rfl,(by intro j u hj;simp at hj),(by intro u hu;simp at hu)⟩
  | s::L,o,h=>by
    rw[StmsP] at h;obtain⟨g',o',xs,hb,hg,hc,hs,hr⟩:=h;injection hb with hb;injection hb with e1 e2;subst e1;subst e2;obtain⟨X,hl,hcs,hcc,h1⟩:=stmsP_cells L (o+5) hr
    have hx:xs.length=5/\∀ u ∈ xs,u.oneCell'=true:=by
      obtain⟨r,rc,a,ac,b,bc,hx,-⟩:=(stmP_mk ok w s xs).1 hs;subst hx;exact⟨rfl,fun u hu=>by simp at hu;rcases hu with rfl | rfl | rfl | rfl | rfl <;> rfl⟩
    refine⟨xs++X,by rw[List.length_append,hx.1,hl,List.length_cons];omega,⟨xs,X,rfl,hx.1,hs,hcs⟩,fun j u hj=>?_,fun u hu=>?_⟩
    · by_cases hj5:j < 5
      · rw[List.getElem?_append_left (by omega)] at hj;exact hc j u hj
      rw[List.getElem?_append_right (by omega),hx.1] at hj;have:=hcc (j - 5) u hj;rw[show o+5+(j - 5)=o+j by omega] at this;exact this
    · rcases List.mem_append.1 hu with hu | hu
      · exact hx.2 u hu
      exact h1 u hu
section
variable {P:Program}
theorem run_append_no (w:World)(base:Nat)(t ty e:TypeId)(i:TypeInfo)(ht:P.underlying t=some (.slice e))(hi:P.info? e=some i)(size:Nat)(v:Value)(n:Nat)(xs:List Value)(hown:w.ownsRow base e size v n xs)(c:Nat):
    (Builtin.append_ #[t,t] ty #[v,.slice none 0 c]).run P w=.ok v w:=by
  rcases hown.2 with⟨rfl,rfl⟩ | ⟨g,cap,cur,rfl,hbg,hg,hnc,hcm,hcs,htake⟩
  · simp[Builtin.append_,run_underlying ht,sizeOf,typeInfo,hi,Builtin.lenOf,Builtin.firstCells,loadCells,loadCellsFrom]
  simp[Builtin.append_,run_underlying ht,sizeOf,typeInfo,hi,Builtin.lenOf,Builtin.firstCells,loadCells,loadCellsFrom,hnc,storeCells]
end
theorem add_o (g o j:Nat):(⟨g,o,none⟩:Addr).add j=⟨g,o+j,none⟩:=by simp[Addr.add]
end Go.Proofs.YtjaeedbjknejdaaGreatDoor.Ex
