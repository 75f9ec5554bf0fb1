/- Packed texts: TrePar, TreRtp, ParSiz, ExpSiz, QuoOnce -/
import Derived.Test.YtjaeedbjknejdaaGreatDoorPu40
import Derived.Tactics
import Derived.Tactics2
import Derived.Defers
import Derived.Laws.Pointers
import Derived.Laws.LoneSync
import Derived.RegionTactic
import Derived.RegionCalls
import Derived.ChangeAlike
set_option linter.unusedVariables false
set_option linter.unusedSimpArgs false
set_option maxHeartbeats 16000000
set_option maxRecDepth 100000
namespace Go.Proofs.YtjaeedbjknejdaaGreatDoor.Tr
open Go.Lib Fx Lx
def kNode : List UInt8:=[110,111,100,101]
def kEdge : List UInt8:=[101,100,103,101]
theorem empty_of (s:ByteArray)(h:s.size=0):s=⟨#[]⟩:=by
  apply ByteArray.ext;exact Array.eq_empty_of_size_eq_zero h
end Go.Proofs.YtjaeedbjknejdaaGreatDoor.Tr

namespace Go.Proofs.YtjaeedbjknejdaaGreatDoor.Tr
open Go.Lib Fx Lx
theorem form_parts (k:Int)(n:ByteArray)(r a:List Two)(b:List Stm)(h:formB (.mk k n r a b)=true):
    (k=1/\r=[]/\b=[])\/(k=2/\n=⟨#[]⟩/\b=[]/\2<=r.length)\/(k=3/\r=[]/\b=[]/\(n.data.toList=kNode\/n.data.toList=kEdge))\/(k=4/\r=[]/\b=[]/\∃ v,a=[(⟨#[]⟩,v)])\/(k=5/\r=[]/\a=[]):=by
  rw[formB_mk] at h;by_cases h1:k=1
  · rw[if_pos h1] at h;simp only[Bool.and_eq_true,decide_eq_true_eq] at h;exact .inl ⟨h1,List.eq_nil_of_length_eq_zero h.1,List.eq_nil_of_length_eq_zero h.2⟩
  rw[if_neg h1] at h;by_cases h2:k=2
  · rw[if_pos h2] at h;simp only[Bool.and_eq_true,decide_eq_true_eq] at h;exact .inr (.inl ⟨h2,empty_of n h.1.1,List.eq_nil_of_length_eq_zero h.1.2,h.2⟩)
  rw[if_neg h2] at h;by_cases h3:k=3
  · rw[if_pos h3] at h;simp only[Bool.and_eq_true,Bool.or_eq_true,decide_eq_true_eq] at h;exact .inr (.inr (.inl ⟨h3,List.eq_nil_of_length_eq_zero h.1.1,List.eq_nil_of_length_eq_zero h.1.2,h.2⟩))
  rw[if_neg h3] at h;by_cases h4:k=4
  · rw[if_pos h4] at h;simp only[Bool.and_eq_true,decide_eq_true_eq] at h;refine .inr (.inr (.inr (.inl ⟨h4,List.eq_nil_of_length_eq_zero h.1.1,List.eq_nil_of_length_eq_zero h.1.2,?_⟩)));have h5:=h.2;unfold setB at h5;split at h5
    · rename_i q;obtain⟨x,v⟩:=q;have:x.size=0:=by simpa using h5
      exact⟨v,by rw[empty_of x this]⟩
    exact absurd h5 (by decide)
  rw[if_neg h4] at h;by_cases h5:k=5
  · rw[if_pos h5] at h;simp only[Bool.and_eq_true,decide_eq_true_eq] at h;exact .inr (.inr (.inr (.inr ⟨h5,List.eq_nil_of_length_eq_zero h.1,List.eq_nil_of_length_eq_zero h.2⟩)))
  rw[if_neg h5] at h;exact absurd h (by decide)
end Go.Proofs.YtjaeedbjknejdaaGreatDoor.Tr

namespace Go.Proofs.YtjaeedbjknejdaaGreatDoor.Pa
open Go.Lib Fx Lx Tr
def ownS (x:Stm):Nat:=x.name.size+sizeTwo x.refs+sizeTwo x.attrs+1
theorem size_flat (C:Nat):∀ (M:Nat) (L:List Stm),sizeL L<=M->∀ lev:Nat,(∀ p ∈ flatL lev L,ownS p.1<=C)->sizeL L<=C * (flatL lev L).length:=by
  intro M
  induction M using Nat.strongRecOn with
  | _ M ih =>
  intro L
  induction L with
  | nil=>intro _ _ _;rw[sizeL_nil];omega
  | cons x r ihr =>
    intro hM lev h;rw[sizeL_cons] at hM ⊢;have hb:=sizeS_body x;rw[flatL_cons,flatS_eq] at h ⊢;have h1:=ihr (by omega) lev (fun p hp=>h p (List.mem_append_right _ hp));have h2:=ih (sizeL x.body) (by omega) x.body (Nat.le_refl _) (if x.kind=5 then lev+1 else lev) (fun p hp=>h p (List.mem_append_left _ (List.mem_cons_of_mem _ hp)));have h3:ownS x<=C:=h (x,lev) (List.mem_append_left _ List.mem_cons_self);unfold ownS at h3;rw[List.length_append,List.length_cons,Nat.mul_add,Nat.mul_add];omega
theorem two_le (C:Nat):∀ L:List Two,(∀ q ∈ L,q.1.size+q.2.size+1<=C)->sizeTwo L<=C * L.length
  | [],_=>by simp[sizeTwo]
  | q::r,h=>by
    have h1:=h q (by simp);have h2:=two_le C r fun p hp=>h p (by simp[hp])
    rw[sizeTwo,List.length_cons,Nat.mul_add];omega
theorem name_len {n:ByteArray}(h:nameB n.data.toList=true):n.size<=16:=by
  unfold nameB at h;simp only[Bool.and_eq_true,decide_eq_true_eq] at h;rw[size_len];exact h.1.1.2
theorem own_le {x:Stm}(h:okS x)(hr:x.refs.length<=10)(ha:x.attrs.length<=20):ownS x<=1400:=by
  obtain⟨k,n,rs,al,b⟩:=x;obtain⟨h1,h2,h3,h4⟩:=h;simp only[Stm.kind,Stm.name,Stm.refs,Stm.attrs] at h2 h3 h4 hr ha;show n.size+sizeTwo rs+sizeTwo al+1<=1400;have hp:=form_parts k n rs al b h1
  have hn:n.size<=16:=by
    rcases hp with⟨rfl,_⟩ | ⟨rfl,rfl,_⟩ | ⟨rfl,_,_,hn | hn⟩ | ⟨rfl,_⟩ | ⟨rfl,_⟩
    · exact name_len (h2 (.inl rfl))
    · decide
    · rw[size_len,hn];decide
    · rw[size_len,hn];decide
    · exact name_len (h2 (.inr (.inl rfl)))
    exact name_len (h2 (.inr (.inr rfl)))
  have hR:sizeTwo rs<=33 * rs.length:=two_le 33 rs fun q hq=>by
    have h:=List.all_eq_true.1 h3 q hq;unfold refB at h;rw[Bool.and_eq_true,Bool.or_eq_true,decide_eq_true_eq] at h;have e1:=name_len h.1
    have e2:q.2.size<=16:=by
      rcases h.2 with e | e
      · omega
      exact name_len e
    omega
  have hA:sizeTwo al<=49 * al.length:=two_le 49 al fun q hq=>by
    obtain⟨g1,g2,_⟩:=h4 q hq;by_cases h5:k=4
    · rcases hp with⟨rfl,_⟩ | ⟨rfl,_⟩ | ⟨rfl,_⟩ | ⟨rfl,_,_,v,rfl⟩ | ⟨rfl,_⟩
      · cases h5
      · cases h5
      · cases h5
      · rw[List.mem_singleton] at hq;subst hq;dsimp only at g2 ⊢;have:ByteArray.size ⟨#[]⟩=0:=rfl;omega
      cases h5
    have:=name_len (g1 h5);omega
  omega
end Go.Proofs.YtjaeedbjknejdaaGreatDoor.Pa

namespace Go.Proofs.YtjaeedbjknejdaaGreatDoor.Ex
open Go.Lib Fx Lx Tr At Go.Proofs.YtjaeedbjknejdaaGreatDoor.Nm
theorem block_all {g:Gr}(P:Stm × Nat->Prop)(hn:∀ (i:Nat) (h:i < g.N.length) (lev:Nat),P (nodeS g.N[i],lev))(hc:∀ (i:Nat) (h:i < g.C.length) (lev:Nat) (B:List Stm),P (.mk 5 g.C[i].1 [] [] B,lev)):∀ (f:Nat) (p:Int) (n k lev:Nat),∀ q ∈ flatL lev (blockT g f p n k).1,P q
  | 0,p,n,k,lev,q,hq=>by rw[blockT] at hq;dsimp only at hq;rw[flatL_nil] at hq;cases hq
  | f+1,p,n,k,lev,q,hq=>by
    rw[blockT] at hq;split at hq
    · rename_i hr;have hk:=ready_lt hr;dsimp only at hq;rw[flatL_cons,flatS_mk] at hq;rcases List.mem_append.1 hq with hq | hq
      · rcases List.mem_cons.1 hq with rfl | hq
        · have:=hc k hk lev (blockT g f k n (k+1)).1;rw[List.getElem?_eq_getElem hk];exact this
        exact block_all P hn hc f _ _ _ _ q hq
      exact block_all P hn hc f _ _ _ _ q hq
    · split at hq
      · dsimp only at hq;rw[flatL_nil] at hq;cases hq
      rename_i x hx;obtain⟨hi,rfl⟩:=List.getElem?_eq_some_iff.1 hx;split at hq
      · dsimp only at hq;have e:=hn n hi lev;unfold nodeS at hq e;rw[flatL_cons,flatS_mk,flatL_nil] at hq;rcases List.mem_append.1 hq with hq | hq
        · rw[List.mem_singleton.1 hq];exact e
        exact block_all P hn hc f _ _ _ _ q hq
      dsimp only at hq;rw[flatL_nil] at hq;cases hq
theorem edges_all {N:List Nd}(P:Stm × Nat->Prop):∀ (E:List Ed),(∀ x ∈ E,P (edgeS N x,0))->∀ q ∈ flatL 0 (E.map (edgeS N)),P q
  | [],_,q,hq=>by rw[List.map_nil,flatL_nil] at hq;cases hq
  | x::E,h,q,hq=>by
    rw[List.map_cons,flatL_cons] at hq;rcases List.mem_append.1 hq with hq | hq
    · have e:=h x (by simp);unfold edgeS at hq e;rw[flatS_mk,flatL_nil] at hq;rw[List.mem_singleton.1 hq];exact e
    · exact edges_all P E (fun y hy=>h y (by simp[hy])) q hq
theorem sets_all (P:Stm × Nat->Prop):∀ (L:List Stm),(∀ x ∈ L,(∃ k v,x=setS k v)/\P (x,0))->∀ q ∈ flatL 0 L,P q
  | [],_,q,hq=>by rw[flatL_nil] at hq;cases hq
  | x::L,h,q,hq=>by
    obtain⟨⟨k,v,rfl⟩,hp⟩:=h x (by simp);rw[flatL_cons] at hq;rcases List.mem_append.1 hq with hq | hq
    · unfold setS at hq hp;rw[flatS_mk,flatL_nil] at hq;rw[List.mem_singleton.1 hq];exact hp
    · exact sets_all P L (fun y hy=>h y (by simp[hy])) q hq
theorem node_four (x:Nd):(nodeA x).length<=4:=by
  rw[nodeA_op];have h:=(((op_sub (x.h=10000) kHeight (fmtB x.h)).append (op_sub (x.label=x.name) kLabel x.label)).append (op_sub (x.ports=[]) kPorts (portsTx x.ports)) |>.append (op_sub (x.w=20000) kWidth (fmtB x.w))).length_le;exact h
theorem edge_three (x:Ed):(edgeA x).length<=3:=by
  rw[edgeA_op];exact(((op_sub _ _ _).append (op_sub _ _ _)).append (op_sub _ _ _)).length_le
theorem sets_only (o:Op5):∀ x ∈ optsL o,∃ k v,x=setS k v:=fun x hx=>by
  rw[optsL_op] at hx;simp only[List.mem_append] at hx;rcases hx with(((hx | hx) | hx) | hx) | hx <;> exact⟨_,_,opS_mem hx⟩
theorem body_few (g:Gr)(o:Op5):∀ p ∈ flatL 0 (bodyT g o),p.1.refs.length<=10/\p.1.attrs.length<=16:=fun p hp=>by
  unfold bodyT at hp;rw[flatL_app,flatL_app] at hp;rcases List.mem_append.1 hp with hp | hp
  · rcases List.mem_append.1 hp with hp | hp
    · refine sets_all (fun p=>p.1.refs.length<=10/\p.1.attrs.length<=16) _ (fun x hx=>?_) p hp;obtain⟨k,v,rfl⟩:=sets_only o x hx;exact⟨⟨k,v,rfl⟩,by show 0<=10;decide,by show 1<=16;decide⟩
    refine block_all (fun p=>p.1.refs.length<=10/\p.1.attrs.length<=16) (fun i h lev=>⟨by show 0<=10;decide,?_⟩) (fun i h lev B=>⟨by show 0<=10;decide,by show 0<=16;decide⟩) _ _ _ _ _ p hp;have:=node_four g.N[i];show(nodeA g.N[i]).length<=16;omega
  refine edges_all (fun p=>p.1.refs.length<=10/\p.1.attrs.length<=16) _ (fun x hx=>⟨by show 2<=10;decide,?_⟩) p hp;have:=edge_three x;show(edgeA x).length<=16;omega
theorem tree_ok {g:Gr}{o:Op5}{B:List Stm}(h:treeT g o=.ok B):B=bodyT g o/\grE g=0/\inR5 o=true/\validE g.name B=0/\(∀ p ∈ flatL 0 B,p.1.refs.length<=10/\p.1.attrs.length<=16)/\g.name.size<=16/\sizeL B<=1048576/\cntL B<=341:=by
  unfold treeT at h;split at h
  · cases h
  rename_i h1;split at h
  · cases h
  split at h
  · cases h
  rename_i h3;injection h with h;subst h;have hg:grE g=0:=Classical.not_not.1 fun e=>h1 (.inl e)
  have ho:inR5 o=true:=by
    cases e:inR5 o
    · exact absurd (.inr e) h1
    rfl
  have hv:validE g.name (bodyT g o)=0:=Classical.not_not.1 h3;have hfw:=body_few g o;have hcn:=cnt_body (gr_ok hg) o;obtain⟨v1,v2,v3,-⟩:=valid_ok g.name (bodyT g o) hv;have:=Pa.size_flat 1400 (sizeL (bodyT g o)) (bodyT g o) (Nat.le_refl _) 0 (fun p hp=>Pa.own_le (okS_of p.1 p.2 (v3 p hp)) (hfw p hp).1 (by have:=(hfw p hp).2;omega));rw[cntL_flat] at this;exact⟨rfl,hg,ho,hv,hfw,Pa.name_len v1,by omega,hcn⟩
end Go.Proofs.YtjaeedbjknejdaaGreatDoor.Ex

namespace Go.Proofs.YtjaeedbjknejdaaGreatDoor.Qo
open Go.RowKit
theorem disable (w:World):(callFunc 317 #[]).run Tryz.prog w=.ok (.value (.tuple #[])) w:=run_call_mark0 Tryz.func317 (by kernel_rfl) (by kernel_rfl) (by kernel_rfl) .disable (by kernel_rfl) w
theorem enable (w:World):(callFunc 319 #[]).run Tryz.prog w=.ok (.value (.tuple #[])) w:=run_call_mark0 Tryz.func319 (by kernel_rfl) (by kernel_rfl) (by kernel_rfl) .enable (by kernel_rfl) w
theorem acquire (a:Addr)(w:World):(callFunc 320 #[.pointer (some a)]).run Tryz.prog w=.ok (.value (.tuple #[])) w:=run_call_marked Tryz.func320 (by kernel_rfl) (by kernel_rfl) (by kernel_rfl) .acquire (by kernel_rfl) a w
theorem releaseMerge (a:Addr)(w:World):(callFunc 322 #[.pointer (some a)]).run Tryz.prog w=.ok (.value (.tuple #[])) w:=run_call_marked Tryz.func322 (by kernel_rfl) (by kernel_rfl) (by kernel_rfl) .releaseMerge (by kernel_rfl) a w
theorem store_deferred (a:Addr)(x:Value)(u:FrameMode)(w:World)(hc:w.cell? a=some x)(hz:w.frozen? a=false):
    CallsD Tryz.prog 308 #[.pointer (some a),.bool true] u w fun e u' w'=>u'=u/\(e=.returned (.tuple #[])/\w'=w.drew.setCell a (.int .u32 1)):=by
  have hc':w.drew.cell? a=some x:=by go_simp
  have hz':w.drew.frozen? a=false:=by go_simp
  have hst:=run_call_store (P:=Tryz.prog) Tryz.func313 (by kernel_rfl) (by kernel_rfl) (by kernel_rfl) (by kernel_rfl) (k:=.u32) (y:=1) hc' hz'
  go_enter_d Tryz.func308,Tryz.ntmps308
  go_wp2
  go_region_calls
  all_goals (go_end0;exact⟨rfl,rfl⟩)
theorem unlock_held (a:Addr)(w:World)(hc:w.cell? a=some (.int .i32 1))(hz:w.frozen? a=false):
    Calls Tryz.prog 312 #[.pointer (some a)] w fun e w'=>e=.returned (.tuple #[])/\w'=w.setCell a (.int .i32 0):=by
  have hd:=disable;have he:=enable;have hr:=releaseMerge;have hadd:=run_call_add (P:=Tryz.prog) Tryz.func323 (by kernel_rfl) (by kernel_rfl) (by kernel_rfl) .i32 (by kernel_rfl) (y := -1) (s:=0) hc hz (by simp[go_sem];rfl);have hcv:=run_convert_to_unsafe (P:=Tryz.prog) (src:=386) (dst:=308) Tryz.underlying386 Tryz.underlying308 (by kernel_rfl) hc;go_enter Tryz.func312,Tryz.ntmps312;go_wp2
  go_end0
  exact⟨rfl,rfl⟩
theorem unlock_deferred (a:Addr)(u:FrameMode)(w:World)(hc:w.cell? a=some (.int .i32 1))(hz:w.frozen? a=false):
    CallsD Tryz.prog 307 #[.pointer (some a)] u w fun e u' w'=>u'=u/\(e=.returned (.tuple #[])/\w'=w.setCell a (.int .i32 0)):=by
  go_enter_d Tryz.func307,Tryz.ntmps307
  go_wp2_with (go_at_call 312;refine(unlock_held a _ hc hz).mono ?_;rintro e w' ⟨rfl,rfl⟩)
  go_end0
  exact⟨rfl,rfl⟩
theorem lock_inner (a:Addr)(w:World)(hc:w.cell? a=some (.int .i32 0))(hz:w.frozen? a=false):
    Calls Tryz.prog 311 #[.pointer (some a)] w fun e w'=>e=.returned (.tuple #[])/\w'=w.setCell a (.int .i32 1):=by
  have hd:=disable;have he:=enable;have ha:=acquire;have hcas:=run_call_cas_hit (P:=Tryz.prog) Tryz.func318 (by kernel_rfl) (by kernel_rfl) (by kernel_rfl) .i32 (by kernel_rfl) (y:=1) hc hz;have hc':(w.setCell a (.int .i32 1)).cell? a=some (.int .i32 1):=World.cell?_setCell_same w a _ hc;have hcv:=run_convert_to_unsafe (P:=Tryz.prog) (src:=386) (dst:=308) Tryz.underlying386 Tryz.underlying308 (by kernel_rfl) hc';go_enter Tryz.func311,Tryz.ntmps311;go_wp2
  first | go_end0 | (simp only[Exit.inBlock,Exit.then];refine bodyPost_ret (results_none rfl _ _ _) rfl ?_) | refine bodyPost_ret (results_none rfl _ _ _) rfl ?_
  exact⟨rfl,rfl⟩
theorem lock_free (a:Addr)(w:World)(hc:w.cell? a=some (.int .i32 0))(hz:w.frozen? a=false):
    Calls Tryz.prog 306 #[.pointer (some a)] w fun e w'=>e=.returned (.tuple #[])/\w'=w.setCell a (.int .i32 1):=by
  go_enter Tryz.func306,Tryz.ntmps306;go_wp2_with (go_at_call 311;refine(lock_inner a _ hc hz).mono ?_;rintro e w' ⟨rfl,rfl⟩)
  go_end0
  exact⟨rfl,rfl⟩
def DoneOf (b:Nat)(Q:World->Prop)(w':World):Prop:=∃ wq,Q wq/\w'=(wq.drew.setCell ⟨b,0,none⟩ (.int .u32 1)).setCell ⟨b,1,none⟩ (.int .i32 0)
theorem slow_any (b:Nat)(r:Value)(w:World)(Q:World->Prop)
    (h0:w.cell? ⟨b,0,none⟩=some (.int .u32 0)) (h1:w.cell? ⟨b,1,none⟩=some (.int .i32 0)) (f0:w.frozen? ⟨b,0,none⟩=false) (f1:w.frozen? ⟨b,1,none⟩=false)
    (hf:Calls Tryz.prog 301 #[r] (w.setCell ⟨b,1,none⟩ (.int .i32 1)) fun e w'=>e=.returned (.tuple #[])/\Q w')
    (hQ:∀ w',Q w'->w'.cell? ⟨b,0,none⟩=some (.int .u32 0)/\w'.cell? ⟨b,1,none⟩=some (.int .i32 1)/\w'.frozen? ⟨b,0,none⟩=false/\w'.frozen? ⟨b,1,none⟩=false) :
    Calls Tryz.prog 303 #[.pointer (some ⟨b,0,none⟩),.func (.func 301) #[r] #[]] w fun e w'=>e=.returned (.tuple #[])/\DoneOf b Q w':=by
  have hl:=run_call_load (P:=Tryz.prog) Tryz.func305 (by kernel_rfl) (by kernel_rfl) (by kernel_rfl) .u32 (by kernel_rfl) (w:=w.setCell ⟨b,1,none⟩ (.int .i32 1)) (a:=⟨b,0,none⟩) (x:=0) ((World.cell?_setCell_other _ ⟨b,1,none⟩ ⟨b,0,none⟩ _ (by simp)).trans h0);have hnot:∀ (x:Bool) (w:World),(Op.unary .not (.bool x)).run Tryz.prog w=.ok (.bool (!x)) w:=fun _ _=>rfl
  have HQ:=Lib.hid hQ;clear hQ
  go_enter_defers Tryz.func303,Tryz.ntmps303
  go_wp2_with (first | (go_at_call 306;refine(lock_free ⟨b,1,none⟩ _ (by go_simp) (by go_simp)).mono ?_;rintro e w' ⟨rfl,rfl⟩) | (go_at_call 302;go_in));refine hf.mono ?_;rintro e w' ⟨rfl,hq⟩;obtain⟨q0,q1,g0,g1⟩:=HQ.out w' hq;have HQ2:=Lib.hid hq;clear hq hf;go_wp2;refine leaves_cons (f:=308) (args:=#[.pointer (some ⟨b,0,none⟩),.bool true]) (by simp) (by simp[go_sem]) ?_;refine(store_deferred ⟨b,0,none⟩ (.int .u32 0) .returning _ q0 g0).mono ?_;rintro e u' w'' ⟨rfl,rfl,rfl⟩;refine leaves_cons (f:=307) (args:=#[.pointer (some ⟨b,1,none⟩)]) (by simp[settle]) (by simp[go_sem]) ?_;refine(unlock_deferred ⟨b,1,none⟩ _ _ ?_ (by simp[g1])).mono ?_
  · refine(World.cell?_setCell_other _ ⟨b,0,none⟩ ⟨b,1,none⟩ _ (by simp)).trans ?_;rw[World.cell?_drew];exact q1
  rintro e u' w'' ⟨rfl,rfl,rfl⟩;simp[Leaves,settle,results,Tryz.results303];exact⟨_,HQ2.out,rfl⟩
theorem do_first (b:Nat)(r:Value)(w:World)(Q:World->Prop)
    (h0:w.cell? ⟨b,0,none⟩=some (.int .u32 0)) (h1:w.cell? ⟨b,1,none⟩=some (.int .i32 0)) (f0:w.frozen? ⟨b,0,none⟩=false) (f1:w.frozen? ⟨b,1,none⟩=false)
    (hf:Calls Tryz.prog 301 #[r] (w.setCell ⟨b,1,none⟩ (.int .i32 1)) fun e w'=>e=.returned (.tuple #[])/\Q w')
    (hQ:∀ w',Q w'->w'.cell? ⟨b,0,none⟩=some (.int .u32 0)/\w'.cell? ⟨b,1,none⟩=some (.int .i32 1)/\w'.frozen? ⟨b,0,none⟩=false/\w'.frozen? ⟨b,1,none⟩=false) :
    Calls Tryz.prog 300 #[.pointer (some ⟨b,0,none⟩),.func (.func 301) #[r] #[]] w fun e w'=>e=.returned (.tuple #[])/\DoneOf b Q w':=by
  have hs:=slow_any b r w Q h0 h1 f0 f1 hf hQ;clear hf hQ;have hl:=run_call_load (P:=Tryz.prog) Tryz.func305 (by kernel_rfl) (by kernel_rfl) (by kernel_rfl) .u32 (by kernel_rfl) h0;have hnot:∀ (x:Bool) (w:World),(Op.unary .not (.bool x)).run Tryz.prog w=.ok (.bool (!x)) w:=fun _ _=>rfl
  go_enter Tryz.func300,Tryz.ntmps300;go_wp2_with (first | (go_at_call 303;refine hs.mono ?_;rintro e w' ⟨rfl,hq⟩) | (go_at_call 302;go_in))
  go_end0
  exact⟨rfl,hq⟩
end Go.Proofs.YtjaeedbjknejdaaGreatDoor.Qo
