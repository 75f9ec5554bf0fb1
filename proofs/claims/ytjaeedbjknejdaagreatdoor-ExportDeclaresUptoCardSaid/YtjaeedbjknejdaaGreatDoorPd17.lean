/- Packed texts: NorTail, ExpRdy, ExpNodA -/
import Derived.Test.YtjaeedbjknejdaaGreatDoorPd16
import Derived.Deep.RegionHeld
set_option linter.unusedVariables false
set_option linter.unusedSimpArgs false
set_option maxHeartbeats 16000000
set_option maxRecDepth 100000
namespace Go.Proofs.YtjaeedbjknejdaaGreatDoor.Nm
open Go
section
variable {P:Program} {ops:Array Oper} {Q:Exit->Act->World->Prop} {md:Region.Mode} {S:World->Prop} {n:Nat}
def wpAnyK (P:Program)(md:Region.Mode)(ops:Array Oper)(Q:Exit->Act->World->Prop)(S:World->Prop)(n:Nat):Nat->Array Bool->Act->World->Prop
 | 0,listed,a,w=>Region.ready md ops listed=[]/\Q .normal a w
 | fuel+1,listed,a,w =>
  (Region.ready md ops listed=[]->Q .normal a w) /\
  ∀ i ∈ Region.ready md ops listed,wpOp P ops Q i (fun a' w'=>(i ≠ n->S w')/\wpAnyK P md ops Q S n fuel (listed.setIfInBounds i true) a' w') a w
theorem wpAny_of_K : ∀ (fuel:Nat) (listed:Array Bool) (a:Act) (w:World),wpAnyK P md ops Q S n fuel listed a w->wpAny P md ops Q fuel listed a w
 | 0,_,_,_,h=>h
 | fuel+1,_,_,_,h=>⟨h.1,fun i hi=>wpOp_mono (fun a' w' h'=>wpAny_of_K fuel _ a' w' h'.2) (h.2 i hi)⟩
def waitsB (md:Region.Mode)(ops:Array Oper)(n i:Nat):Bool :=
 match ops[n]? with
 | some on=>on.after.any fun e=>Region.binds md e && e.on == i
 | none=>false
theorem waits_not {i:Nat}{listed:Array Bool}(hw:waitsB md ops n i=true)(hi:i ∈ Region.ready md ops listed):n ∉ Region.ready md ops listed:=fun hn=>by
 obtain⟨_,on,hon,hall⟩:=mem_ready.1 hn;unfold waitsB at hw;rw[hon] at hw;obtain⟨e,he,hb⟩:=Array.any_eq_true'.1 hw;simp only[Bool.and_eq_true,beq_iff_eq] at hb;have h1:=hall e he hb.1;have h0:=(mem_ready.1 hi).1;rw[hb.2] at h1;rcases Nat.lt_or_ge i listed.size with h' | h'
 ·simp[h'] at h0 h1;rw[h0] at h1;cases h1
 simp[Array.getElem?_eq_none h'] at h1
theorem wpAnyK_first {i:Nat}{oi:Oper}{v:Value}(hi:ops[i]? = some oi)(hsel:∀ (j:Nat) (o:Oper) cs b,ops[j]? = some o->o.op ≠ .select cs b)(hin:i ≠ n)(hw:waitsB md ops n i=true)
  (hQ:∀ c a w,Q (.panic c) (a.put oi.dst v) w->Q (.panic c) a w) :
  ∀ (fuel:Nat) (listed:Array Bool) (a:Act) (w:World),
   (∀ j oj,ops[j]? = some oj->j ≠ i->listed.getD j true=false->(∀ e ∈ oj.after,Region.binds md e=true->e.on ≠ i)->oi.apart ops oj=true) ->
   i ∈ Region.ready md ops listed->YieldsIf P ops S oi v a->S w ->
   wpAnyK P md ops Q S n fuel (listed.setIfInBounds i true) (a.put oi.dst v) w->wpAnyK P md ops Q S n (fuel+1) listed a w:=by
 intro fuel
 induction fuel with
 | zero =>
  intro listed a w _ hr hy hS H;refine⟨fun h=>(by rw[h] at hr;cases hr),fun j hj=>?_⟩;by_cases hji:j=i
  ·subst hji;exact hy.wpOp hi hS ⟨fun _=>hS,H⟩
  ·have:=ready_mono hj hji;rw[H.1] at this;cases this
 | succ fuel ih =>
  intro listed a w hfree hr hy hS H;refine⟨fun h=>(by rw[h] at hr;cases hr),fun j hj=>?_⟩;by_cases hji:j=i
  ·subst hji;exact hy.wpOp hi hS ⟨fun _=>hS,H⟩
  ·have h1:=H.2 j (ready_mono hj hji);have hjn:j ≠ n:=fun e=>waits_not hw hr (e ▸ hj)
   obtain⟨hjun,oj,hoj,hall⟩:=mem_ready.1 hj
   have hnot:∀ e ∈ oj.after,Region.binds md e=true->e.on ≠ i:=fun e he hb heq=>by
    have h1:=hall e he hb;have h0:=(mem_ready.1 hr).1;rw[heq] at h1;rcases Nat.lt_or_ge i listed.size with h' | h'
    ·simp[h'] at h0 h1;rw[h0] at h1;cases h1
    simp[Array.getElem?_eq_none h'] at h1
   have h2:=wpOp_putIf hoj (hfree j oj hoj hji hjun hnot) (fun cs b=>hsel i oi cs b hi) (fun cs b=>hsel j oj cs b hoj) hQ hy h1
   have hfree':∀ k ok,ops[k]? = some ok->k ≠ i->(listed.setIfInBounds j true).getD k true=false ->
     (∀ e ∈ ok.after,Region.binds md e=true->e.on ≠ i)->oi.apart ops ok=true:=fun k ok hk hki hun hno=>by
    refine hfree k ok hk hki ?_ hno;by_cases hjk:j=k
    ·subst hjk;exact hjun
    rw[getD_set_ne true hjk] at hun;exact hun
   refine wpOp_mono (fun a' w' h3=>⟨fun _=>h3.2.1 hjn,ih (listed.setIfInBounds j true) a' w' hfree' (ready_mono hr (Ne.symm hji)) h3.1 (h3.2.1 hjn) ?_⟩) h2;rw[Array.setIfInBounds_comm _ _ hji];exact h3.2.2
theorem wpAnyK_take {i:Nat}{oi:Oper}{v:Value}{fuel:Nat}{listed:Array Bool}{a:Act}{w:World}(hi:ops[i]? = some oi)
  (hs:Region.noSelect ops=true) (hf:Region.free md ops listed i=true) (hr:(Region.ready md ops listed).contains i=true) (hw:(decide (i ≠ n) && waitsB md ops n i)=true)
  (hQ:∀ c a w,Q (.panic c) (a.put oi.dst v) w->Q (.panic c) a w) (hy:YieldsIf P ops S oi v a) (hS:S w)
  (h:wpAnyK P md ops Q S n fuel (listed.setIfInBounds i true) (a.put oi.dst v) w):wpAnyK P md ops Q S n (fuel+1) listed a w:=by
 rw[Bool.and_eq_true,decide_eq_true_eq] at hw;exact wpAnyK_first hi (Region.noSelect_spec hs) hw.1 hw.2 hQ fuel listed a w (Region.free_spec hi hf) (by simpa using hr) hy hS h
theorem wpAnyK_step {i:Nat}{o:Oper}{fuel:Nat}{listed:Array Bool}{a:Act}{w:World}(ho:ops[i]? = some o)(hr:Region.ready md ops listed=[i])
  (h:∀ K':Act->World->Prop,Shut (∀ a w,(i ≠ n->S w)->((i ≠ n->S w)->wpAnyK P md ops Q S n fuel (listed.setIfInBounds i true) a w)->K' a w)->if Region.wanted o (yielded ops a.tmps)=true then Oper.wp P o a w K' Q else K' (a.put o.dst undef) w) :
  wpAnyK P md ops Q S n (fuel+1) listed a w:=by
 refine⟨fun h0=>absurd (hr ▸ h0) (by simp),fun j hj=>?_⟩;rw[hr] at hj;have hj':=List.mem_singleton.1 hj;subst hj';exact wpOp_step ho (fun K' hK=>h K' (fun a w hS hW=>hK a w ⟨hS,hW hS⟩))
theorem wpAnyK_done {listed:Array Bool}{a:Act}{w:World}(hr:Region.ready md ops listed=[])(h:Q .normal a w):∀ fuel,wpAnyK P md ops Q S n fuel listed a w
 | 0=>⟨hr,h⟩
 | _+1=>⟨fun _=>h,by rw[hr];simp⟩
theorem wp_region_K {id:Nat}{a:Act}{w:World}(hm:P.follows .mixedOrders=true)(hS:S w.drew)
  (h:S w.drew->wpAnyK P .any ops Q S n ops.size (Array.replicate ops.size false) a w.drew):(Code.region id ops true).wp P Q a w :=
 wp_region_any hm (wpAny_of_K _ _ _ _ (h hS))
end
theorem q1 (l:List Value)(i:Nat)(v:Value):l.toArray.setIfInBounds i v=(l.set i v).toArray:=List.setIfInBounds_toArray ..
theorem q2 (a v:Value)(l:List Value):(a::l).set 0 v=v::l:=rfl
theorem q3 (a v:Value)(l:List Value)(n:Nat):(a::l).set (n+1) v=a::l.set n v:=rfl
section
variable {P:Program} {ops:Array Oper} {Q:Exit->Act->World->Prop} {md:Region.Mode} {S:World->Prop}
theorem kT (n i:Nat){oi:Oper}(v:Value){fuel:Nat}{listed:Array Bool}{a:Act}{w:World}(hi:ops[i]? = some oi)
  (hb:(Region.noSelect ops && Region.free md ops listed i && (Region.ready md ops listed).contains i && (decide (i ≠ n) && waitsB md ops n i))=true)
  (hQ:∀ c a w,Q (.panic c) (a.put oi.dst v) w->Q (.panic c) a w) (hy:YieldsIf P ops S oi v a) (hS:S w)
  (h:wpAnyK P md ops Q S n fuel (listed.setIfInBounds i true) (a.put oi.dst v) w):wpAnyK P md ops Q S n (fuel+1) listed a w:=by
 rw[Bool.and_eq_true,Bool.and_eq_true,Bool.and_eq_true] at hb;exact wpAnyK_take hi hb.1.1.1 hb.1.1.2 hb.1.2 hb.2 hQ hy hS h
theorem kU (n i:Nat){oi:Oper}{v:Value}{fuel:Nat}{listed:Array Bool}{a:Act}{w:World}(hi:ops[i]? = some oi)(hS:S w)
  (h:wpAnyK P md ops Q S n fuel (listed.setIfInBounds i true) (a.put oi.dst v) w)
  (hb:(Region.noSelect ops && Region.free md ops listed i && (Region.ready md ops listed).contains i && (decide (i ≠ n) && waitsB md ops n i))=true:=by kernel_rfl)
  (hQ:∀ c a w,Q (.panic c) (a.put oi.dst v) w->Q (.panic c) a w:=by exact fun _ _ _ h=>h)
  (hy:YieldsIf P ops S oi v a:=by exact Or.inl ⟨by rfl,by(intro w' hSw;(try dsimp only at hSw);go_simp <;> with_reducible rfl)⟩):wpAnyK P md ops Q S n (fuel+1) listed a w:=by
 rw[Bool.and_eq_true,Bool.and_eq_true,Bool.and_eq_true] at hb;exact wpAnyK_take hi hb.1.1.1 hb.1.1.2 hb.1.2 hb.2 hQ hy hS h
end
end Go.Proofs.YtjaeedbjknejdaaGreatDoor.Nm

namespace Go.Proofs.YtjaeedbjknejdaaGreatDoor.Ex
open Go.RowKit Go.Sort Go.Lib Go.Shelf Fx Lx Tr At Go.Proofs.YtjaeedbjknejdaaGreatDoor.Nm
theorem cells7w {w:World}{g:Nat}{T:TypeId}{c0 c1 c2 c3 c4 c5 c6:Value}(h:w.heap[g]? = some (.cells #[c0,c1,c2,c3,c4,c5,c6] T (0,0))):
  w.cell? ⟨g,0,none⟩=some c0/\w.cell? ⟨g,1,none⟩=some c1/\w.cell? ⟨g,2,none⟩=some c2/\w.cell? ⟨g,3,none⟩=some c3/\w.cell? ⟨g,4,none⟩=some c4/\w.cell? ⟨g,5,none⟩=some c5/\w.cell? ⟨g,6,none⟩=some c6:=by
 refine⟨?_,?_,?_,?_,?_,?_,?_⟩ <;> (rw[Lib.cell_of_heap h];rfl)
theorem quiet_h {P:Program}{f:FuncId}{args:Array Value}{w:World}{n:Nat}{v:Value}(h:Calls P f args (w.drewN n) fun e w'=>e=.returned v/\w'=w.drewN n):Calls P f args (w.drewN n) fun e w'=>e=.returned v/\∃ m,w'=w.drewN m :=
 h.mono fun _ _ ⟨he,hm⟩=>⟨he,n,hm⟩
theorem mem_lt {g:Gr}{c:Int}{n:Nat}(h:(memT g c).contains n=true):n < g.N.length:=by
 have h1:=List.contains_iff_mem.1 h;unfold memT at h1;exact List.mem_range.1 (List.mem_filter.1 h1).1
theorem memI_has (g:Gr)(c:Int)(n:Nat):(memI g c g.N.length).contains (n:Int)=(memT g c).contains n:=by
 rw[memI_all];apply Bool.eq_iff_iff.2;rw[List.contains_iff_mem,List.contains_iff_mem,List.mem_map];constructor
 ·rintro⟨a,ha,hb⟩;have:a=n:=by omega
  rwa [<-this]
 intro h;exact⟨n,h,rfl⟩
theorem ready_at {g:Gr}{p:Int}{n k:Nat}(h:k < g.C.length)(hp:g.C[k].2=p):readyT g p n k=((memT g k).isEmpty || (memT g k).contains n):=by
 unfold readyT;rw[List.getElem?_eq_getElem h];dsimp only;rw[decide_eq_true hp];rfl
theorem ready_no {g:Gr}{p:Int}{n k:Nat}(h:k < g.C.length)(hp:g.C[k].2 ≠ p):readyT g p n k=false:=by
 unfold readyT;rw[List.getElem?_eq_getElem h];dsimp only;rw[decide_eq_false hp];rfl
theorem ready_out {g:Gr}{p:Int}{n k:Nat}(h:¬ k < g.C.length):readyT g p n k=false:=by
 unfold readyT;rw[List.getElem?_eq_none (by omega)]
theorem ready_any (g:Gr)(na ea ca:Option Addr)(nac eac cac n k wb:Nat)(p:Int)(w:World)(ha:GrIn w (.agg #[.string g.name,.bool g.dir,.slice na g.N.length nac,.slice ea g.E.length eac,.slice ca g.C.length cac]) g)(hcp:GrCp w (.agg #[.string g.name,.bool g.dir,.slice na g.N.length nac,.slice ea g.E.length eac,.slice ca g.C.length cac]) g)(hsm:GrSm g)(hg0:grE g=0)
  (hb:w.heap[wb]? = some (.cells #[.string g.name,.bool g.dir,.slice na g.N.length nac,.slice ea g.E.length eac,.slice ca g.C.length cac,.int .i64 n,.int .i64 k] 74 (0,0))) (hk:k<=g.C.length) (hn:n<=g.N.length) :
  Calls Tryz.prog 65 #[.pointer (some ⟨wb,0,none⟩),.int .i64 p] w fun e w'=>e=.returned (.bool (readyT g p n k))/\Ext w w':=by
 have hok:=gr_ok hg0;have hnl:=hok.nl;have hcl:=hok.cl;obtain⟨b0,b1,b2,b3,b4,b5,b6⟩:=cells7w hb;have hme:=fun(h:k < g.C.length) (w5:World) (x:Ext w w5)=>members_any g _ k w5 (ha.ext x) (hcp.ext ha x) hsm hg0 h
 have hml:(memT g k).length=(memI g k g.N.length).length:=by rw[memI_all,List.length_map]
 have hmb:=memI_len g k g.N.length;have hem:(memT g k).isEmpty=decide ((memI g k g.N.length).length=0):=by rw[<-hml];cases memT g k <;> simp
 have hhas:=memI_has g k n;have hlt:=fun h=>@mem_lt g k n h
 rw[<-hhas] at hlt;obtain⟨R,hR⟩:∃ R,R=readyT g p n k:=⟨_,rfl⟩;rw[<-hR];obtain⟨q,hq⟩:∃ n,n=g.N.length:=⟨_,rfl⟩;obtain⟨el,hel⟩:∃ n,n=g.E.length:=⟨_,rfl⟩;obtain⟨cl,hcle⟩:∃ n,n=g.C.length:=⟨_,rfl⟩;by_cases hkl:k < g.C.length
 ·obtain⟨na',nac',ea',eac',ca',cac',hv,-,-,a3⟩:=ha;cases hv;obtain⟨gc,oc,rfl,k0,k1⟩:=a3 k hkl;rw[hml] at hme;by_cases hpp:g.C[k].2=p
  ·rw[ready_at hkl hpp,hem,<- hhas] at hR;rw[hpp] at k1;obtain⟨Z,hZ⟩:∃ Z,Z=memI g k g.N.length:=⟨_,rfl⟩;rw[<-hZ] at hR hme hmb hlt;have hzl:Z.length<=1000000000:=by omega
   have hmc:=hme hkl;simp only[<-hq,<- hel,<- hcle] at hmc b2 b3 b4;rw[<-hq] at hn hlt hnl;rw[<-hcle] at hkl;have HMC:=hid hmc;have HR:=hid hR;have HZL:=hid hzl;have HB:=hid hb;have HLT:=hid hlt;have HQ:=hid hq.symm;have HEL:=hid hel.symm;have HCL:=hid hcle.symm;have f1:((k:Int) == (cl:Int))=false:=by rw[beq_eq_false_iff_ne];omega
   have f2:(p != p)=false:=by simp
   have d0:(0:Int)<=(k:Int):=by omega
   have d1:(k:Int) < (cl:Int):=by omega
   clear hem hhas hml hZ hpp hme hmc hR hcp hsm hg0 hok a3 k0 hb hk hcl hq hel hcle hlt hzl hmb;go_enter Tryz.func65,Tryz.ntmps65;go_wp2_with fail
   go_quiet (fail)
   obtain⟨w9,hw9⟩:∃ w9,w9=w.drewN nq:=⟨_,rfl⟩;have X9:Hid (Ext w w9):=hid (by rw[hw9];exact(Ext.refl w).drewN _);rw[<-hw9];clear hw9;obtain⟨c0,c1,c2,c3,c4,c5,c6⟩:=cells7w (At.heap_ext HB.out X9.out);rw[show g.N.length=q from HQ.out] at c2;rw[show g.E.length=el from HEL.out] at c3;rw[show g.C.length=cl from HCL.out] at c4;clear b0 b1 b2 b3 b4 b5 b6 k1;go_wp2_with fail
   refine wp_region_K (S:=fun w'=>w'.cell? ⟨wb,0,none⟩=some (.string g.name)/\w'.cell? ⟨wb,1,none⟩=some (.bool g.dir)/\w'.cell? ⟨wb,2,none⟩=some (.slice na q nac)/\w'.cell? ⟨wb,3,none⟩=some (.slice ea el eac)/\w'.cell? ⟨wb,4,none⟩=some (.slice (some ⟨gc,oc,none⟩) cl cac)/\w'.cell? ⟨wb,5,none⟩=some (.int .i64 n)/\w'.cell? ⟨wb,6,none⟩=some (.int .i64 k)) (n:=9) (by kernel_rfl) (by exact⟨Ext.cell ((Ext.refl w9).drew) c0,Ext.cell ((Ext.refl w9).drew) c1,Ext.cell ((Ext.refl w9).drew) c2,Ext.cell ((Ext.refl w9).drew) c3,Ext.cell ((Ext.refl w9).drew) c4,Ext.cell ((Ext.refl w9).drew) c5,Ext.cell ((Ext.refl w9).drew) c6⟩) (fun hHeld=>?_);refine kU 9 0 rfl hHeld ?_
   (try simp only[Act.put,q1,q2,q3])
   refine kU 9 1 rfl hHeld ?_
   (try simp only[Act.put,q1,q2,q3])
   refine kU 9 2 rfl hHeld ?_
   (try simp only[Act.put,q1,q2,q3])
   refine kU 9 3 rfl hHeld ?_
   (try simp only[Act.put,q1,q2,q3])
   refine kU 9 4 rfl hHeld ?_
   (try simp only[Act.put,q1,q2,q3])
   refine kU 9 5 rfl hHeld ?_
   (try simp only[Act.put,q1,q2,q3])
   refine kU 9 6 rfl hHeld ?_
   (try simp only[Act.put,q1,q2,q3])
   refine kU 9 7 rfl hHeld ?_
   (try simp only[Act.put,q1,q2,q3])
   refine wpAnyK_step (o:=_) (i:=8) rfl (by kernel_rfl) (fun KK hKK=>?_);go_simp
   (go_at_call 131;refine Calls.mono (by with_reducible exact HMC.out _ X9.out.drew) ?_;rintro e w3 ⟨⟨v3,rfl,hv3⟩,x3⟩;have HV3:=hid hv3;have X3:Hid (Ext w9 w3):=hid ((Ext.refl w9).drew.trans x3);clear hv3 x3)
   refine hKK.out _ _ (fun _=>?_) (fun hH=>?_)
   ·(exact⟨Ext.cell (X3.out) c0,Ext.cell (X3.out) c1,Ext.cell (X3.out) c2,Ext.cell (X3.out) c3,Ext.cell (X3.out) c4,Ext.cell (X3.out) c5,Ext.cell (X3.out) c6⟩)
   clear hHeld;have hHeld:=hH (by decide);clear hKK KK hH;(try dsimp only at hHeld)
   (try simp only[Act.put,q1,q2,q3])
   refine wpAnyK_step (o:=_) (i:=9) rfl (by kernel_rfl) (fun KK hKK=>?_);go_simp;refine hKK.out _ _ (fun h=>absurd rfl h) (fun _=>?_);clear hKK KK
   (try simp only[Act.put,q1,q2,q3])
   refine wpAnyK_done (by kernel_rfl) ?_ _;have XW3:=hid (X9.out.trans X3.out);obtain⟨e0,e1,e2,e3,e4,e5,e6⟩:=cells7w (At.heap_ext HB.out XW3.out);rw[show g.N.length=q from HQ.out] at e2;rcases own_ints HV3.out with⟨hz,av,cv,hv⟩ | ⟨gv,cv,hv,hcv⟩
   ·subst hv;have hr:Hid (R=true):=hid (by rw[HR.out,hz];rfl);clear hz;go_wp2_with fail
    go_quiet (fail)
    go_wp2;go_ret;exact⟨by rw[hr.out];rfl,XW3.out.drewN _⟩
   by_cases hz:Z.length=0
   ·have hr:Hid (R=true):=hid (by rw[HR.out,hz];rfl);have hz':((Z.length:Int) == 0)=true:=by rw[hz];rfl
    obtain⟨zl,hzl2⟩:∃ z,z=Z.length:=⟨_,rfl⟩;rw[<-hzl2] at hv hz' hz;subst hv;subst hz;clear hcv hzl2;go_wp2_with fail
    go_quiet (fail)
    go_wp2;go_ret;exact⟨by rw[hr.out];rfl,XW3.out.drewN _⟩
   have hcon:=fun(m:Nat)=>has_any Z v3 (n:Int) w9.drew.heap.size 3 (w3.drewN m) (At.own_ext HV3.out ((Ext.refl w3).drewN m)) HZL.out
   obtain⟨zl,hzl2⟩:∃ z,z=Z.length:=⟨_,rfl⟩;rw[<-hzl2] at hv hz;subst hv;have hzi:((zl:Int) == 0)=false:=by rw[beq_eq_false_iff_ne];omega
   by_cases hnq:n < q
   ·have hr:Hid (R=Z.contains (n:Int)):=hid (by rw[HR.out,<- hzl2,decide_eq_false hz];rfl);have hq1:decide ((n:Int) < (q:Int))=true:=decide_eq_true (by omega);have hq2:decide (n < q)=true:=decide_eq_true hnq;obtain⟨cb,hcb⟩:∃ b,b=Z.contains (n:Int):=⟨_,rfl⟩;rw[<-hcb] at hr;simp only[<-hcb] at hcon;have HCO:=hid hcon;clear hcon hcv hzl2 hcb hz;go_wp2_with fail
    go_quiet ((go_at_call 132;exact quiet_h (HCO.out _)))
    go_wp2;go_ret;exact⟨by rw[hr.out];rfl,XW3.out.drewN _⟩
   have hr:Hid (R=false):=hid (by
    rw[HR.out,<- hzl2,decide_eq_false hz,Bool.false_or];cases h:Z.contains (n:Int) with
    | false=>rfl
    | true=>exact absurd (HLT.out h) hnq)
   have hq1:decide ((n:Int) < (q:Int))=false:=decide_eq_false (by omega);have hq2:decide (n < q)=false:=decide_eq_false hnq;clear hcon hcv hzl2 hz;go_wp2_with fail
   go_quiet (fail)
   go_wp2;go_ret;exact⟨by rw[hr.out];rfl,XW3.out.drewN _⟩
  rw[ready_no hkl hpp] at hR;have hr:=hid hR;have f1:((k:Int) == (cl:Int))=false:=by rw[beq_eq_false_iff_ne];omega
  have f2:(g.C[k].2 != p)=true:=(nfacts hpp).2;obtain⟨pk,hpk⟩:∃ x,x=g.C[k].2:=⟨_,rfl⟩;rw[<-hpk] at f2 k1;rw[<-hq] at b2;rw[<-hcle] at b4 hkl;rw[<-hel] at b3;have d0:(0:Int)<=(k:Int):=by omega
  have d1:(k:Int) < (cl:Int):=by omega
  clear hem hhas hml hme hmb hlt hR hcp hsm hg0 hok a3 k0 hb hk hcl hq hel hcle hpp hpk hn hnl;go_enter Tryz.func65,Tryz.ntmps65;go_wp2_with fail
  go_quiet (fail)
  go_wp2;go_ret;exact⟨by rw[hr.out];rfl,(Ext.refl w).drewN _⟩
 rw[ready_out hkl] at hR;have hr:=hid hR;have f1:((k:Int) == (cl:Int))=true:=by rw[show(k:Int)=(cl:Int) by omega];simp
 rw[<-hq] at b2;rw[<-hcle] at b4;rw[<-hel] at b3;clear hem hhas hml hme hmb hlt hR hcp hsm hg0 hok hb hk hcl hq hel hcle hkl hn hnl;go_enter Tryz.func65,Tryz.ntmps65;go_wp2_with fail
 go_quiet (fail)
 go_wp2;go_ret;exact⟨by rw[hr.out];rfl,(Ext.refl w).drewN _⟩
end Go.Proofs.YtjaeedbjknejdaaGreatDoor.Ex

namespace Go.Proofs.YtjaeedbjknejdaaGreatDoor.Ex
open Go.RowKit Go.Sort Go.Lib Go.Shelf Fx Lx Tr At Pa Go.Proofs.YtjaeedbjknejdaaGreatDoor.Nm
theorem strB (a b:ByteArray):(a.toList == b.toList)=decide (a=b):=At.beqs a b
theorem portB (s:ByteArray)(z:Int):s++⟨#[32]⟩++sideT z=⟨(portTx (s,z)).toArray⟩:=by
 unfold portTx;apply ByteArray.ext;apply Array.ext';simp[ByteArray.data_append]
theorem add_run (a b:ByteArray)(h:a.size+b.size<=140737488355328):∀ w,(Op.stringOp .add a b).run Tryz.prog w=.ok (.string (a++b)) w:=fun w=>run_string_add_sum w _ _ (Nat.le_trans h (by decide))
theorem new2 (w:World)(o:Obj)(cs:Array Value){T:TypeId}{k:Nat}(h:k=(w.alloc o).heap.size):((w.alloc o).alloc (.cells cs T)).heap[k]? = some (.cells cs T (0,0)):=by
 subst h;exact heap_alloc_new _ _
theorem side_le (z:Int):(sideT z).size<=6:=by
 unfold sideT;split
 ·decide
 split
 ·decide
 split <;> decide
theorem joinTail_le (sep:List UInt8)(m:Nat):∀ (r:List (List UInt8)),(∀ x ∈ r,x.length<=m)->(Lib.joinTail sep r).length<=r.length * (m+sep.length)
 | [],_=>by simp[Lib.joinTail]
 | x::r,h=>by
  have ih:=joinTail_le sep m r (fun y hy=>h y (List.mem_cons_of_mem _ hy));have h1:=h x (List.mem_cons_self ..);unfold Lib.joinTail at ih ⊢;rw[List.map_cons,List.flatten_cons,List.length_append,List.length_append,List.length_cons,Nat.succ_mul];omega
theorem join_le (L:List (List UInt8))(sep:List UInt8)(m:Nat)(h:∀ x ∈ L,x.length<=m):(Lib.join L sep).length<=L.length * (m+sep.length):=by
 cases L with
 | nil=>simp[Lib.join_nil]
 | cons x r =>
  rw[Lib.join_cons,List.length_append,List.length_cons,Nat.succ_mul];have:=joinTail_le sep m r (fun y hy=>h y (List.mem_cons_of_mem _ hy));have h1:=h x (List.mem_cons_self ..);omega
theorem map_map_toList (L:List (List UInt8)):(L.map fun l=>(⟨l.toArray⟩:ByteArray)).map (·.data.toList)=L:=by
 rw[List.map_map]
 conv=>rhs;rw[<-List.map_id L]
 exact List.map_congr_left fun x _=>rfl
def strC (L:List (List UInt8)):List Value:=L.map fun l=>.string ⟨l.toArray⟩
theorem strC_snoc (L:List (List UInt8))(x:List UInt8):strC (L++[x])=strC L++[.string ⟨x.toArray⟩]:=by unfold strC;simp
theorem cells6b {w:World}{g:Nat}{T:TypeId}{c0 c1 c2 c3 c4 c5:Value}(h:w.heap[g]? = some (.cells #[c0,c1,c2,c3,c4,c5] T (0,0))):
  w.cell? ⟨g,0,none⟩=some c0/\w.cell? ⟨g,1,none⟩=some c1/\w.cell? ⟨g,2,none⟩=some c2/\w.cell? ⟨g,3,none⟩=some c3/\w.cell? ⟨g,4,none⟩=some c4/\w.cell? ⟨g,5,none⟩=some c5:=by
 refine⟨?_,?_,?_,?_,?_,?_⟩ <;> (rw[Lib.cell_of_heap h];rfl)
def AtO (B:Nat)(L:List Two)(v:Value)(w:World):Prop:=w.ownsRow B 69 2 v L.length (twosC L)
theorem ato_app {B g c:Nat}{L:List Two}{a b:ByteArray}{w:World}(h:w.ownsRow B 69 2 (.slice (some ⟨g,0,none⟩) (L.length+1) c) (L.length+1) (twosC L++[.string a,.string b])):AtO B (L++[(a,b)]) (.slice (some ⟨g,0,none⟩) (L.length+1) c) w:=by
 unfold AtO;rw[twosC_snoc,List.length_append];exact h
theorem nodeA_any (x:Nd)(p:Option Addr)(pc:Nat)(w:World)(hp:PrtIn w p x.ports)(hl:x.ports.length<=8)(hsd:∀ q ∈ x.ports,0<=q.2/\q.2<=3/\q.1.size<=1000)(hw:0<=x.w/\x.w<=1048576)(hh:0<=x.h/\x.h<=1048576)(he:Env w):
  Calls Tryz.prog 66 #[.agg #[.string x.name,.string x.label,.int .i64 x.w,.int .i64 x.h,.int .i64 x.c,.slice p x.ports.length pc]] w fun e w'=>(∃ v,e=.returned v/\AtO w.heap.size (nodeA x) v w')/\Ext w w':=by
 obtain⟨nm,lb,W,H,c,L⟩:=x;dsimp only at *;have hfw:=fun(w5:World) (y:Ext w w5)=>format_any W w5 (by omega) (by omega) (he.ext y).1
 have hfh:=fun(w5:World) (y:Ext w w5)=>format_any H w5 (by omega) (by omega) (he.ext y).1
 obtain⟨R,hR⟩:∃ R,R=nodeA ⟨nm,lb,W,H,c,L⟩:=⟨_,rfl⟩;rw[<-hR];unfold nodeA at hR;dsimp only at hR;obtain⟨L1,hL1⟩:∃ M,M=(if H=10000 then [] else [(kHeight,fmtB H)]:List Two):=⟨_,rfl⟩;obtain⟨L2,hL2⟩:∃ M,M=L1++(if lb=nm then [] else [(kLabel,lb)]:List Two):=⟨_,rfl⟩;obtain⟨L3,hL3⟩:∃ M,M=L2++(if L=[] then [] else [(kPorts,portsTx L)]:List Two):=⟨_,rfl⟩;rw[<-hL1,<- hL2,<- hL3] at hR;have c1:L1.length<=1:=by rw[hL1];split <;> simp
 have c2:L2.length<=2:=by rw[hL2];split <;> simp <;> omega
 have c3:L3.length<=3:=by rw[hL3];split <;> simp <;> omega
 obtain⟨PL,hPL⟩:∃ n,n=L.length:=⟨_,rfl⟩;rw[<-hPL] at hl;rw[<-hPL];have HP:=hid hp;have HSD:=hid hsd;have HFW:=hid hfw;have HFH:=hid hfh;have HR:=hid hR;have H1:=hid hL1;have H2:=hid hL2;have H3:=hid hL3;have HPL:=hid hPL;obtain⟨j0,hj0,hjz0,hjz1,hjz2⟩:=info_parts info_atr;obtain⟨i0,hi0,hz0,hz1,hz2⟩:=info_parts Tr.info_str;clear hp hsd hfw hfh hR hL1 hL2 hL3 hPL hw hh he;go_enter Tryz.func66,Tryz.ntmps66
 go_upto_if 9 with(fail)
 obtain⟨w1,hw1⟩:∃ w1,w1=w.alloc (.cells #[.string nm,.string lb,.int .i64 W,.int .i64 H,.int .i64 c,.slice p PL pc] 59):=⟨_,rfl⟩;obtain⟨gb,hgb⟩:∃ g,g=w.heap.size:=⟨_,rfl⟩;have X1:Hid (Ext w w1):=hid (by rw[hw1];exact(Ext.refl _).alloc _);have B1:Hid (w1.heap[gb]? = some (.cells #[.string nm,.string lb,.int .i64 W,.int .i64 H,.int .i64 c,.slice p PL pc] 59 (0,0))):=hid (by rw[hw1,hgb];exact heap_alloc_new _ _);have hsz:gb<=w1.heap.size:=by rw[hgb];exact X1.out.size
 rw[<-hw1,<- hgb];clear hw1 hgb;obtain⟨nb,hnb⟩:∃ n,n=w1.heap.size:=⟨_,rfl⟩;have HNB:=hid hnb;have c0:([]:List Two).length=0:=rfl;obtain⟨v0,hv0⟩:∃ v:Value,v=.slice none 0 0:=⟨_,rfl⟩;have HO:Hid (AtO nb [] v0 w1):=hid (by rw[hv0];exact World.ownsRow_nil _ _ _ _);have HX:Hid (Ext w1 w1):=hid (Ext.refl _);rw[<-hv0];clear hv0 hnb;obtain⟨wc,hwc⟩:∃ w:World,w=w1:=⟨_,rfl⟩
 go_cut [3] from 7 to 68 (fun o wx=>∃ v,v=o/\Hid (AtO nb L1 v wx)/\Hid (Ext w1 wx))
 case first =>
  obtain⟨b0,b1,b2,b3,b4,b5⟩:=cells6b (At.heap_ext B1.out HX.out);by_cases hc:H=10000
  ·have f1:(H != 10000)=false:=by rw[hc];rfl
   have hl1:L1=[]:=by rw[H1.out,if_pos hc]
   have HL:=hid hl1;clear hc hl1;go_wp2_with fail
   go_meet
   exact⟨_,rfl,hid (by rw[HL.out];exact HO.out),HX⟩
  have f1:(H != 10000)=true:=(nfacts hc).2;have hl1:L1=[]++[(kHeight,(fmtB H))]:=by rw[H1.out,if_neg hc];rfl
  have HL:=hid hl1;clear hc hl1
  go_wp2_with (first
   | (go_at_call 63;refine Calls.mono (by with_reducible exact HFH.out _ (X1.out.trans HX.out)) ?_;rintro e w3 ⟨rfl,x3⟩;have X3:=hid x3;clear x3)
   | (at_builtin;refine wpList_append_lies _ rfl _ _ 65 rfl nb 69 j0 _ 2 32 Tryz.underlying65 hj0 hjz0 hjz1 hjz2 rfl (by decide) _ _ _ rfl (At.own_ext HO.out (X3.out.alloc _)) ⟨w3.heap.size,0,none⟩ 1 1 [.string kHeight,.string (fmtB H)] rfl rfl ?c1 ?c2 (by decide) ?c3 ?c4 ?c5 _ rfl ?_))
  case c1=>exact World.news_of_block (cs:=#[.string kHeight,.string (fmtB H)]) (t:=69) (fr:=(0,0)) (heap_alloc_new w3 _)
  case c2=>intro u hu;simp at hu;rcases hu with rfl | rfl <;> rfl
  case c3=>unfold maxLen;omega
  case c4=>omega
  case c5=>have:=HX.out.size;have:=X3.out.size;have:=HNB.out;simp;omega
  intro g7 c7 w7 hown7 hgrow7 _ _;have X7:=hid (show Ext w1 w7 from Below.grown ((HX.out.trans X3.out).alloc _) hgrow7 (by have:=HX.out.size;have:=X3.out.size;have:=HNB.out;simp;omega) (fun q hq=>by have:=(HO.out.lt q hq).1;have:=HNB.out;omega));have HO7:=hid (show AtO nb L1 _ w7 by rw[HL.out];exact ato_app hown7);clear hown7 hgrow7;go_wp2
  go_meet
  exact⟨_,rfl,HO7,X7⟩
 case rest =>
 clear HO HX;obtain⟨v0,rfl,HO,HX⟩:=hcut;obtain⟨b0,b1,b2,b3,b4,b5⟩:=cells6b (At.heap_ext B1.out HX.out)
 go_upto_if 21 with(fail)
 generalize hbb:(!(lb.toList == nm.toList))=bb
 go_cut [3] from 7 to 68 (fun o wx=>∃ v,v=o/\Hid (AtO nb L2 v wx)/\Hid (Ext w1 wx))
 case first =>
  obtain⟨b0,b1,b2,b3,b4,b5⟩:=cells6b (At.heap_ext B1.out HX.out);by_cases hc:lb=nm
  ·have f2:bb=false:=by rw[<-hbb,strB,decide_eq_true hc];rfl
   subst f2;clear hbb;have hl1:L2=L1:=by rw[H2.out,if_pos hc];simp
   have HL:=hid hl1;clear hc hl1;go_wp2_with fail
   go_meet
   exact⟨_,rfl,hid (by rw[HL.out];exact HO.out),HX⟩
  have f2:bb=true:=by rw[<-hbb,strB,decide_eq_false hc];rfl
  subst f2;clear hbb;have hl1:L2=L1++[(kLabel,lb)]:=by rw[H2.out,if_neg hc]
  have HL:=hid hl1;clear hc hl1;go_wp2_with (at_builtin;refine wpList_append_lies _ rfl _ _ 65 rfl nb 69 j0 _ 2 32 Tryz.underlying65 hj0 hjz0 hjz1 hjz2 rfl (by decide) _ _ _ rfl (At.own_ext HO.out ((Ext.refl wc).alloc _)) ⟨wc.heap.size,0,none⟩ 1 1 [.string kLabel,.string lb] rfl rfl ?c1 ?c2 (by decide) ?c3 ?c4 ?c5 _ rfl ?_)
  case c1=>exact World.news_of_block (cs:=#[.string kLabel,.string lb]) (t:=69) (fr:=(0,0)) (heap_alloc_new wc _)
  case c2=>intro u hu;simp at hu;rcases hu with rfl | rfl <;> rfl
  case c3=>unfold maxLen;omega
  case c4=>omega
  case c5=>have:=HX.out.size;have:=(Ext.refl wc).size;have:=HNB.out;simp;omega
  intro g7 c7 w7 hown7 hgrow7 _ _;have X7:=hid (show Ext w1 w7 from Below.grown ((HX.out.trans (Ext.refl wc)).alloc _) hgrow7 (by have:=HX.out.size;have:=(Ext.refl wc).size;have:=HNB.out;simp;omega) (fun q hq=>by have:=(HO.out.lt q hq).1;have:=HNB.out;omega));have HO7:=hid (show AtO nb L2 _ w7 by rw[HL.out];exact ato_app hown7);clear hown7 hgrow7;go_wp2
  go_meet
  exact⟨_,rfl,HO7,X7⟩
 case rest =>
 clear HO HX hbb bb;obtain⟨v0,rfl,HO,HX⟩:=hcut;obtain⟨b0,b1,b2,b3,b4,b5⟩:=cells6b (At.heap_ext B1.out HX.out)
 go_upto_if 31 with(fail)
 generalize hbb:decide (0 < PL)=bb
 go_cut [3] from 7 to 68 (fun o wx=>∃ v,v=o/\Hid (AtO nb L3 v wx)/\Hid (Ext w1 wx))
 case first =>
  obtain⟨b0,b1,b2,b3,b4,b5⟩:=cells6b (At.heap_ext B1.out HX.out);by_cases hc:L=[]
  ·have f0:PL=0:=by rw[HPL.out,hc];rfl
   have f1:bb=false:=by rw[<-hbb];exact decide_eq_false (by omega)
   subst f1;clear hbb;have hl1:L3=L2:=by rw[H3.out,if_pos hc];simp
   have HL:=hid hl1;clear hc hl1 f0;go_wp2_with fail
   go_meet
   exact⟨_,rfl,hid (by rw[HL.out];exact HO.out),HX⟩
  have f0:0 < PL:=by rw[HPL.out];exact List.length_pos_iff.2 hc
  have f1:bb=true:=by rw[<-hbb];exact decide_eq_true f0
  subst f1;clear hbb;have hl1:L3=L2++[(kPorts,(portsTx L))]:=by rw[H3.out,if_neg hc]
  have HL:=hid hl1;clear hc hl1;obtain⟨nw,hnw⟩:∃ n,n=wc.heap.size:=⟨_,rfl⟩;have HNW:=hid hnw;clear hnw;go_wp2_with fail
  go_loopw [4,35] (fun o' i' wr=>∃ (i:Nat) (ov:Value),ov=o'/\i<=PL/\i'=.int .i64 i/\Hid (wr.ownsRow nw 9 1 ov i (strC ((L.take i).map portTx)))/\Hid (Ext wc wr)) (fun _ i' _=>PL - (RowKit.intOf i').toNat)
  case atStart=>exact⟨0,_,rfl,Nat.zero_le _,rfl,hid (World.ownsRow_nil _ _ _ _),hid (Ext.refl _)⟩
  clear b0 b1 b2 b3 b4 b5;obtain⟨i,ov,rfl,hi,rfl,hown,hx⟩:=hrel;have hnl:=HX.out.size;have hnl2:=hx.out.size;by_cases hlt:i < PL
  ·have hin:i < L.length:=by rw[<-HPL.out];exact hlt
   obtain⟨g1,o1,rfl,n0,n1⟩:=(HP.out.ext (X1.out.trans (HX.out.trans hx.out))) i hin;obtain⟨s1,s2,s3⟩:=HSD.out _ (List.getElem_mem hin);have htk:(L.take (i+1)).map portTx=(L.take i).map portTx++[portTx L[i]]:=by rw[List.take_succ_eq_append_getElem hin,List.map_append];rfl
   obtain⟨x,hxe⟩:∃ x,x=L[i]:=⟨_,rfl⟩;rw[<-hxe] at n0 n1 s1 s2 s3 htk;obtain⟨s,z⟩:=x;dsimp only at n0 n1 s1 s2 s3;have HTK:=hid htk;have c0':(0:Int)<=(i:Int):=by omega
   have c1':(i:Int) < (PL:Int):=by omega
   have hz:z=0\/z=1\/z=2\/z=3:=by omega
   have A1:∀ w,(Op.stringOp .add s ⟨#[32]⟩).run Tryz.prog w=.ok (.string (s++⟨#[32]⟩)) w:=add_run s ⟨#[32]⟩ (by show s.size+1<=_;omega);have A2:∀ (t:ByteArray),t.size<=10->∀ w,(Op.stringOp .add (s++⟨#[32]⟩) t).run Tryz.prog w=.ok (.string (s++⟨#[32]⟩++t)) w:=fun t ht=>add_run _ t (by rw[ByteArray.size_append];show s.size+1+_<=_;omega)
   have hpb:=portB s z;clear htk hxe hin s1 s2;go_wp2_with fail;obtain⟨gq,hgq⟩:∃ g,g=wr.heap.size:=⟨_,rfl⟩;obtain⟨wq,hwq⟩:∃ w2,w2=wr.alloc (.cells #[.string s,.int .i64 z] 167):=⟨_,rfl⟩;have XQ:Hid (Ext wr wq):=hid (by rw[hwq];exact(Ext.refl _).alloc _);have BQ:Hid (wq.heap[gq]? = some (.cells #[.string s,.int .i64 z] 167 (0,0))):=hid (by rw[hwq,hgq];exact heap_alloc_new _ _);have q0:wq.cell? ⟨gq,0,none⟩=some (.string s):=by rw[Lib.cell_of_heap BQ.out];rfl
   have q1:wq.cell? ⟨gq,1,none⟩=some (.int .i64 z):=by rw[Lib.cell_of_heap BQ.out];rfl
   rw[<-hwq,<- hgq];clear hwq hgq n0 n1;have HPB:=hid hpb;clear hpb;rcases hz with rfl | rfl | rfl | rfl
   ·have A3:=A2 ⟨#[116,111,112]⟩ (by decide);refine wp_region_K (S:=fun w'=>w'.cell? ⟨gq,0,none⟩=some (.string s)/\w'.cell? ⟨gq,1,none⟩=some (.int .i64 0)) (n:=12) (by kernel_rfl) (by exact⟨Ext.cell ((Ext.refl wq).drew) q0,Ext.cell ((Ext.refl wq).drew) q1⟩) (fun hHeld=>?_);refine kU 12 0 rfl hHeld ?_
    (try simp only[Act.put,q1,q2,q3])
    refine kU 12 1 rfl hHeld ?_
    (try simp only[Act.put,q1,q2,q3])
    refine kU 12 2 rfl hHeld ?_
    (try simp only[Act.put,q1,q2,q3])
    refine kU 12 3 rfl hHeld ?_
    (try simp only[Act.put,q1,q2,q3])
    refine kU 12 5 rfl hHeld ?_
    (try simp only[Act.put,q1,q2,q3])
    refine kU 12 6 rfl hHeld ?_
    (try simp only[Act.put,q1,q2,q3])
    refine wpAnyK_step (o:=_) (i:=4) rfl (by kernel_rfl) (fun KK hKK=>?_);go_simp;refine hKK.out _ _ (fun _=>?_) (fun hH=>?_)
    ·(exact⟨Ext.cell ((Ext.refl wq).drew.alloc _) q0,Ext.cell ((Ext.refl wq).drew.alloc _) q1⟩)
    clear hHeld;have hHeld:=hH (by decide);clear hKK KK hH;(try dsimp only at hHeld)
    (try simp only[Act.put,q1,q2,q3])
    refine kU 12 7 rfl hHeld ?_
    (try simp only[Act.put,q1,q2,q3])
    refine wpAnyK_step (o:=_) (i:=8) rfl (by kernel_rfl) (fun KK hKK=>?_);go_simp;refine hKK.out _ _ (fun _=>?_) (fun hH=>?_)
    ·(exact⟨Ext.cell ((Ext.refl wq).drew.alloc _) q0,Ext.cell ((Ext.refl wq).drew.alloc _) q1⟩)
    clear hHeld;have hHeld:=hH (by decide);clear hKK KK hH;(try dsimp only at hHeld)
    (try simp only[Act.put,q1,q2,q3])
    refine kU 12 9 rfl hHeld ?_
    (try simp only[Act.put,q1,q2,q3])
    refine wpAnyK_step (o:=_) (i:=10) rfl (by kernel_rfl) (fun KK hKK=>?_);go_simp;refine hKK.out _ _ (fun _=>?_) (fun hH=>?_)
    ·(exact⟨Ext.cell (((Ext.refl wq).drew.alloc _).alloc _) q0,Ext.cell (((Ext.refl wq).drew.alloc _).alloc _) q1⟩)
    clear hHeld;have hHeld:=hH (by decide);clear hKK KK hH;(try dsimp only at hHeld)
    (try simp only[Act.put,q1,q2,q3])
    refine wpAnyK_step (o:=_) (i:=11) rfl (by kernel_rfl) (fun KK hKK=>?_);refine step_append_lies _ (by rfl) _ _ 43 (by rfl) nw 9 i0 _ 1 16 Tryz.underlying43 hi0 hz0 hz1 hz2 rfl (by decide) _ _ _ (by rfl) (At.own_ext hown.out ((XQ.out.drew.alloc _).alloc _)) ⟨wq.heap.size+1,0,none⟩ 1 1 [.string (s++⟨#[32]⟩++⟨#[116,111,112]⟩)] (by rfl) (by rfl) (World.news_of_block (cs:=#[.string (s++⟨#[32]⟩++⟨#[116,111,112]⟩)]) (t:=9) (fr:=(0,0)) (new2 _ _ _ (by simp))) (by intro u hu;simp at hu;subst hu;rfl) (by omega) (by unfold maxLen;omega) (by omega) (by have:=XQ.out.size;have:=HNW.out;simp;omega) _ rfl ?_;intro g7 c7 w7 hown7 hgrow7 _ _;have X7:=hid (show Ext wc w7 from Below.grown (hx.out.trans ((XQ.out.drew.alloc _).alloc _)) hgrow7 (by have:=XQ.out.size;simp;omega) (fun q hq=>by have:=(hown.out.lt q hq).1;have:=HNW.out;omega))
    have B7:=cel_keep (At.heap_ext BQ.out (((Ext.refl wq).drew.alloc _).alloc _)) hgrow7 (row_ty (At.own_ext hown.out ((XQ.out.drew.alloc _).alloc _))) (nope (by decide));have HO7:=hid hown7;clear hown7 hgrow7;refine hKK.out _ _ (fun _=>?_) (fun hH=>?_)
    ·(exact⟨by rw[Lib.cell_of_heap B7];rfl,by rw[Lib.cell_of_heap B7];rfl⟩)
    clear hHeld;have hHeld:=hH (by decide);clear hKK KK hH;(try dsimp only at hHeld)
    (try simp only[Act.put,q1,q2,q3])
    refine wpAnyK_step (o:=_) (i:=12) rfl (by kernel_rfl) (fun KK hKK=>?_);go_simp;refine hKK.out _ _ (fun h=>absurd rfl h) (fun _=>?_);clear hKK KK
    (try simp only[Act.put,q1,q2,q3])
    refine wpAnyK_done (by kernel_rfl) ?_ _;go_wp2
    go_roundw
    case rel=>exact⟨i+1,_,rfl,by omega,by go_num,hid (by rw[HTK.out,strC_snoc];have h:=HO7.out;rw[show s++⟨#[32]⟩++⟨#[116,111,112]⟩=⟨(portTx (s,0)).toArray⟩ from HPB.out] at h;exact h),X7⟩
    case measure=>simp[RowKit.intOf];omega
   ·have A3:=A2 ⟨#[114,105,103,104,116]⟩ (by decide);refine wp_region_K (S:=fun w'=>w'.cell? ⟨gq,0,none⟩=some (.string s)/\w'.cell? ⟨gq,1,none⟩=some (.int .i64 1)) (n:=12) (by kernel_rfl) (by exact⟨Ext.cell ((Ext.refl wq).drew) q0,Ext.cell ((Ext.refl wq).drew) q1⟩) (fun hHeld=>?_);refine kU 12 0 rfl hHeld ?_
    (try simp only[Act.put,q1,q2,q3])
    refine kU 12 1 rfl hHeld ?_
    (try simp only[Act.put,q1,q2,q3])
    refine kU 12 2 rfl hHeld ?_
    (try simp only[Act.put,q1,q2,q3])
    refine kU 12 3 rfl hHeld ?_
    (try simp only[Act.put,q1,q2,q3])
    refine kU 12 5 rfl hHeld ?_
    (try simp only[Act.put,q1,q2,q3])
    refine kU 12 6 rfl hHeld ?_
    (try simp only[Act.put,q1,q2,q3])
    refine wpAnyK_step (o:=_) (i:=4) rfl (by kernel_rfl) (fun KK hKK=>?_);go_simp;refine hKK.out _ _ (fun _=>?_) (fun hH=>?_)
    ·(exact⟨Ext.cell ((Ext.refl wq).drew.alloc _) q0,Ext.cell ((Ext.refl wq).drew.alloc _) q1⟩)
    clear hHeld;have hHeld:=hH (by decide);clear hKK KK hH;(try dsimp only at hHeld)
    (try simp only[Act.put,q1,q2,q3])
    refine kU 12 7 rfl hHeld ?_
    (try simp only[Act.put,q1,q2,q3])
    refine wpAnyK_step (o:=_) (i:=8) rfl (by kernel_rfl) (fun KK hKK=>?_);go_simp;refine hKK.out _ _ (fun _=>?_) (fun hH=>?_)
    ·(exact⟨Ext.cell ((Ext.refl wq).drew.alloc _) q0,Ext.cell ((Ext.refl wq).drew.alloc _) q1⟩)
    clear hHeld;have hHeld:=hH (by decide);clear hKK KK hH;(try dsimp only at hHeld)
    (try simp only[Act.put,q1,q2,q3])
    refine kU 12 9 rfl hHeld ?_
    (try simp only[Act.put,q1,q2,q3])
    refine wpAnyK_step (o:=_) (i:=10) rfl (by kernel_rfl) (fun KK hKK=>?_);go_simp;refine hKK.out _ _ (fun _=>?_) (fun hH=>?_)
    ·(exact⟨Ext.cell (((Ext.refl wq).drew.alloc _).alloc _) q0,Ext.cell (((Ext.refl wq).drew.alloc _).alloc _) q1⟩)
    clear hHeld;have hHeld:=hH (by decide);clear hKK KK hH;(try dsimp only at hHeld)
    (try simp only[Act.put,q1,q2,q3])
    refine wpAnyK_step (o:=_) (i:=11) rfl (by kernel_rfl) (fun KK hKK=>?_);refine step_append_lies _ (by rfl) _ _ 43 (by rfl) nw 9 i0 _ 1 16 Tryz.underlying43 hi0 hz0 hz1 hz2 rfl (by decide) _ _ _ (by rfl) (At.own_ext hown.out ((XQ.out.drew.alloc _).alloc _)) ⟨wq.heap.size+1,0,none⟩ 1 1 [.string (s++⟨#[32]⟩++⟨#[114,105,103,104,116]⟩)] (by rfl) (by rfl) (World.news_of_block (cs:=#[.string (s++⟨#[32]⟩++⟨#[114,105,103,104,116]⟩)]) (t:=9) (fr:=(0,0)) (new2 _ _ _ (by simp))) (by intro u hu;simp at hu;subst hu;rfl) (by omega) (by unfold maxLen;omega) (by omega) (by have:=XQ.out.size;have:=HNW.out;simp;omega) _ rfl ?_;intro g7 c7 w7 hown7 hgrow7 _ _
    have X7:=hid (show Ext wc w7 from Below.grown (hx.out.trans ((XQ.out.drew.alloc _).alloc _)) hgrow7 (by have:=XQ.out.size;simp;omega) (fun q hq=>by have:=(hown.out.lt q hq).1;have:=HNW.out;omega));have B7:=cel_keep (At.heap_ext BQ.out (((Ext.refl wq).drew.alloc _).alloc _)) hgrow7 (row_ty (At.own_ext hown.out ((XQ.out.drew.alloc _).alloc _))) (nope (by decide));have HO7:=hid hown7;clear hown7 hgrow7;refine hKK.out _ _ (fun _=>?_) (fun hH=>?_)
    ·(exact⟨by rw[Lib.cell_of_heap B7];rfl,by rw[Lib.cell_of_heap B7];rfl⟩)
    clear hHeld;have hHeld:=hH (by decide);clear hKK KK hH;(try dsimp only at hHeld)
    (try simp only[Act.put,q1,q2,q3])
    refine wpAnyK_step (o:=_) (i:=12) rfl (by kernel_rfl) (fun KK hKK=>?_);go_simp;refine hKK.out _ _ (fun h=>absurd rfl h) (fun _=>?_);clear hKK KK
    (try simp only[Act.put,q1,q2,q3])
    refine wpAnyK_done (by kernel_rfl) ?_ _;go_wp2
    go_roundw
    case rel=>exact⟨i+1,_,rfl,by omega,by go_num,hid (by rw[HTK.out,strC_snoc];have h:=HO7.out;rw[show s++⟨#[32]⟩++⟨#[114,105,103,104,116]⟩=⟨(portTx (s,1)).toArray⟩ from HPB.out] at h;exact h),X7⟩
    case measure=>simp[RowKit.intOf];omega
   ·have A3:=A2 ⟨#[98,111,116,116,111,109]⟩ (by decide);refine wp_region_K (S:=fun w'=>w'.cell? ⟨gq,0,none⟩=some (.string s)/\w'.cell? ⟨gq,1,none⟩=some (.int .i64 2)) (n:=12) (by kernel_rfl) (by exact⟨Ext.cell ((Ext.refl wq).drew) q0,Ext.cell ((Ext.refl wq).drew) q1⟩) (fun hHeld=>?_);refine kU 12 0 rfl hHeld ?_
    (try simp only[Act.put,q1,q2,q3])
    refine kU 12 1 rfl hHeld ?_
    (try simp only[Act.put,q1,q2,q3])
    refine kU 12 2 rfl hHeld ?_
    (try simp only[Act.put,q1,q2,q3])
    refine kU 12 3 rfl hHeld ?_
    (try simp only[Act.put,q1,q2,q3])
    refine kU 12 5 rfl hHeld ?_
    (try simp only[Act.put,q1,q2,q3])
    refine kU 12 6 rfl hHeld ?_
    (try simp only[Act.put,q1,q2,q3])
    refine wpAnyK_step (o:=_) (i:=4) rfl (by kernel_rfl) (fun KK hKK=>?_);go_simp;refine hKK.out _ _ (fun _=>?_) (fun hH=>?_)
    ·(exact⟨Ext.cell ((Ext.refl wq).drew.alloc _) q0,Ext.cell ((Ext.refl wq).drew.alloc _) q1⟩)
    clear hHeld;have hHeld:=hH (by decide);clear hKK KK hH;(try dsimp only at hHeld)
    (try simp only[Act.put,q1,q2,q3])
    refine kU 12 7 rfl hHeld ?_
    (try simp only[Act.put,q1,q2,q3])
    refine wpAnyK_step (o:=_) (i:=8) rfl (by kernel_rfl) (fun KK hKK=>?_);go_simp;refine hKK.out _ _ (fun _=>?_) (fun hH=>?_)
    ·(exact⟨Ext.cell ((Ext.refl wq).drew.alloc _) q0,Ext.cell ((Ext.refl wq).drew.alloc _) q1⟩)
    clear hHeld;have hHeld:=hH (by decide);clear hKK KK hH;(try dsimp only at hHeld)
    (try simp only[Act.put,q1,q2,q3])
    refine kU 12 9 rfl hHeld ?_
    (try simp only[Act.put,q1,q2,q3])
    refine wpAnyK_step (o:=_) (i:=10) rfl (by kernel_rfl) (fun KK hKK=>?_);go_simp;refine hKK.out _ _ (fun _=>?_) (fun hH=>?_)
    ·(exact⟨Ext.cell (((Ext.refl wq).drew.alloc _).alloc _) q0,Ext.cell (((Ext.refl wq).drew.alloc _).alloc _) q1⟩)
    clear hHeld;have hHeld:=hH (by decide);clear hKK KK hH;(try dsimp only at hHeld)
    (try simp only[Act.put,q1,q2,q3])
    refine wpAnyK_step (o:=_) (i:=11) rfl (by kernel_rfl) (fun KK hKK=>?_);refine step_append_lies _ (by rfl) _ _ 43 (by rfl) nw 9 i0 _ 1 16 Tryz.underlying43 hi0 hz0 hz1 hz2 rfl (by decide) _ _ _ (by rfl) (At.own_ext hown.out ((XQ.out.drew.alloc _).alloc _)) ⟨wq.heap.size+1,0,none⟩ 1 1 [.string (s++⟨#[32]⟩++⟨#[98,111,116,116,111,109]⟩)] (by rfl) (by rfl) (World.news_of_block (cs:=#[.string (s++⟨#[32]⟩++⟨#[98,111,116,116,111,109]⟩)]) (t:=9) (fr:=(0,0)) (new2 _ _ _ (by simp))) (by intro u hu;simp at hu;subst hu;rfl) (by omega) (by unfold maxLen;omega) (by omega) (by have:=XQ.out.size;have:=HNW.out;simp;omega) _ rfl ?_;intro g7 c7 w7 hown7 hgrow7 _ _
    have X7:=hid (show Ext wc w7 from Below.grown (hx.out.trans ((XQ.out.drew.alloc _).alloc _)) hgrow7 (by have:=XQ.out.size;simp;omega) (fun q hq=>by have:=(hown.out.lt q hq).1;have:=HNW.out;omega));have B7:=cel_keep (At.heap_ext BQ.out (((Ext.refl wq).drew.alloc _).alloc _)) hgrow7 (row_ty (At.own_ext hown.out ((XQ.out.drew.alloc _).alloc _))) (nope (by decide));have HO7:=hid hown7;clear hown7 hgrow7;refine hKK.out _ _ (fun _=>?_) (fun hH=>?_)
    ·(exact⟨by rw[Lib.cell_of_heap B7];rfl,by rw[Lib.cell_of_heap B7];rfl⟩)
    clear hHeld;have hHeld:=hH (by decide);clear hKK KK hH;(try dsimp only at hHeld)
    (try simp only[Act.put,q1,q2,q3])
    refine wpAnyK_step (o:=_) (i:=12) rfl (by kernel_rfl) (fun KK hKK=>?_);go_simp;refine hKK.out _ _ (fun h=>absurd rfl h) (fun _=>?_);clear hKK KK
    (try simp only[Act.put,q1,q2,q3])
    refine wpAnyK_done (by kernel_rfl) ?_ _;go_wp2
    go_roundw
    case rel=>exact⟨i+1,_,rfl,by omega,by go_num,hid (by rw[HTK.out,strC_snoc];have h:=HO7.out;rw[show s++⟨#[32]⟩++⟨#[98,111,116,116,111,109]⟩=⟨(portTx (s,2)).toArray⟩ from HPB.out] at h;exact h),X7⟩
    case measure=>simp[RowKit.intOf];omega
   have A3:=A2 ⟨#[108,101,102,116]⟩ (by decide);refine wp_region_K (S:=fun w'=>w'.cell? ⟨gq,0,none⟩=some (.string s)/\w'.cell? ⟨gq,1,none⟩=some (.int .i64 3)) (n:=12) (by kernel_rfl) (by exact⟨Ext.cell ((Ext.refl wq).drew) q0,Ext.cell ((Ext.refl wq).drew) q1⟩) (fun hHeld=>?_);refine kU 12 0 rfl hHeld ?_
   (try simp only[Act.put,q1,q2,q3])
   refine kU 12 1 rfl hHeld ?_
   (try simp only[Act.put,q1,q2,q3])
   refine kU 12 2 rfl hHeld ?_
   (try simp only[Act.put,q1,q2,q3])
   refine kU 12 3 rfl hHeld ?_
   (try simp only[Act.put,q1,q2,q3])
   refine kU 12 5 rfl hHeld ?_
   (try simp only[Act.put,q1,q2,q3])
   refine kU 12 6 rfl hHeld ?_
   (try simp only[Act.put,q1,q2,q3])
   refine wpAnyK_step (o:=_) (i:=4) rfl (by kernel_rfl) (fun KK hKK=>?_);go_simp;refine hKK.out _ _ (fun _=>?_) (fun hH=>?_)
   ·(exact⟨Ext.cell ((Ext.refl wq).drew.alloc _) q0,Ext.cell ((Ext.refl wq).drew.alloc _) q1⟩)
   clear hHeld;have hHeld:=hH (by decide);clear hKK KK hH;(try dsimp only at hHeld)
   (try simp only[Act.put,q1,q2,q3])
   refine kU 12 7 rfl hHeld ?_
   (try simp only[Act.put,q1,q2,q3])
   refine wpAnyK_step (o:=_) (i:=8) rfl (by kernel_rfl) (fun KK hKK=>?_);go_simp;refine hKK.out _ _ (fun _=>?_) (fun hH=>?_)
   ·(exact⟨Ext.cell ((Ext.refl wq).drew.alloc _) q0,Ext.cell ((Ext.refl wq).drew.alloc _) q1⟩)
   clear hHeld;have hHeld:=hH (by decide);clear hKK KK hH;(try dsimp only at hHeld)
   (try simp only[Act.put,q1,q2,q3])
   refine kU 12 9 rfl hHeld ?_
   (try simp only[Act.put,q1,q2,q3])
   refine wpAnyK_step (o:=_) (i:=10) rfl (by kernel_rfl) (fun KK hKK=>?_);go_simp;refine hKK.out _ _ (fun _=>?_) (fun hH=>?_)
   ·(exact⟨Ext.cell (((Ext.refl wq).drew.alloc _).alloc _) q0,Ext.cell (((Ext.refl wq).drew.alloc _).alloc _) q1⟩)
   clear hHeld;have hHeld:=hH (by decide);clear hKK KK hH;(try dsimp only at hHeld)
   (try simp only[Act.put,q1,q2,q3])
   refine wpAnyK_step (o:=_) (i:=11) rfl (by kernel_rfl) (fun KK hKK=>?_);refine step_append_lies _ (by rfl) _ _ 43 (by rfl) nw 9 i0 _ 1 16 Tryz.underlying43 hi0 hz0 hz1 hz2 rfl (by decide) _ _ _ (by rfl) (At.own_ext hown.out ((XQ.out.drew.alloc _).alloc _)) ⟨wq.heap.size+1,0,none⟩ 1 1 [.string (s++⟨#[32]⟩++⟨#[108,101,102,116]⟩)] (by rfl) (by rfl) (World.news_of_block (cs:=#[.string (s++⟨#[32]⟩++⟨#[108,101,102,116]⟩)]) (t:=9) (fr:=(0,0)) (new2 _ _ _ (by simp))) (by intro u hu;simp at hu;subst hu;rfl) (by omega) (by unfold maxLen;omega) (by omega) (by have:=XQ.out.size;have:=HNW.out;simp;omega) _ rfl ?_;intro g7 c7 w7 hown7 hgrow7 _ _;have X7:=hid (show Ext wc w7 from Below.grown (hx.out.trans ((XQ.out.drew.alloc _).alloc _)) hgrow7 (by have:=XQ.out.size;simp;omega) (fun q hq=>by have:=(hown.out.lt q hq).1;have:=HNW.out;omega))
   have B7:=cel_keep (At.heap_ext BQ.out (((Ext.refl wq).drew.alloc _).alloc _)) hgrow7 (row_ty (At.own_ext hown.out ((XQ.out.drew.alloc _).alloc _))) (nope (by decide));have HO7:=hid hown7;clear hown7 hgrow7;refine hKK.out _ _ (fun _=>?_) (fun hH=>?_)
   ·(exact⟨by rw[Lib.cell_of_heap B7];rfl,by rw[Lib.cell_of_heap B7];rfl⟩)
   clear hHeld;have hHeld:=hH (by decide);clear hKK KK hH;(try dsimp only at hHeld)
   (try simp only[Act.put,q1,q2,q3])
   refine wpAnyK_step (o:=_) (i:=12) rfl (by kernel_rfl) (fun KK hKK=>?_);go_simp;refine hKK.out _ _ (fun h=>absurd rfl h) (fun _=>?_);clear hKK KK
   (try simp only[Act.put,q1,q2,q3])
   refine wpAnyK_done (by kernel_rfl) ?_ _;go_wp2
   go_roundw
   case rel=>exact⟨i+1,_,rfl,by omega,by go_num,hid (by rw[HTK.out,strC_snoc];have h:=HO7.out;rw[show s++⟨#[32]⟩++⟨#[108,101,102,116]⟩=⟨(portTx (s,3)).toArray⟩ from HPB.out] at h;exact h),X7⟩
   case measure=>simp[RowKit.intOf];omega
  have hiP:i=PL:=by omega
  subst hiP;have htk:(L.take i).map portTx=L.map portTx:=by rw[List.take_of_length_le (by rw[<-HPL.out];omega)]
  have hown2:=hown.out;rw[htk] at hown2;obtain⟨gs,cs',hov,hcc,-,-⟩:=row_has hown2 f0;subst hov;have hln:(((L.map portTx).map fun l=>(⟨l.toArray⟩:ByteArray))).length=i:=by rw[List.length_map,List.length_map,<- HPL.out]
  have hjn:=Tryz.strings_Join gs 0 cs' ((L.map portTx).map fun l=>(⟨l.toArray⟩:ByteArray)) ⟨#[44,32]⟩ wr (fun j x hjx=>by
   have h:=hown2.cells (g:=gs) rfl j (.string x) (by unfold strC;rw[List.getElem?_map] at hjx ⊢;cases h2:(L.map portTx)[j]? with
    | none=>rw[h2] at hjx;cases hjx
    | some y=>rw[h2] at hjx;cases hjx;rfl)
   rw[add0] at h;rw[Nat.zero_add]
   exact h) (hown2.lt gs rfl).2 (by rw[hln];omega) (by rw[hln];exact hcc) (by
   rw[map_map_toList]
   have:=join_le (L.map portTx) [44,32] 1010 (fun x hx=>by
    obtain⟨q,hq,rfl⟩:=List.mem_map.1 hx;have h1:=(HSD.out q hq).2.2;have h2:=side_le q.2;unfold portTx;rw[List.length_append,List.length_append,<- size_len,<- size_len];show _+1+_<=_
    omega)
   rw[List.length_map,<- HPL.out] at this;show(Lib.join (L.map portTx) [44,32]).length<=_;have h3:i * (1010+[44,32].length)<=8 * 1012:=Nat.mul_le_mul hl (by decide)
   omega)
  rw[hln] at hjn
  have he:(⟨(Lib.join (((L.map portTx).map fun l=>(⟨l.toArray⟩:ByteArray)).map (·.data.toList)) (⟨#[44,32]⟩:ByteArray).data.toList).toArray⟩:ByteArray)=portsTx L:=by
   rw[map_map_toList];rfl
  rw[he] at hjn;have HJN:=hid hjn;have XS:=hid hx.out;have c1':¬ (i:Int) < (i:Int):=by omega
  clear hjn htk hown hown2 hln he;obtain⟨b0,b1,b2,b3,b4,b5⟩:=cells6b (At.heap_ext B1.out (HX.out.trans hx.out))
  go_wp2_with (first
   | (go_at_call 133;refine Calls.mono (by with_reducible exact HJN.out) ?_;rintro e w3 ⟨rfl,x3⟩;have X3:=hid (XS.out.trans x3);clear x3)
   | (at_builtin;refine wpList_append_lies _ rfl _ _ 65 rfl nb 69 j0 _ 2 32 Tryz.underlying65 hj0 hjz0 hjz1 hjz2 rfl (by decide) _ _ _ rfl (At.own_ext HO.out (X3.out.alloc _)) ⟨w3.heap.size,0,none⟩ 1 1 [.string kPorts,.string (portsTx L)] rfl rfl ?c1 ?c2 (by decide) ?c3 ?c4 ?c5 _ rfl ?_))
  case c1=>exact World.news_of_block (cs:=#[.string kPorts,.string (portsTx L)]) (t:=69) (fr:=(0,0)) (heap_alloc_new w3 _)
  case c2=>intro u hu;simp at hu;rcases hu with rfl | rfl <;> rfl
  case c3=>unfold maxLen;omega
  case c4=>omega
  case c5=>have:=HX.out.size;have:=X3.out.size;have:=HNB.out;simp;omega
  intro g7 c7 w7 hown7 hgrow7 _ _;have X7:=hid (show Ext w1 w7 from Below.grown ((HX.out.trans X3.out).alloc _) hgrow7 (by have:=HX.out.size;have:=X3.out.size;have:=HNB.out;simp;omega) (fun q hq=>by have:=(HO.out.lt q hq).1;have:=HNB.out;omega));have HO7:=hid (show AtO nb L3 _ w7 by rw[HL.out];exact ato_app hown7);clear hown7 hgrow7;go_wp2
  go_meet
  exact⟨_,rfl,HO7,X7⟩
 case rest =>
 clear HO HX hbb bb;obtain⟨v0,rfl,HO,HX⟩:=hcut;obtain⟨b0,b1,b2,b3,b4,b5⟩:=cells6b (At.heap_ext B1.out HX.out)
 go_upto_if 60 with(fail)
 go_cut [3] from 7 to 68 (fun o wx=>∃ v,v=o/\Hid (AtO nb R v wx)/\Hid (Ext w1 wx))
 case first =>
  obtain⟨b0,b1,b2,b3,b4,b5⟩:=cells6b (At.heap_ext B1.out HX.out);by_cases hc:W=20000
  ·have f1:(W != 20000)=false:=by rw[hc];rfl
   have hl1:R=L3:=by rw[HR.out,if_pos hc];simp
   have HL:=hid hl1;clear hc hl1;go_wp2_with fail
   go_meet
   exact⟨_,rfl,hid (by rw[HL.out];exact HO.out),HX⟩
  have f1:(W != 20000)=true:=(nfacts hc).2;have hl1:R=L3++[(kWidth,(fmtB W))]:=by rw[HR.out,if_neg hc]
  have HL:=hid hl1;clear hc hl1
  go_wp2_with (first
   | (go_at_call 63;refine Calls.mono (by with_reducible exact HFW.out _ (X1.out.trans HX.out)) ?_;rintro e w3 ⟨rfl,x3⟩;have X3:=hid x3;clear x3)
   | (at_builtin;refine wpList_append_lies _ rfl _ _ 65 rfl nb 69 j0 _ 2 32 Tryz.underlying65 hj0 hjz0 hjz1 hjz2 rfl (by decide) _ _ _ rfl (At.own_ext HO.out (X3.out.alloc _)) ⟨w3.heap.size,0,none⟩ 1 1 [.string kWidth,.string (fmtB W)] rfl rfl ?c1 ?c2 (by decide) ?c3 ?c4 ?c5 _ rfl ?_))
  case c1=>exact World.news_of_block (cs:=#[.string kWidth,.string (fmtB W)]) (t:=69) (fr:=(0,0)) (heap_alloc_new w3 _)
  case c2=>intro u hu;simp at hu;rcases hu with rfl | rfl <;> rfl
  case c3=>unfold maxLen;omega
  case c4=>omega
  case c5=>have:=HX.out.size;have:=X3.out.size;have:=HNB.out;simp;omega
  intro g7 c7 w7 hown7 hgrow7 _ _;have X7:=hid (show Ext w1 w7 from Below.grown ((HX.out.trans X3.out).alloc _) hgrow7 (by have:=HX.out.size;have:=X3.out.size;have:=HNB.out;simp;omega) (fun q hq=>by have:=(HO.out.lt q hq).1;have:=HNB.out;omega));have HO7:=hid (show AtO nb R _ w7 by rw[HL.out];exact ato_app hown7);clear hown7 hgrow7;go_wp2
  go_meet
  exact⟨_,rfl,HO7,X7⟩
 case rest =>
 clear HO HX;obtain⟨v0,rfl,HO,HX⟩:=hcut;obtain⟨b0,b1,b2,b3,b4,b5⟩:=cells6b (At.heap_ext B1.out HX.out);have hsz1:=HX.out.size;go_wp2;go_ret;exact⟨⟨_,rfl,own_base HO.out (by rw[HNB.out];exact X1.out.size)⟩,X1.out.trans HX.out⟩
end Go.Proofs.YtjaeedbjknejdaaGreatDoor.Ex
