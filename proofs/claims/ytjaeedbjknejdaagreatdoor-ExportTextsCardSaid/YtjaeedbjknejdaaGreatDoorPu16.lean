/- Packed texts: ExpRdy, TreBase, TreRun, ParRow -/
import Derived.Test.YtjaeedbjknejdaaGreatDoorPu15
import Derived.OwnWalk
set_option linter.unusedVariables false
set_option linter.unusedSimpArgs false
set_option maxHeartbeats 16000000
set_option maxRecDepth 100000
namespace Go.Proofs.YtjaeedbjknejdaaGreatDoor.Ex
open Go.RowKit Go.Sort Go.Lib Go.Shelf Fx Lx Tr At Go.Proofs.YtjaeedbjknejdaaGreatDoor.Nm
theorem cells7w {w:World}{g:Nat}{T:TypeId}{c0 c1 c2 c3 c4 c5 c6:Value}(h:w.heap[g]? = some (.cells #[c0,c1,c2,c3,c4,c5,c6] T (0,0))):
    w.cell? ⟨g,0,none⟩=some c0/\w.cell? ⟨g,1,none⟩=some c1/\w.cell? ⟨g,2,none⟩=some c2/\w.cell? ⟨g,3,none⟩=some c3/\w.cell? ⟨g,4,none⟩=some c4/\w.cell? ⟨g,5,none⟩=some c5/\w.cell? ⟨g,6,none⟩=some c6:=by
  refine⟨?_,?_,?_,?_,?_,?_,?_⟩ <;> (rw[Lib.cell_of_heap h];rfl)
theorem quiet_h {P:Program}{f:FuncId}{args:Array Value}{w:World}{n:Nat}{v:Value}(h:Calls P f args (w.drewN n) fun e w'=>e=.returned v/\w'=w.drewN n):Calls P f args (w.drewN n) fun e w'=>e=.returned v/\∃ m,w'=w.drewN m :=
  h.mono fun _ _ ⟨he,hm⟩=>⟨he,n,hm⟩
theorem mem_lt {g:Gr}{c:Int}{n:Nat}(h:(memT g c).contains n=true):n < g.N.length:=by
  have h1:=List.contains_iff_mem.1 h;unfold memT at h1;exact List.mem_range.1 (List.mem_filter.1 h1).1
theorem memI_has (g:Gr)(c:Int)(n:Nat):(memI g c g.N.length).contains (n:Int)=(memT g c).contains n:=by
  rw[memI_all];apply Bool.eq_iff_iff.2;rw[List.contains_iff_mem,List.contains_iff_mem,List.mem_map];constructor
  · rintro⟨a,ha,hb⟩;have:a=n:=by omega
    rwa [<-this]
  intro h;exact⟨n,h,rfl⟩
theorem ready_at {g:Gr}{p:Int}{n k:Nat}(h:k < g.C.length)(hp:g.C[k].2=p):readyT g p n k=((memT g k).isEmpty || (memT g k).contains n):=by
  unfold readyT;rw[List.getElem?_eq_getElem h];dsimp only;rw[decide_eq_true hp];rfl
theorem ready_no {g:Gr}{p:Int}{n k:Nat}(h:k < g.C.length)(hp:g.C[k].2 ≠ p):readyT g p n k=false:=by
  unfold readyT;rw[List.getElem?_eq_getElem h];dsimp only;rw[decide_eq_false hp];rfl
theorem ready_out {g:Gr}{p:Int}{n k:Nat}(h:¬ k < g.C.length):readyT g p n k=false:=by
  unfold readyT;rw[List.getElem?_eq_none (by omega)]
theorem ready_any (g:Gr)(na ea ca:Option Addr)(nac eac cac n k wb:Nat)(p:Int)(w:World)(ha:GrIn w (.agg #[.string g.name,.bool g.dir,.slice na g.N.length nac,.slice ea g.E.length eac,.slice ca g.C.length cac]) g)(hcp:GrCp w (.agg #[.string g.name,.bool g.dir,.slice na g.N.length nac,.slice ea g.E.length eac,.slice ca g.C.length cac]) g)(hsm:GrSm g)(hg0:grE g=0)
    (hb:w.heap[wb]? = some (.cells #[.string g.name,.bool g.dir,.slice na g.N.length nac,.slice ea g.E.length eac,.slice ca g.C.length cac,.int .i64 n,.int .i64 k] 74 (0,0))) (hk:k<=g.C.length) (hn:n<=g.N.length) :
    Calls Tryz.prog 65 #[.pointer (some ⟨wb,0,none⟩),.int .i64 p] w fun e w'=>e=.returned (.bool (readyT g p n k))/\Ext w w':=by
  have hok:=gr_ok hg0;have hnl:=hok.nl;have hcl:=hok.cl;obtain⟨b0,b1,b2,b3,b4,b5,b6⟩:=cells7w hb;have hme:=fun(h:k < g.C.length) (w5:World) (x:Ext w w5)=>members_any g _ k w5 (ha.ext x) (hcp.ext ha x) hsm hg0 h
  have hml:(memT g k).length=(memI g k g.N.length).length:=by rw[memI_all,List.length_map]
  have hmb:=memI_len g k g.N.length;have hem:(memT g k).isEmpty=decide ((memI g k g.N.length).length=0):=by rw[<-hml];cases memT g k <;> simp
  have hhas:=memI_has g k n;have hlt:=fun h=>@mem_lt g k n h
  rw[<-hhas] at hlt;obtain⟨R,hR⟩:∃ R,R=readyT g p n k:=⟨_,rfl⟩;rw[<-hR];obtain⟨q,hq⟩:∃ n,n=g.N.length:=⟨_,rfl⟩;obtain⟨el,hel⟩:∃ n,n=g.E.length:=⟨_,rfl⟩;obtain⟨cl,hcle⟩:∃ n,n=g.C.length:=⟨_,rfl⟩;by_cases hkl:k < g.C.length
  · obtain⟨na',nac',ea',eac',ca',cac',hv,-,-,a3⟩:=ha;cases hv;obtain⟨gc,oc,rfl,k0,k1⟩:=a3 k hkl;rw[hml] at hme;by_cases hpp:g.C[k].2=p
    · rw[ready_at hkl hpp,hem,<- hhas] at hR;rw[hpp] at k1;obtain⟨Z,hZ⟩:∃ Z,Z=memI g k g.N.length:=⟨_,rfl⟩;rw[<-hZ] at hR hme hmb hlt;have hzl:Z.length<=1000000000:=by omega
      have hmc:=hme hkl;simp only[<-hq,<- hel,<- hcle] at hmc b2 b3 b4;rw[<-hq] at hn hlt hnl;rw[<-hcle] at hkl;have HMC:=Lib.hid hmc;have HR:=Lib.hid hR;have HZL:=Lib.hid hzl;have HB:=Lib.hid hb;have HLT:=Lib.hid hlt;have HQ:=Lib.hid hq.symm;have HEL:=Lib.hid hel.symm;have HCL:=Lib.hid hcle.symm;have f1:((k:Int) == (cl:Int))=false:=by rw[beq_eq_false_iff_ne];omega
      have f2:(p != p)=false:=by simp
      have d0:(0:Int)<=(k:Int):=by omega
      have d1:(k:Int) < (cl:Int):=by omega
      clear hem hhas hml hZ hpp hme hmc hR hcp hsm hg0 hok a3 k0 hb hk hcl hq hel hcle hlt hzl hmb;go_enter Tryz.func65,Tryz.ntmps65;go_wp2_with fail
      go_quiet (fail)
      obtain⟨w9,hw9⟩:∃ w9,w9=w.drewN nq:=⟨_,rfl⟩;have X9:Hid (Ext w w9):=Lib.hid (by rw[hw9];exact(Ext.refl w).drewN _);rw[<-hw9];clear hw9;obtain⟨c0,c1,c2,c3,c4,c5,c6⟩:=cells7w (At.heap_ext HB.out X9.out);rw[show g.N.length=q from HQ.out] at c2;rw[show g.E.length=el from HEL.out] at c3;rw[show g.C.length=cl from HCL.out] at c4;clear b0 b1 b2 b3 b4 b5 b6 k1;go_wp2_with fail
      refine wp_region_K (S:=fun w'=>w'.cell? ⟨wb,0,none⟩=some (.string g.name)/\w'.cell? ⟨wb,1,none⟩=some (.bool g.dir)/\w'.cell? ⟨wb,2,none⟩=some (.slice na q nac)/\w'.cell? ⟨wb,3,none⟩=some (.slice ea el eac)/\w'.cell? ⟨wb,4,none⟩=some (.slice (some ⟨gc,oc,none⟩) cl cac)/\w'.cell? ⟨wb,5,none⟩=some (.int .i64 n)/\w'.cell? ⟨wb,6,none⟩=some (.int .i64 k)) (n:=9) (by kernel_rfl) (by exact⟨Ext.cell ((Ext.refl w9).drew) c0,Ext.cell ((Ext.refl w9).drew) c1,Ext.cell ((Ext.refl w9).drew) c2,Ext.cell ((Ext.refl w9).drew) c3,Ext.cell ((Ext.refl w9).drew) c4,Ext.cell ((Ext.refl w9).drew) c5,Ext.cell ((Ext.refl w9).drew) c6⟩) (fun hHeld=>?_);refine kT 9 0 ?_ rfl (by kernel_rfl) (fun _ _ _ h=>h) (Or.inl ⟨by rfl,?_⟩) hHeld ?_;rotate_left
      · (intro w' hSw;(try dsimp only at hSw);go_simp <;> with_reducible rfl)
      (try simp only[Act.put,q1,q2,q3])
      refine kT 9 1 ?_ rfl (by kernel_rfl) (fun _ _ _ h=>h) (Or.inl ⟨by rfl,?_⟩) hHeld ?_;rotate_left
      · (intro w' hSw;(try dsimp only at hSw);go_simp <;> with_reducible rfl)
      (try simp only[Act.put,q1,q2,q3])
      refine kT 9 2 ?_ rfl (by kernel_rfl) (fun _ _ _ h=>h) (Or.inl ⟨by rfl,?_⟩) hHeld ?_;rotate_left
      · (intro w' hSw;(try dsimp only at hSw);go_simp <;> with_reducible rfl)
      (try simp only[Act.put,q1,q2,q3])
      refine kT 9 3 ?_ rfl (by kernel_rfl) (fun _ _ _ h=>h) (Or.inl ⟨by rfl,?_⟩) hHeld ?_;rotate_left
      · (intro w' hSw;(try dsimp only at hSw);go_simp <;> with_reducible rfl)
      (try simp only[Act.put,q1,q2,q3])
      refine kT 9 4 ?_ rfl (by kernel_rfl) (fun _ _ _ h=>h) (Or.inl ⟨by rfl,?_⟩) hHeld ?_;rotate_left
      · (intro w' hSw;(try dsimp only at hSw);go_simp <;> with_reducible rfl)
      (try simp only[Act.put,q1,q2,q3])
      refine kT 9 5 ?_ rfl (by kernel_rfl) (fun _ _ _ h=>h) (Or.inl ⟨by rfl,?_⟩) hHeld ?_;rotate_left
      · (intro w' hSw;(try dsimp only at hSw);go_simp <;> with_reducible rfl)
      (try simp only[Act.put,q1,q2,q3])
      refine kT 9 6 ?_ rfl (by kernel_rfl) (fun _ _ _ h=>h) (Or.inl ⟨by rfl,?_⟩) hHeld ?_;rotate_left
      · (intro w' hSw;(try dsimp only at hSw);go_simp <;> with_reducible rfl)
      (try simp only[Act.put,q1,q2,q3])
      refine kT 9 7 ?_ rfl (by kernel_rfl) (fun _ _ _ h=>h) (Or.inl ⟨by rfl,?_⟩) hHeld ?_;rotate_left
      · (intro w' hSw;(try dsimp only at hSw);go_simp <;> with_reducible rfl)
      (try simp only[Act.put,q1,q2,q3])
      refine wpAnyK_step (o:=_) (i:=8) rfl (by kernel_rfl) (fun KK hKK=>?_);go_simp
      (go_at_call 131;refine Calls.mono (by with_reducible exact HMC.out _ X9.out.drew) ?_;rintro e w3 ⟨⟨v3,rfl,hv3⟩,x3⟩;have HV3:=Lib.hid hv3;have X3:Hid (Ext w9 w3):=Lib.hid ((Ext.refl w9).drew.trans x3);clear hv3 x3)
      refine hKK.out _ _ (fun _=>?_) (fun hH=>?_)
      · (exact⟨Ext.cell (X3.out) c0,Ext.cell (X3.out) c1,Ext.cell (X3.out) c2,Ext.cell (X3.out) c3,Ext.cell (X3.out) c4,Ext.cell (X3.out) c5,Ext.cell (X3.out) c6⟩)
      have hHeld2:=hH;clear hKK KK hHeld hH;have hHeld:=hHeld2 (by decide);clear hHeld2
      (try dsimp only at hHeld)
      (try simp only[Act.put,q1,q2,q3])
      refine wpAnyK_step (o:=_) (i:=9) rfl (by kernel_rfl) (fun KK hKK=>?_);go_simp;refine hKK.out _ _ (fun h=>absurd rfl h) (fun _=>?_);clear hKK KK
      (try simp only[Act.put,q1,q2,q3])
      refine wpAnyK_done (by kernel_rfl) ?_ _;have XW3:=Lib.hid (X9.out.trans X3.out);obtain⟨e0,e1,e2,e3,e4,e5,e6⟩:=cells7w (At.heap_ext HB.out XW3.out);rw[show g.N.length=q from HQ.out] at e2;rcases own_ints HV3.out with⟨hz,av,cv,hv⟩ | ⟨gv,cv,hv,hcv⟩
      · subst hv;have hr:Hid (R=true):=Lib.hid (by rw[HR.out,hz];rfl);clear hz;go_wp2_with fail
        go_quiet (fail)
        go_wp2;go_ret;exact⟨by rw[hr.out];rfl,XW3.out.drewN _⟩
      by_cases hz:Z.length=0
      · have hr:Hid (R=true):=Lib.hid (by rw[HR.out,hz];rfl);have hz':((Z.length:Int) == 0)=true:=by rw[hz];rfl
        obtain⟨zl,hzl2⟩:∃ z,z=Z.length:=⟨_,rfl⟩;rw[<-hzl2] at hv hz' hz;subst hv;subst hz;clear hcv hzl2;go_wp2_with fail
        go_quiet (fail)
        go_wp2;go_ret;exact⟨by rw[hr.out];rfl,XW3.out.drewN _⟩
      have hcon:=fun(m:Nat)=>has_any Z v3 (n:Int) w9.drew.heap.size 3 (w3.drewN m) (At.own_ext HV3.out ((Ext.refl w3).drewN m)) HZL.out
      obtain⟨zl,hzl2⟩:∃ z,z=Z.length:=⟨_,rfl⟩;rw[<-hzl2] at hv hz;subst hv;have hzi:((zl:Int) == 0)=false:=by rw[beq_eq_false_iff_ne];omega
      by_cases hnq:n < q
      · have hr:Hid (R=Z.contains (n:Int)):=Lib.hid (by rw[HR.out,<- hzl2,decide_eq_false hz];rfl);have hq1:decide ((n:Int) < (q:Int))=true:=decide_eq_true (by omega);have hq2:decide (n < q)=true:=decide_eq_true hnq;obtain⟨cb,hcb⟩:∃ b,b=Z.contains (n:Int):=⟨_,rfl⟩;rw[<-hcb] at hr;simp only[<-hcb] at hcon;have HCO:=Lib.hid hcon;clear hcon hcv hzl2 hcb hz;go_wp2_with fail
        go_quiet ((go_at_call 132;exact quiet_h (HCO.out _)))
        go_wp2;go_ret;exact⟨by rw[hr.out];rfl,XW3.out.drewN _⟩
      have hr:Hid (R=false):=Lib.hid (by
        rw[HR.out,<- hzl2,decide_eq_false hz,Bool.false_or];cases h:Z.contains (n:Int) with
        | false=>rfl
        | true=>exact absurd (HLT.out h) hnq)
      have hq1:decide ((n:Int) < (q:Int))=false:=decide_eq_false (by omega);have hq2:decide (n < q)=false:=decide_eq_false hnq;clear hcon hcv hzl2 hz;go_wp2_with fail
      go_quiet (fail)
      go_wp2;go_ret;exact⟨by rw[hr.out];rfl,XW3.out.drewN _⟩
    rw[ready_no hkl hpp] at hR;have hr:=Lib.hid hR;have f1:((k:Int) == (cl:Int))=false:=by rw[beq_eq_false_iff_ne];omega
    have f2:(g.C[k].2 != p)=true:=(nfacts hpp).2;obtain⟨pk,hpk⟩:∃ x,x=g.C[k].2:=⟨_,rfl⟩;rw[<-hpk] at f2 k1;rw[<-hq] at b2;rw[<-hcle] at b4 hkl;rw[<-hel] at b3;have d0:(0:Int)<=(k:Int):=by omega
    have d1:(k:Int) < (cl:Int):=by omega
    clear hem hhas hml hme hmb hlt hR hcp hsm hg0 hok a3 k0 hb hk hcl hq hel hcle hpp hpk hn hnl;go_enter Tryz.func65,Tryz.ntmps65;go_wp2_with fail
    go_quiet (fail)
    go_wp2;go_ret;exact⟨by rw[hr.out];rfl,(Ext.refl w).drewN _⟩
  rw[ready_out hkl] at hR;have hr:=Lib.hid hR;have f1:((k:Int) == (cl:Int))=true:=by rw[show(k:Int)=(cl:Int) by omega];simp
  rw[<-hq] at b2;rw[<-hcle] at b4;rw[<-hel] at b3;clear hem hhas hml hme hmb hlt hR hcp hsm hg0 hok hb hk hcl hq hel hcle hkl hn hnl;go_enter Tryz.func65,Tryz.ntmps65;go_wp2_with fail
  go_quiet (fail)
  go_wp2;go_ret;exact⟨by rw[hr.out];rfl,(Ext.refl w).drewN _⟩
end Go.Proofs.YtjaeedbjknejdaaGreatDoor.Ex

namespace Go.Proofs.YtjaeedbjknejdaaGreatDoor.Tr
open Go.RowKit Go.Sort Go.Lib Go.Shelf Fx Lx
theorem info_str : (Tryz.prog.info? 9).map (fun i=>(i.zero,i.size,i.bytes))=some (some (.string ⟨#[]⟩),1,16):=by kernel_rfl
theorem atr2_cells (w:World)(k v:ByteArray):∀ w1,Ext (w.alloc (.cells #[.string k,.string v] 69)) w1 ->
    w1.cell? ⟨w.heap.size,0,none⟩=some (.string k)/\w1.cell? ⟨w.heap.size,1,none⟩=some (.string v):=fun w1 x=>by
  have hb:=heap_alloc_new w (.cells #[.string k,.string v] 69);refine⟨x.cell ?_,x.cell ?_⟩ <;> rw[Lib.cell_of_heap hb] <;> rfl
theorem own_ext' {w w':World}{B:Nat}{e:TypeId}{sz:Nat}{v:Value}{n:Nat}{xs:List Value}(h:w.ownsRow B e sz v n xs)(x:Ext w w'):w'.ownsRow B e sz v n xs:=by
  refine⟨h.1,?_⟩;rcases h.2 with h1 | ⟨g,cap,cur,hv,hb,hg,r⟩
  · exact .inl h1
  exact .inr ⟨g,cap,cur,hv,hb,(x.block g (Array.getElem?_eq_some_iff.1 hg).1).trans hg,r⟩
theorem flat_head (lev:Nat)(L:List Stm)(k:Nat)(h:k < L.length):∃ lv,(L[k],lv) ∈ flatL lev L:=by
  induction L generalizing k with
  | nil=>exact absurd h (by simp)
  | cons x r ih =>
    rw[flatL_cons]
    match k,h with
    | 0,_=>exact⟨lev,List.mem_append_left _ (by rw[flatS_eq];exact List.mem_cons_self)⟩
    | k+1,h =>
      obtain⟨lv,hm⟩:=ih k (by simpa using h);exact⟨lv,List.mem_append_right _ hm⟩
def Formed : List Stm->Prop:=fun L=>∀ lev,∀ p ∈ flatL lev L,formB p.1=true
theorem Formed.at {L:List Stm}(h:Formed L)(k:Nat)(hk:k < L.length):formB L[k]=true:=by
  obtain⟨lv,hm⟩:=flat_head 0 L k hk;exact h 0 _ hm
theorem flat_sub (lev:Nat)(L:List Stm)(k:Nat)(h:k < L.length):∀ p,p ∈ flatL (if L[k].kind=5 then lev+1 else lev) L[k].body->p ∈ flatL lev L:=by
  induction L generalizing k with
  | nil=>exact absurd h (by simp)
  | cons x r ih =>
    intro p hp;rw[flatL_cons]
    match k,h with
    | 0,_=>exact List.mem_append_left _ (by rw[flatS_eq];exact List.mem_cons_of_mem _ hp)
    | k+1,h=>exact List.mem_append_right _ (ih k (by simpa using h) p hp)
mutual
theorem flatS_fst (a b:Nat):∀ x:Stm,(flatS a x).map Prod.fst=(flatS b x).map Prod.fst
  | .mk k n r al bd=>by rw[flatS,flatS,List.map_cons,List.map_cons,flatL_fst _ (if k=5 then b+1 else b) bd]
theorem flatL_fst (a b:Nat):∀ L:List Stm,(flatL a L).map Prod.fst=(flatL b L).map Prod.fst
  | []=>by rw[flatL,flatL]
  | x::r=>by rw[flatL,flatL,List.map_append,List.map_append,flatS_fst a b x,flatL_fst a b r]
end
theorem formed_of {L body:List Stm}{lv:Nat}(h:Formed L)(hs:∀ p,p ∈ flatL (lv+1) body->p ∈ flatL lv L):Formed body:=fun lev p hp=>by
  have h1:p.1 ∈ (flatL lev body).map Prod.fst:=List.mem_map_of_mem hp;rw[flatL_fst lev (lv+1) body] at h1;obtain⟨p',hp',e⟩:=List.mem_map.1 h1;rw[<-e];exact h lv p' (hs p' hp')
theorem first_zero : ∀ (l:List (Stm × Nat)),firstE l=0->∀ p ∈ l,stmE p=0
  | q::r,h,p,hp=>by
    rw[firstE] at h;by_cases hq:stmE q=0
    · rw[if_neg (fun h'=>h' hq)] at h;rcases List.mem_cons.1 hp with rfl | hp
      · exact hq
      exact first_zero r h p hp
    · rw[if_pos hq] at h;exact absurd h hq
theorem formed_valid (nm:ByteArray)(L:List Stm)(h:validE nm L=0):Formed L:=fun lev p hp=>by
  unfold validE at h;by_cases h1:nameB nm.data.toList=false
  · rw[if_pos h1] at h;exact absurd h (by decide)
  rw[if_neg h1] at h;by_cases h2:512 < (flatL 0 L).length
  · rw[if_pos h2] at h;exact absurd h (by decide)
  rw[if_neg h2] at h;have h3:p.1 ∈ (flatL lev L).map Prod.fst:=List.mem_map_of_mem hp;rw[flatL_fst lev 0 L] at h3;obtain⟨p',hp',e⟩:=List.mem_map.1 h3;have h4:=first_zero _ h p' hp';unfold stmE at h4;rw[<-e];cases hf:formB p'.1
  · rw[if_pos hf] at h4;exact absurd h4 (by decide)
  rfl
theorem tree_cells (w:World)(nm:ByteArray)(dir:Bool)(b:Option Addr)(N cap:Nat):∀ w1,Ext (w.alloc (.cells #[.string nm,.bool dir,.slice b N cap] 33)) w1->w1.cell? ⟨w.heap.size,0,none⟩=some (.string nm)/\w1.cell? ⟨w.heap.size,1,none⟩=some (.bool dir)/\w1.cell? ⟨w.heap.size,2,none⟩=some (.slice b N cap):=fun w1 x=>by
  have hb:=heap_alloc_new w (.cells #[.string nm,.bool dir,.slice b N cap] 33);refine⟨x.cell ?_,x.cell ?_,x.cell ?_⟩ <;> rw[Lib.cell_of_heap hb] <;> rfl
end Go.Proofs.YtjaeedbjknejdaaGreatDoor.Tr

namespace Go.Proofs.YtjaeedbjknejdaaGreatDoor.Tr
open Go.RowKit Go.Lib Fx Lx
structure But (c:Nat)(w w':World):Prop where
  os:w'.os=w.os
  tape:w'.tape=w.tape
  output:w'.output=w.output
  size:w.heap.size<=w'.heap.size
  block:∀ k,k < w.heap.size->k ≠ c->w'.heap[k]? = w.heap[k]?
theorem But.refl (c:Nat)(w:World):But c w w:=⟨rfl,rfl,rfl,Nat.le_refl _,fun _ _ _=>rfl⟩
theorem But.trans {c:Nat}{a b d:World}(h:But c a b)(k:But c b d):But c a d :=
  ⟨k.os.trans h.os,k.tape.trans h.tape,k.output.trans h.output,Nat.le_trans h.size k.size,fun i hi hc=>(k.block i (Nat.lt_of_lt_of_le hi h.size) hc).trans (h.block i hi hc)⟩
theorem But.of {c:Nat}{a b:World}(h:Ext a b):But c a b:=⟨h.os,h.tape,h.output,h.size,fun k hk _=>h.block k hk⟩
theorem But.ext {c:Nat}{a b d:World}(h:But c a b)(k:Ext b d):But c a d:=h.trans (But.of k)
theorem But.alloc {c:Nat}{a b:World}(h:But c a b)(o:Obj):But c a (b.alloc o):=h.ext ((Ext.refl _).alloc o)
theorem But.setCell {c:Nat}{a b:World}(h:But c a b)(p:Addr)(hp:p.block=c)(u:Value):But c a (b.setCell p u) :=
  ⟨h.os,h.tape,h.output,by have:=h.size;simpa [World.setCell] using this,fun k hk hc=>(Below.heap_setCell _ _ _ _ (by omega)).trans (h.block k hk hc)⟩
theorem But.cell {c:Nat}{a b:World}(h:But c a b){p:Addr}{v:Value}(hc:p.block ≠ c)(hv:a.cell? p=some v):b.cell? p=some v:=by
  have hb:p.block < a.heap.size:=World.block_lt_of_cell? _ _ hv;rw[World.cell?_of_block (w:=a) (h.block _ hb hc)];exact hv
theorem But.below {c:Nat}{a b:World}(h:But c a b){n:Nat}(hn:n<=c)(hs:n<=a.heap.size):Below n a b :=
  ⟨h.os,h.tape,h.output,h.size,fun k hk=>h.block k (by omega) (by omega)⟩
theorem But.fresh {w a b:World}{c:Nat}(x:Ext w a)(h:But c a b)(hc:w.heap.size<=c):Ext w b :=
  Below.trans x (h.below hc x.size)
theorem setOne {w:World}{B:Nat}{cs:Array Value}{T:TypeId}(h:w.heap[B]? = some (.cells cs T (0,0)))(i:Nat)(v:Value):
    (w.setCell ⟨B,i,none⟩ v).heap[B]? = some (.cells (cs.setIfInBounds i v) T (0,0)):=by
  unfold World.setCell;simp[Array.getElem?_modify,h]
def runA (step:Int->Stm × Nat->Int × Bool)(acc:Int):List (Stm × Nat)->Int × Bool
  | []=>(acc,true)
  | p::r=>if(step acc p).2=true then runA step (step acc p).1 r else ((step acc p).1,false)
theorem runA_app (step:Int->Stm × Nat->Int × Bool):∀ (acc:Int) (l m:List (Stm × Nat)),runA step acc (l++m)=if(runA step acc l).2=true then runA step (runA step acc l).1 m else runA step acc l
  | acc,[],m=>by simp[runA]
  | acc,p::r,m=>by
    rw[List.cons_append,runA,runA];by_cases h:(step acc p).2=true
    · rw[if_pos h,if_pos h,runA_app step _ r m]
    · rw[if_neg h,if_neg h,if_neg (by simp)]
def stepC (acc:Int)(_:Stm × Nat):Int × Bool:=(wrap64 (acc+1),true)
def stepV (_:Int)(p:Stm × Nat):Int × Bool:=(stmE p,decide (stmE p=0))
theorem runC_len : ∀ (l:List (Stm × Nat)) (acc:Int),0<=acc->acc+l.length < 9223372036854775808->runA stepC acc l=(acc+l.length,true)
  | [],acc,_,_=>by simp[runA]
  | p::r,acc,h,h2=>by
    rw[List.length_cons] at h2 ⊢;have e:(stepC acc p)=(acc+1,true):=by unfold stepC wrap64;rw[show(acc+1+9223372036854775808) % 18446744073709551616 - 9223372036854775808=acc+1 by omega]
    rw[runA,e,if_pos rfl,runC_len r (acc+1) (by omega) (by push_cast at h2 ⊢;omega)]
    push_cast
    rw[show acc+1+(r.length:Int)=acc+((r.length:Int)+1) by omega]
theorem runV_first : ∀ (l:List (Stm × Nat)),(runA stepV 0 l).1=firstE l
  | []=>rfl
  | p::r=>by
    rw[runA,firstE,stepV];by_cases h:stmE p=0
    · rw[if_pos (decide_eq_true h),if_neg (fun h'=>h' h),h];exact runV_first r
    · rw[if_neg (by simpa using h),if_pos h]
end Go.Proofs.YtjaeedbjknejdaaGreatDoor.Tr

namespace Go.Proofs.YtjaeedbjknejdaaGreatDoor.Pa
open Go.RowKit Go.Sort Go.Lib Go.Shelf Fx Lx Tr
theorem own_but {c:Nat}{w w':World}{B:Nat}{e:TypeId}{sz:Nat}{v:Value}{n:Nat}{xs:List Value}(h:w.ownsRow B e sz v n xs)(x:But c w w')(hB:c < B):w'.ownsRow B e sz v n xs:=by
  refine⟨h.1,?_⟩;rcases h.2 with h1 | ⟨g,cap,cur,hv,hb,hg,r⟩
  · exact .inl h1
  exact .inr ⟨g,cap,cur,hv,hb,(x.block g (Array.getElem?_eq_some_iff.1 hg).1 (by omega)).trans hg,r⟩
theorem But.grown {c:Nat}{a w w':World}{row:Option Nat}(h:But c a w)(hg:w.grownBy w' row)(hr:∀ k,row=some k->a.heap.size<=k):But c a w' :=
  ⟨hg.os.trans h.os,hg.tape.trans h.tape,hg.output.trans h.output,Nat.le_trans h.size hg.size,fun k hk hc=>(hg.block k (Nat.lt_of_lt_of_le hk h.size) (fun e=>by have:=hr k e.symm;omega)).trans (h.block k hk hc)⟩
def TwoP (ok:Nat->Prop)(w:World)(a:Option Addr)(L:List Two):Prop :=
  ∀ k (h:k < L.length),∃ g o,a=some ⟨g,o,none⟩/\ok g/\w.cell? ⟨g,o+k * 2,none⟩=some (.string L[k].1)/\w.cell? ⟨g,o+k * 2+1,none⟩=some (.string L[k].2)
def Kept (ok:Nat->Prop)(w w':World):Prop:=∀ g,ok g->g < w.heap.size->w'.heap[g]? = w.heap[g]?
theorem Kept.cell {ok:Nat->Prop}{w w':World}(h:Kept ok w w'){p:Addr}{v:Value}(hp:ok p.block)(hv:w.cell? p=some v):w'.cell? p=some v:=by
  rw[World.cell?_of_block (w:=w) (h _ hp (World.block_lt_of_cell? _ _ hv))];exact hv
theorem TwoP.keep {ok ok':Nat->Prop}{w w':World}{a:Option Addr}{L:List Two}(h:TwoP ok w a L)(k:Kept ok w w')(ho:∀ g,ok g->g < w.heap.size->ok' g):TwoP ok' w' a L:=fun i hi=>by
  obtain⟨g,o,ha,hg,h0,h1⟩:=h i hi;exact⟨g,o,ha,ho g hg (World.block_lt_of_cell? _ ⟨g,_,none⟩ h0),k.cell (p:=⟨g,_,none⟩) hg h0,k.cell (p:=⟨g,_,none⟩) hg h1⟩
theorem TwoP.at {ok:Nat->Prop}{w:World}{a:Option Addr}{L:List Two}{n:Nat}(h:TwoP ok w a L)(ho:∀ g,ok g->g < n):TwoAt n w a L:=fun i hi=>by
  obtain⟨g,o,ha,hg,h0,h1⟩:=h i hi;exact⟨g,o,ha,ho g hg,h0,h1⟩
def twosC (L:List Two):List Value:=L.flatMap fun q=>[.string q.1,.string q.2]
theorem twosC_snoc (L:List Two)(q:Two):twosC (L++[q])=twosC L++[.string q.1,.string q.2]:=by unfold twosC;simp
theorem twosC_at : ∀ (L:List Two) (k:Nat) (h:k < L.length),(twosC L)[k * 2]? = some (.string L[k].1)/\(twosC L)[k * 2+1]? = some (.string L[k].2)
  | [],k,h=>absurd h (by simp)
  | q::L,0,_=>⟨rfl,rfl⟩
  | q::L,k+1,h=>by
    have ih:=twosC_at L k (by simpa using h);have e:twosC (q::L)=.string q.1::.string q.2::twosC L:=rfl;rw[e,show(k+1) * 2=k * 2+1+1 by omega]
    simpa using ih
def TwoV (ok:Nat->Prop)(L:List Two)(u:Value)(w:World):Prop:=∃ a cap,u=.slice a L.length cap/\TwoP ok w a L/\L.length<=cap/\cap<=maxLen
theorem add_at (g j:Nat):(⟨g,0,none⟩:Addr).add j=⟨g,j,none⟩:=by simp[Addr.add];exact fun h=>h.symm
theorem own_two {w:World}{B:Nat}{e:TypeId}{v:Value}{L:List Two}(h:w.ownsRow B e 2 v L.length (twosC L)):TwoV (B <= ·) L v w:=by
  rcases h.2 with⟨h1,h2⟩ | ⟨g,cap,cur,hv,hb,hg,hn,hc,_⟩
  · exact⟨none,0,by rw[h1,h2],fun k hk=>absurd hk (by omega),by omega,by omega⟩
  refine⟨_,cap,hv,fun k hk=>⟨g,0,rfl,hb,?_,?_⟩,hn,hc⟩
  · have:=h.cells (g:=g) (by rw[hv];rfl) _ _ (twosC_at L k hk).1;rw[add_at] at this;rw[Nat.zero_add];exact this
  have:=h.cells (g:=g) (by rw[hv];rfl) _ _ (twosC_at L k hk).2;rw[add_at] at this;rw[Nat.zero_add];exact this
mutual
def StmP (ok:Nat->Prop)(w:World):Stm->List Value->Prop
  | .mk k nm rs al body,xs=>∃ r rc a ac b bc,xs=[.int .i64 k,.string nm,.slice r rs.length rc,.slice a al.length ac,.slice b body.length bc] /\
      TwoP ok w r rs/\TwoP ok w a al/\StmsP ok w b body/\rs.length<=rc/\al.length<=ac/\rc<=maxLen/\ac<=maxLen/\body.length<=maxLen
def StmsP (ok:Nat->Prop)(w:World)(b:Option Addr):List Stm->Prop
  | []=>True
  | x::r=>∃ g o xs,b=some ⟨g,o,none⟩/\ok g/\(∀ j u,xs[j]? = some u->w.cell? ⟨g,o+j,none⟩=some u)/\StmP ok w x xs/\StmsP ok w (some ⟨g,o+5,none⟩) r
end
theorem stmP_mk (ok : Nat -> Prop) (w : World) (s : Stm) (xs : List Value) : StmP ok w s xs ↔ ∃ r rc a ac b bc, xs = [.int .i64 s.kind, .string s.name, .slice r s.refs.length rc, .slice a s.attrs.length ac, .slice b s.body.length bc] /\
      TwoP ok w r s.refs/\TwoP ok w a s.attrs/\StmsP ok w b s.body/\s.refs.length<=rc/\s.attrs.length<=ac/\rc<=maxLen/\ac<=maxLen/\s.body.length<=maxLen:=by
  cases s;rw[StmP];rfl
mutual
theorem StmP.keep {ok ok':Nat->Prop}{w w':World}(k:Kept ok w w')(ho:∀ g,ok g->g < w.heap.size->ok' g):∀ (s:Stm) (xs:List Value),StmP ok w s xs->StmP ok' w' s xs
  | .mk kd nm rs al body,xs,h=>by
    rw[StmP] at h ⊢;obtain⟨r,rc,a,ac,b,bc,hx,hr,ha,hb,hl⟩:=h;exact⟨r,rc,a,ac,b,bc,hx,hr.keep k ho,ha.keep k ho,StmsP.keep k ho body b hb,hl⟩
theorem StmsP.keep {ok ok':Nat->Prop}{w w':World}(k:Kept ok w w')(ho:∀ g,ok g->g < w.heap.size->ok' g):∀ (L:List Stm) (b:Option Addr),StmsP ok w b L->StmsP ok' w' b L
  | [],_,_=>by rw[StmsP];trivial
  | s::L,b,h=>by
    rw[StmsP] at h ⊢;obtain⟨g,o,xs,hb,hg,hc,hs,hr⟩:=h
    have h0:∃ u,xs[0]? = some u:=by
      obtain⟨r,rc,a,ac,b,bc,hx,_⟩:=(stmP_mk ok w s xs).1 hs;exact⟨_,by rw[hx];rfl⟩
    obtain⟨u,hu⟩:=h0;exact⟨g,o,xs,hb,ho g hg (World.block_lt_of_cell? _ ⟨g,_,none⟩ (hc 0 u hu)),fun j u hj=>k.cell (p:=⟨g,_,none⟩) hg (hc j u hj),StmP.keep k ho s xs hs,StmsP.keep k ho L _ hr⟩
end
mutual
theorem StmP.at {ok:Nat->Prop}{w:World}{n:Nat}(ho:∀ g,ok g->g < n):∀ (s:Stm) (xs:List Value) (g o:Nat),StmP ok w s xs->(∀ j u,xs[j]? = some u->w.cell? ⟨g,o+j,none⟩=some u)->StmAt n w g o s
  | .mk kd nm rs al body,xs,g,o,h,hc=>by
    rw[StmP] at h;rw[StmAt];obtain⟨r,rc,a,ac,b,bc,hx,hr,ha,hb,hl⟩:=h;subst hx;exact⟨r,rc,a,ac,b,bc,hc 0 _ rfl,hc 1 _ rfl,hc 2 _ rfl,hc 3 _ rfl,hc 4 _ rfl,hr.at ho,ha.at ho,StmsP.at ho body b hb,hl⟩
theorem StmsP.at {ok:Nat->Prop}{w:World}{n:Nat}(ho:∀ g,ok g->g < n):∀ (L:List Stm) (b:Option Addr),StmsP ok w b L->StmsAt n w b L
  | [],_,_=>by rw[StmsAt];trivial
  | s::L,b,h=>by
    rw[StmsP] at h;rw[StmsAt];obtain⟨g,o,xs,hb,hg,hc,hs,hr⟩:=h;exact⟨g,o,hb,ho g hg,StmP.at ho s xs g o hs hc,StmsP.at ho L _ hr⟩
end
def StmsC (ok:Nat->Prop)(w:World):List Stm->List Value->Prop
  | [],X=>X=[]
  | s::L,X=>∃ xs Y,X=xs++Y/\xs.length=5/\StmP ok w s xs/\StmsC ok w L Y
theorem StmsC.snoc {ok:Nat->Prop}{w:World}{s:Stm}{xs:List Value}(hs:StmP ok w s xs)(hl:xs.length=5):∀ (L:List Stm) (X:List Value),StmsC ok w L X->StmsC ok w (L++[s]) (X++xs)
  | [],X,h=>by
    have h:X=[]:=h;subst h;exact⟨xs,[],by simp,hl,hs,rfl⟩
  | t::L,X,h=>by
    obtain⟨ys,Y,hX,h5,ht,hr⟩:=h;exact⟨ys,Y++xs,by rw[hX,List.append_assoc],h5,ht,StmsC.snoc hs hl L Y hr⟩
theorem StmsC.keep {ok ok':Nat->Prop}{w w':World}(k:Kept ok w w')(ho:∀ g,ok g->g < w.heap.size->ok' g):∀ (L:List Stm) (X:List Value),StmsC ok w L X->StmsC ok' w' L X
  | [],_,h=>h
  | s::L,X,h=>by
    obtain⟨xs,Y,hX,hl,hs,hr⟩:=h;exact⟨xs,Y,hX,hl,StmP.keep k ho s xs hs,StmsC.keep k ho L Y hr⟩
theorem StmsC.at {ok:Nat->Prop}{w:World}{g:Nat}(hg:ok g):∀ (L:List Stm) (X:List Value) (o:Nat),StmsC ok w L X->(∀ j u,X[j]? = some u->w.cell? ⟨g,o+j,none⟩=some u)->StmsP ok w (some ⟨g,o,none⟩) L
  | [],_,_,_,_=>by rw[StmsP];trivial
  | s::L,X,o,h,hc=>by
    obtain⟨xs,Y,hX,hl,hs,hr⟩:=h;rw[StmsP];refine⟨g,o,xs,rfl,hg,fun j u hj=>hc j u ?_,hs,StmsC.at hg L Y (o+5) hr fun j u hj=>?_⟩
    · rw[hX,List.getElem?_append_left (List.getElem?_eq_some_iff.1 hj).1];exact hj
    · have:=hc (5+j) u (by rw[hX,List.getElem?_append_right (by omega),hl,Nat.add_sub_cancel_left];exact hj);rw[Nat.add_assoc];exact this
def StmsV (ok:Nat->Prop)(L:List Stm)(u:Value)(w:World):Prop:=∃ b cap,u=.slice b L.length cap/\StmsP ok w b L/\L.length<=cap/\cap<=maxLen
theorem own_stms {w:World}{B:Nat}{e:TypeId}{v:Value}{L:List Stm}{X:List Value}{ok ok':Nat->Prop}(h:w.ownsRow B e 5 v L.length X)(hc:StmsC ok w L X)(ho:∀ g,ok g->ok' g)(hB:∀ g,B<=g->ok' g):StmsV ok' L v w:=by
  rcases h.2 with⟨h1,h2⟩ | ⟨g,cap,cur,hv,hb,hg,hn,hcap,_⟩
  · have hL:L=[]:=List.eq_nil_of_length_eq_zero h2;subst hL;exact⟨none,0,by rw[h1];rfl,by rw[StmsP];trivial,by simp,by simp⟩
  refine⟨_,cap,hv,StmsC.at (hB g hb) L X 0 (StmsC.keep (fun _ _ _=>rfl) (fun g h _=>ho g h) L X hc) fun j u hj=>?_,hn,hcap⟩;have:=h.cells (g:=g) (by rw[hv];rfl) j u hj;rw[add_at] at this;rw[Nat.zero_add];exact this
def StmV (ok:Nat->Prop)(s:Stm)(u:Value)(w:World):Prop:=∃ xs,u=.agg xs.toArray/\StmP ok w s xs
end Go.Proofs.YtjaeedbjknejdaaGreatDoor.Pa
