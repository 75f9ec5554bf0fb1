/- Packed texts: ExpTreA, ExpApT -/
import Derived.Test.YtjaeedbjknejdaaGreatDoorPu27
set_option linter.unusedVariables false
set_option linter.unusedSimpArgs false
set_option maxHeartbeats 16000000
set_option maxRecDepth 100000
namespace Go.Proofs.YtjaeedbjknejdaaGreatDoor.Ex
open Go Go.RowKit Go.Sort Go.Lib Go.Shelf Fx Lx Tr At Pa Go.Proofs.YtjaeedbjknejdaaGreatDoor.Nm
theorem size_tr : (Tryz.prog.info? 33).map (·.size)=some 3:=by kernel_rfl
theorem results_tr {fn:Func}{p u:Tmp}(h:fn.results=#[.cell p 33,.tmp u])(tmps:Array Value)(w:World)(g:Nat)(cs:Array Value)(e:Value)(hsz:cs.size=3)(hp:tmps.getD p undef=.pointer (some ⟨g,0,none⟩))(he:tmps.getD u undef=e)(hg:w.heap[g]? = some (.cells cs 33 (0,0))):
    (results fn tmps).run Tryz.prog w=.ok (.tuple #[.agg cs,e]) w:=by
  rw[results_cell_tmp h,hp,he];have hl:=run_loadVar_row (P:=Tryz.prog) w g 33 33 cs (0,0) _ hg Tryz.underlying33 rfl (by rw[size_tr,hsz]);simp[asAddr,Result.andThen,hl]
theorem cells3t {w:World}{g:Nat}{T:TypeId}{c0 c1 c2:Value}(h:w.heap[g]? = some (.cells #[c0,c1,c2] T (0,0))):
    w.cell? ⟨g,0,none⟩=some c0/\w.cell? ⟨g,1,none⟩=some c1/\w.cell? ⟨g,2,none⟩=some c2/\∀ j,w.frozen? ⟨g,j,none⟩=false:=by
  refine⟨?_,?_,?_,fun j=>Lib.frozen_of_heap h j⟩ <;> (rw[Lib.cell_of_heap h];rfl)
theorem set3t {w:World}{g:Nat}{T:TypeId}{c0 c1 c2:Value}(h:w.heap[g]? = some (.cells #[c0,c1,c2] T (0,0)))(v0 v1 v2:Value):
    (((w.setCell ⟨g,0,none⟩ v0).setCell ⟨g,1,none⟩ v1).setCell ⟨g,2,none⟩ v2).heap[g]? = some (.cells #[v0,v1,v2] T (0,0)) :=
  blk_set (blk_set (blk_set h 0 v0) 1 v1) 2 v2
theorem ext3t {w0 w:World}(x:Ext w0 w){g:Nat}(hg:w0.heap.size<=g)(v0 v1 v2:Value):Ext w0 (((w.setCell ⟨g,0,none⟩ v0).setCell ⟨g,1,none⟩ v1).setCell ⟨g,2,none⟩ v2) :=
  ((x.setCell hg v0).setCell hg v1).setCell hg v2
def tr0V : Value:=.agg #[.string ⟨#[]⟩,.bool false,.slice none 0 0]
theorem two_newT {w w3:World}{o o2:Obj}{cs:Array Value}{T:TypeId}(x:Ext (((w.alloc o).alloc o2).alloc (.cells cs T)) w3):w3.heap[w.heap.size+1+1]? = some (.cells cs T (0,0)):=by
  have h:=heap_alloc_new ((w.alloc o).alloc o2) (.cells cs T);simp only[World.size_alloc] at h;exact At.heap_ext h x
theorem treeA_bad (g:Gr)(na ea ca:Option Addr)(nac eac cac:Nat)(o:Op5)(w:World)(ha:GrIn w (.agg #[.string g.name,.bool g.dir,.slice na g.N.length nac,.slice ea g.E.length eac,.slice ca g.C.length cac]) g)(hcp:GrCp w (.agg #[.string g.name,.bool g.dir,.slice na g.N.length nac,.slice ea g.E.length eac,.slice ca g.C.length cac]) g)(hsm:GrSm g)(hbad:grE g ≠ 0\/inR5 o=false):
    Calls Tryz.prog 10 #[.agg #[.string g.name,.bool g.dir,.slice na g.N.length nac,.slice ea g.E.length eac,.slice ca g.C.length cac],opV o] w fun e w'=>e=.returned (.tuple #[tr0V,.int .i64 1])/\Ext w w':=by
  have hvg:=fun(w5:World) (x:Ext w w5)=>validG_any g _ w5 (ha.ext x) (hcp.ext ha x) hsm
  have hvo:=fun(w5:World)=>vopP_any o w5
  have e5:=ok5 o;obtain⟨V,hV⟩:∃ V,V=grE g:=⟨_,rfl⟩;rw[<-hV] at hbad;simp only[<-hV] at hvg;obtain⟨q,hq⟩:∃ n,n=g.N.length:=⟨_,rfl⟩;obtain⟨el,hel⟩:∃ n,n=g.E.length:=⟨_,rfl⟩;obtain⟨cl,hcle⟩:∃ n,n=g.C.length:=⟨_,rfl⟩;simp only[<-hq,<- hel,<- hcle] at hvg ⊢;unfold opV at hvo ⊢;obtain⟨mo,ns,rs,mg,rd⟩:=o;dsimp only at hvo ⊢;by_cases hv0:V=0
  · subst hv0
    have hb : inR5 ⟨mo, ns, rs, mg, rd⟩ = false := by rcases hbad with h | h; · exact absurd rfl h
                                                      · exact h
    rw[hb] at e5;simp only[e5] at hvo;have HVG:=Lib.hid hvg;have HVO:=Lib.hid hvo;clear hvg hvo hbad hV hb e5 ha hcp hsm hq hel hcle;go_enter Tryz.func10,Tryz.ntmps10
    go_wp2_with (first
      | (go_at_call 25;refine(HVG.out _ ((((Ext.refl _).alloc _).alloc _).alloc _)).mono ?_;rintro e w3 ⟨rfl,x3⟩;have X3:=Lib.hid x3;obtain⟨o0,o1,o2,o3,o4⟩:=cells5g (At.heap_ext (new2 _ _ _ (by simp)) (((Ext.refl _).alloc _).trans x3):w3.heap[w.heap.size+1]? = some (.cells #[.int .i64 mo,.int .i64 ns,.int .i64 rs,.int .i64 mg,.int .i64 rd] 28 (0,0)));clear x3)
      | (go_at_call 26;refine(HVO.out _).mono ?_;rintro e w4 ⟨rfl,x4⟩;have X4:=Lib.hid (X3.out.trans x4);have HG4:=Lib.hid (two_newT X4.out);obtain⟨z0,z1,z2,zf⟩:=cells3t HG4.out;clear x4))
    (try simp only[Exit.inBlock,Exit.then])
    refine bodyPost_ret (results_tr rfl _ _ (w.heap.size+1+1) _ (.int .i64 1) rfl rfl rfl (set3t HG4.out _ _ _)) rfl ?_;exact⟨rfl,ext3t (((((Ext.refl _).alloc _).alloc _).alloc _).trans X4.out) (by omega) _ _ _⟩
  obtain⟨f1,f2⟩:=nfacts hv0;have HVG:=Lib.hid hvg;clear hvg hvo hbad hV e5 ha hcp hsm hq hel hcle;go_enter Tryz.func10,Tryz.ntmps10;go_wp2_with (go_at_call 25;refine(HVG.out _ ((((Ext.refl _).alloc _).alloc _).alloc _)).mono ?_;rintro e w3 ⟨rfl,x3⟩;have X3:=Lib.hid x3;have HG4:=Lib.hid (two_newT x3);obtain⟨z0,z1,z2,zf⟩:=cells3t HG4.out;clear x3)
  (try simp only[Exit.inBlock,Exit.then])
  refine bodyPost_ret (results_tr rfl _ _ (w.heap.size+1+1) _ (.int .i64 1) rfl rfl rfl (set3t HG4.out _ _ _)) rfl ?_;exact⟨rfl,ext3t (((((Ext.refl _).alloc _).alloc _).alloc _).trans X3.out) (by omega) _ _ _⟩
theorem treeR_bad (g:Gr)(na ea ca:Option Addr)(nac eac cac:Nat)(o:Op5)(w:World)(ha:GrIn w (.agg #[.string g.name,.bool g.dir,.slice na g.N.length nac,.slice ea g.E.length eac,.slice ca g.C.length cac]) g)(hsm:GrSm g)(hbad:grE g ≠ 0\/inR5 o=false):
    Calls Tryz.prog 11 #[.agg #[.string g.name,.bool g.dir,.slice na g.N.length nac,.slice ea g.E.length eac,.slice ca g.C.length cac],opV o] w fun e w'=>e=.returned (.tuple #[tr0V,.int .i64 1])/\Ext w w':=by
  have hvg:=fun(w5:World) (x:Ext w w5)=>validGR_any g _ w5 (ha.ext x) hsm
  have hvo:=fun(w5:World)=>vopD_any o w5
  have e5:=ok5 o;obtain⟨V,hV⟩:∃ V,V=grE g:=⟨_,rfl⟩;rw[<-hV] at hbad;simp only[<-hV] at hvg;obtain⟨q,hq⟩:∃ n,n=g.N.length:=⟨_,rfl⟩;obtain⟨el,hel⟩:∃ n,n=g.E.length:=⟨_,rfl⟩;obtain⟨cl,hcle⟩:∃ n,n=g.C.length:=⟨_,rfl⟩;simp only[<-hq,<- hel,<- hcle] at hvg ⊢;unfold opV at hvo ⊢;obtain⟨mo,ns,rs,mg,rd⟩:=o;dsimp only at hvo ⊢;by_cases hv0:V=0
  · subst hv0
    have hb : inR5 ⟨mo, ns, rs, mg, rd⟩ = false := by rcases hbad with h | h; · exact absurd rfl h
                                                      · exact h
    rw[hb] at e5;simp only[e5] at hvo;have HVG:=Lib.hid hvg;have HVO:=Lib.hid hvo;clear hvg hvo hbad hV hb e5 ha hsm hq hel hcle;go_enter Tryz.func11,Tryz.ntmps11
    go_wp2_with (first
      | (go_at_call 31;refine(HVG.out _ ((((Ext.refl _).alloc _).alloc _).alloc _)).mono ?_;rintro e w3 ⟨rfl,x3⟩;have X3:=Lib.hid x3;obtain⟨o0,o1,o2,o3,o4⟩:=cells5g (At.heap_ext (new2 _ _ _ (by simp)) (((Ext.refl _).alloc _).trans x3):w3.heap[w.heap.size+1]? = some (.cells #[.int .i64 mo,.int .i64 ns,.int .i64 rs,.int .i64 mg,.int .i64 rd] 28 (0,0)));clear x3)
      | (go_at_call 32;refine(HVO.out _).mono ?_;rintro e w4 ⟨rfl,x4⟩;have X4:=Lib.hid (X3.out.trans x4);have HG4:=Lib.hid (two_newT X4.out);obtain⟨z0,z1,z2,zf⟩:=cells3t HG4.out;clear x4))
    (try simp only[Exit.inBlock,Exit.then])
    refine bodyPost_ret (results_tr rfl _ _ (w.heap.size+1+1) _ (.int .i64 1) rfl rfl rfl (set3t HG4.out _ _ _)) rfl ?_;exact⟨rfl,ext3t (((((Ext.refl _).alloc _).alloc _).alloc _).trans X4.out) (by omega) _ _ _⟩
  obtain⟨f1,f2⟩:=nfacts hv0;have HVG:=Lib.hid hvg;clear hvg hvo hbad hV e5 ha hsm hq hel hcle;go_enter Tryz.func11,Tryz.ntmps11;go_wp2_with (go_at_call 31;refine(HVG.out _ ((((Ext.refl _).alloc _).alloc _).alloc _)).mono ?_;rintro e w3 ⟨rfl,x3⟩;have X3:=Lib.hid x3;have HG4:=Lib.hid (two_newT x3);obtain⟨z0,z1,z2,zf⟩:=cells3t HG4.out;clear x3)
  (try simp only[Exit.inBlock,Exit.then])
  refine bodyPost_ret (results_tr rfl _ _ (w.heap.size+1+1) _ (.int .i64 1) rfl rfl rfl (set3t HG4.out _ _ _)) rfl ?_;exact⟨rfl,ext3t (((((Ext.refl _).alloc _).alloc _).alloc _).trans X3.out) (by omega) _ _ _⟩
end Go.Proofs.YtjaeedbjknejdaaGreatDoor.Ex

namespace Go.Proofs.YtjaeedbjknejdaaGreatDoor.Ex
open Go Go.RowKit Go.Sort Go.Lib Go.Shelf Fx Lx Tr At Pa Go.Proofs.YtjaeedbjknejdaaGreatDoor.Nm
def BarT (T:Nat->Prop)(B:Nat)(L:List Stm)(v:Value)(w:World):Prop:=∃ X,w.ownsRow B 67 5 v L.length X/\StmsC (fun g=>B<=g/\some g ≠ v.ownBlock/\¬ T g) w L X
theorem BarT.of {T:Nat->Prop}{B:Nat}{L:List Stm}{v:Value}{w:World}(h:BarAt B 0 L v w)(hT:∀ g,B<=g->g < w.heap.size->¬ T g):BarT T B L v w:=by
  obtain⟨X,o,c⟩:=h.own;refine⟨X,o,StmsC.keep (fun _ _ _=>rfl) (fun g hk hlt=>?_) L X c⟩;rcases hk with hk | hk
  · omega
  exact⟨hk.1,hk.2,hT g hk.1 hlt⟩
theorem BarT.turn {T T':Nat->Prop}{B:Nat}{L:List Stm}{v:Value}{w w':World}(h:BarT T B L v w)(x:Ext w w')(hT:∀ g,B<=g->g < w.heap.size->¬ T g->¬ T' g):BarT T' B L v w':=by
  obtain⟨X,o,c⟩:=h;exact⟨X,At.own_ext o x,StmsC.keep (fun g hk hlt=>x.block g hlt) (fun g hk hlt=>⟨hk.1,hk.2.1,hT g hk.1 hlt hk.2.2⟩) L X c⟩
theorem BarT.but {T:Nat->Prop}{B b:Nat}{L:List Stm}{v:Value}{w w':World}(h:BarT T B L v w)(x:But b w w')(hb:b < B):BarT T B L v w':=by
  obtain⟨X,o,c⟩:=h;exact⟨X,own_but o x hb,StmsC.keep (fun g hk hlt=>x.block g hlt (fun e=>by have:=hk.1;omega)) (fun g hk _=>hk) L X c⟩
theorem BarT.set {T:Nat->Prop}{B t j:Nat}{L:List Stm}{v u:Value}{w:World}{cs:Array Value}{TT:TypeId}(h:BarT T B L v w)(ht:T t)(hb:w.heap[t]? = some (.cells cs TT (0,0)))(hne:TT ≠ 67):BarT T B L v (w.setCell ⟨t,j,none⟩ u):=by
  obtain⟨X,o,c⟩:=h;refine⟨X,row_keep o (set_grown w t j u) (cel_ty hb) (nope (Ne.symm hne)),StmsC.keep (fun g hk hlt=>Below.heap_setCell _ _ _ _ (fun e=>hk.2.2 (by rw[e];exact ht))) (fun g hk _=>hk) L X c⟩
theorem stmsC_app {ok:Nat->Prop}{w:World}{M:List Stm}{Y:List Value}:∀ (K:List Stm) (X:List Value),StmsC ok w K X->StmsC ok w M Y->StmsC ok w (K++M) (X++Y)
  | [],X,h1,h2=>by have h1:X=[]:=h1;subst h1;exact h2
  | s::K,X,h1,h2=>by
    obtain⟨xs,Z,hX,h5,hs,hr⟩:=h1;exact⟨xs,Z++Y,by rw[hX,List.append_assoc],h5,hs,stmsC_app K Z hr h2⟩
theorem BarT.cat {T:Nat->Prop}{B:Nat}{K M:List Stm}{v v':Value}{wr w7:World}{X Y:List Value}(own:wr.ownsRow B 67 5 v K.length X)(hc:StmsC (fun g=>B<=g/\some g ≠ v.ownBlock/\¬ T g) wr K X)(hm:StmsC (fun g=>(B<=g/\some g ≠ v.ownBlock/\¬ T g)/\g < wr.heap.size) wr M Y)
    (hg:wr.grownBy w7 v.ownBlock) (ho:w7.ownsRow B 67 5 v' (K.length+M.length) (X++Y)) (hor:v'.ownBlock=v.ownBlock\/v'.ownBlock=some wr.heap.size):BarT T B (K++M) v' w7:=by
  have key:∀ g,g < wr.heap.size->some g ≠ v.ownBlock->some g ≠ v'.ownBlock:=fun g h1 h2=>by
    rcases hor with h | h <;> rw[h]
    · exact h2
    intro e;injection e with e;omega
  refine⟨X++Y,by rw[List.length_append];exact ho,stmsC_app K X ?_ ?_⟩
  · exact StmsC.keep (fun g hk hlt=>hg.block g hlt (fun e=>hk.2.1 e)) (fun g hk hlt=>⟨hk.1,key g hlt hk.2.1,hk.2.2⟩) K X hc
  exact StmsC.keep (fun g hk hlt=>hg.block g hlt (fun e=>hk.1.2.1 e)) (fun g hk hlt=>⟨hk.1.1,key g hlt hk.1.2.1,hk.1.2.2⟩) M Y hm
theorem run_append_stmsT {T:Nat->Prop}{t ty:TypeId}{i:TypeInfo}{z:Value}(w:World)(B:Nat)(ht:Tryz.prog.underlying t=some (.slice 67))(hi:Tryz.prog.info? 67=some i)(hz:i.zero=some z)(hsize:i.size=5)(hby:i.bytes=96)(hzs:z.cells.size=5)
    (K M:List Stm) (v:Value) (b:Option Addr) (c:Nat) (h:BarT T B K v w) (hb:StmsP (fun g=>B<=g/\some g ≠ v.ownBlock/\¬ T g) w b M) (hl:K.length+M.length<=1000) (hB:B<=w.heap.size) :
    ∃ v' w',(Builtin.append_ #[t,t] ty #[v,.slice b M.length c]).run Tryz.prog w=.ok v' w'/\BarT T B (K++M) v' w'/\w.grownBy w' v.ownBlock/\∀ g,v.ownBlock=some g->B<=g:=by
  obtain⟨X,own,hc⟩:=h;have hB2:∀ g,v.ownBlock=some g->B<=g:=fun g e=>(own.lt g e).1
  cases b with
  | none =>
    have hM:M=[]:=by
      cases M with
      | nil=>rfl
      | cons s M=>rw[StmsP] at hb;obtain⟨g,o,xs,e,-⟩:=hb;cases e
    subst hM;refine⟨v,w,run_append_no w B t ty _ i ht hi 5 v K.length X own c,by rw[List.append_nil];exact⟨X,own,hc⟩,⟨rfl,rfl,rfl,Nat.le_refl _,fun _ _ _=>rfl⟩,hB2⟩
  | some ad =>
    have hY:∃ Y:List Value,Y.length=M.length * 5/\StmsC (fun g=>B<=g/\some g ≠ v.ownBlock/\¬ T g) w M Y/\(∀ j u,Y[j]? = some u->w.cell? (ad.add j)=some u)/\∀ u ∈ Y,u.oneCell'=true:=by
      cases M with
      | nil=>exact⟨[],by simp,rfl,(by intro j u hj;simp at hj),(by intro u hu;simp at hu)⟩
      | cons s M =>
        have hb2:=hb;rw[StmsP] at hb2;obtain⟨g,o,xs,e,-⟩:=hb2;injection e with e;subst e;obtain⟨Y,h1,h2,h3,h4⟩:=stmsP_cells (s::M) o hb;exact⟨Y,h1,h2,fun j u hj=>by rw[add_o];exact h3 j u hj,h4⟩
    obtain⟨Y,hYl,hYc,hYn,hY1⟩:=hY;obtain⟨v',w',hr,ho,hg,-,hor⟩:=run_append_own_at (P:=Tryz.prog) w B t ty _ i z 5 96 ht hi hz hsize hby hzs (by decide) v K.length X own ad M.length c Y hYl hYn hY1 (by unfold maxLen;omega) (by omega) hB;exact⟨v',w',hr,BarT.cat own hc (StmsC.keep (fun _ _ _=>rfl) (fun g hk hlt=>⟨hk,hlt⟩) M Y hYc) hg ho hor,hg,hB2⟩
theorem step_append_stmsT {T:Nat->Prop}{ops:Array Oper}{o:Oper}{a:Act}{Kk:Act->World->Prop}{Q:Exit->Act->World->Prop}{E:Prop}{w:World}(hgd:o.guard=none)(s x:Operand)(t:TypeId)
    (ho:o.op=.call { callee:=.builtin .append,args:=#[s,x],argTypes:=#[t,t] }) {i:TypeInfo} {z:Value} (B:Nat) (ht:Tryz.prog.underlying t=some (.slice 67)) (hi:Tryz.prog.info? 67=some i) (hz:i.zero=some z) (hsize:i.size=5) (hby:i.bytes=96) (hzs:z.cells.size=5)
    (K M:List Stm) (v:Value) (b:Option Addr) (c:Nat) (hs:a.eval s=v) (hx:a.eval x=.slice b M.length c) (hk:BarT T B K v w) (hb:StmsP (fun g=>B<=g/\some g ≠ v.ownBlock/\¬ T g) w b M) (hl:K.length+M.length<=1000) (hB:B<=w.heap.size)
    (h:∀ v' w',BarT T B (K++M) v' w'->w.grownBy w' v.ownBlock->(∀ g,v.ownBlock=some g->B<=g)->Kk (a.put o.dst v') w') :
    if Region.wanted o (yielded ops a.tmps)=true then Oper.wp Tryz.prog o a w Kk Q else E:=by
  have hw:Region.wanted o (yielded ops a.tmps)=true:=by simp[Region.wanted,hgd]
  rw[if_pos hw];obtain⟨v',w',hr,h2,h3,h4⟩:=run_append_stmsT (t:=t) (ty:=o.type) w B ht hi hz hsize hby hzs K M v b c hk hb hl hB;unfold Oper.wp execOp;simp only[ho,resolve,invoke,builtin,Sem.run_bind,Sem.run_pure,Result.andThen_ok,List.map_toArray,List.map_cons,List.map_nil,hs,hx,hr];exact h v' w' h2 h3 h4
end Go.Proofs.YtjaeedbjknejdaaGreatDoor.Ex
