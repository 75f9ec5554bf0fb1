/- Packed texts: ExpClo -/
import Derived.Test.YtjaeedbjknejdaaGreatDoorPd27
set_option linter.unusedVariables false
set_option linter.unusedSimpArgs false
set_option maxHeartbeats 16000000
set_option maxRecDepth 100000
namespace Go.Proofs.YtjaeedbjknejdaaGreatDoor.Ex
open Go.RowKit Go.Sort Go.Lib Go.Shelf Fx Lx Tr At Pa Go.Proofs.YtjaeedbjknejdaaGreatDoor.Nm
section
open Region
variable {P:Program} {ops:Array Oper} {Q:Exit->Act->World->Prop} {md:Region.Mode} {S:World->Prop} {n:Nat}
theorem wpAnyK_two {i j:Nat}{oi oj:Oper}{fuel:Nat}{listed:Array Bool}{a:Act}{w:World}(hoi:ops[i]? = some oi)(hoj:ops[j]? = some oj)(hr:Region.ready md ops listed=[i,j])
  (hi:∀ K':Act->World->Prop,Shut (∀ a w,(i ≠ n->S w)->((i ≠ n->S w)->wpAnyK P md ops Q S n fuel (listed.setIfInBounds i true) a w)->K' a w)->if Region.wanted oi (yielded ops a.tmps)=true then Oper.wp P oi a w K' Q else K' (a.put oi.dst undef) w)
  (hj:∀ K':Act->World->Prop,Shut (∀ a w,(j ≠ n->S w)->((j ≠ n->S w)->wpAnyK P md ops Q S n fuel (listed.setIfInBounds j true) a w)->K' a w)->if Region.wanted oj (yielded ops a.tmps)=true then Oper.wp P oj a w K' Q else K' (a.put oj.dst undef) w) :
  wpAnyK P md ops Q S n (fuel+1) listed a w:=by
 refine⟨fun h0=>absurd (hr ▸ h0) (by simp),fun m hm=>?_⟩;rw[hr] at hm;rcases List.mem_cons.1 hm with rfl | hm
 ·exact wpOp_step hoi (fun K' hK=>hi K' (fun a w hS hW=>hK a w ⟨hS,hW hS⟩))
 have hm':=List.mem_singleton.1 hm;subst hm';exact wpOp_step hoj (fun K' hK=>hj K' (fun a w hS hW=>hK a w ⟨hS,hW hS⟩))
theorem wpAnyK_three {i j m:Nat}{oi oj om:Oper}{fuel:Nat}{listed:Array Bool}{a:Act}{w:World}(hoi:ops[i]? = some oi)(hoj:ops[j]? = some oj)(hom:ops[m]? = some om)(hr:Region.ready md ops listed=[i,j,m])
  (hi:∀ K':Act->World->Prop,Shut (∀ a w,(i ≠ n->S w)->((i ≠ n->S w)->wpAnyK P md ops Q S n fuel (listed.setIfInBounds i true) a w)->K' a w)->if Region.wanted oi (yielded ops a.tmps)=true then Oper.wp P oi a w K' Q else K' (a.put oi.dst undef) w)
  (hj:∀ K':Act->World->Prop,Shut (∀ a w,(j ≠ n->S w)->((j ≠ n->S w)->wpAnyK P md ops Q S n fuel (listed.setIfInBounds j true) a w)->K' a w)->if Region.wanted oj (yielded ops a.tmps)=true then Oper.wp P oj a w K' Q else K' (a.put oj.dst undef) w)
  (hm:∀ K':Act->World->Prop,Shut (∀ a w,(m ≠ n->S w)->((m ≠ n->S w)->wpAnyK P md ops Q S n fuel (listed.setIfInBounds m true) a w)->K' a w)->if Region.wanted om (yielded ops a.tmps)=true then Oper.wp P om a w K' Q else K' (a.put om.dst undef) w) :
  wpAnyK P md ops Q S n (fuel+1) listed a w:=by
 refine⟨fun h0=>absurd (hr ▸ h0) (by simp),fun l hl=>?_⟩;rw[hr] at hl;rcases List.mem_cons.1 hl with rfl | hl
 ·exact wpOp_step hoi (fun K' hK=>hi K' (fun a w hS hW=>hK a w ⟨hS,hW hS⟩))
 rcases List.mem_cons.1 hl with rfl | hl
 ·exact wpOp_step hoj (fun K' hK=>hj K' (fun a w hS hW=>hK a w ⟨hS,hW hS⟩))
 have hl':=List.mem_singleton.1 hl;subst hl';exact wpOp_step hom (fun K' hK=>hm K' (fun a w hS hW=>hK a w ⟨hS,hW hS⟩))
end
structure OptK (w2:World)(gv:Nat)(L:List Stm)(v:Value)(wx:World):Prop where
 own:BarAt w2.heap.size 0 L v wx
 b:But gv w2 wx
 bx:wx.heap[gv]? = some (.cells #[v] 31 (0,0))
 lo:gv < w2.heap.size
theorem row5 (X:List Value)(z0 z1 z2 z3 z4 u0 u1 u2 u3 u4:Value)(m:Nat)(h:X.length=m):((((((X++[z0,z1,z2,z3,z4]).set m u0).set (m+1) u1).set (m+2) u2).set (m+3) u3).set (m+4) u4)=X++[u0,u1,u2,u3,u4]:=by
 subst h;simp[List.set_append]
theorem clo_done {w2 wx w8:World}{gv g7 c7 LN ga:Nat}{L:List Stm}{v:Value}{X:List Value}{k x:ByteArray}{z0 z1 z2 z3 z4:Value}(h:OptK w2 gv L v wx)(hn:LN=L.length)(own:wx.ownsRow w2.heap.size 67 5 v LN X)(hc:StmsC (OkB 0 w2.heap.size v) wx L X)
  (own8:w8.ownsRow w2.heap.size 67 5 (.slice (some ⟨g7,0,none⟩) (LN+1) c7) (LN+1) (X++[z0,z1,z2,z3,z4])) (hg:wx.grownBy w8 v.ownBlock)
  (hga:w8.heap[ga]? = some (.cells #[.string ⟨#[]⟩,.string x] 69 (0,0))) (hga2:wx.heap.size<=ga) (hne:ga ≠ g7) (hor:v.ownBlock=some g7\/wx.heap.size<=g7) :
  OptK w2 gv (L++[setS k x]) (.slice (some ⟨g7,0,none⟩) (LN+1) c7) ((((((w8.setCell ⟨g7,LN * 5,none⟩ (.int .i64 4)).setCell ⟨g7,LN * 5+1,none⟩ (.string k)).setCell ⟨g7,LN * 5+2,none⟩ (.slice none 0 0)).setCell ⟨g7,LN * 5+3,none⟩ (.slice (some ⟨ga,0,none⟩) 1 1)).setCell ⟨g7,LN * 5+4,none⟩ (.slice none 0 0)).setCell ⟨gv,0,none⟩ (.slice (some ⟨g7,0,none⟩) (LN+1) c7)):=by
 subst hn;have hX:X.length=L.length * 5:=own.1;have hlt7:w2.heap.size<=g7:=(own8.lt g7 rfl).1;have hgv:gv ≠ g7:=by have:=h.lo;omega
 have hsz:=h.b.size;have hgs:=hg.size;have row:=row_set (row_set (row_set (row_set (row_set own8 (L.length * 5) (by simp;omega) (.int .i64 4)) (L.length * 5+1) (by simp;omega) (.string k)) (L.length * 5+2) (by simp;omega) (.slice none 0 0)) (L.length * 5+3) (by simp;omega) (.slice (some ⟨ga,0,none⟩) 1 1)) (L.length * 5+4) (by simp;omega) (.slice none 0 0);rw[row5 X _ _ _ _ _ _ _ _ _ _ _ hX] at row;obtain⟨w9,hw9⟩:∃ w9,w9=((((w8.setCell ⟨g7,L.length * 5,none⟩ (.int .i64 4)).setCell ⟨g7,L.length * 5+1,none⟩ (.string k)).setCell ⟨g7,L.length * 5+2,none⟩ (.slice none 0 0)).setCell ⟨g7,L.length * 5+3,none⟩ (.slice (some ⟨ga,0,none⟩) 1 1)).setCell ⟨g7,L.length * 5+4,none⟩ (.slice none 0 0):=⟨_,rfl⟩;rw[<-hw9] at row ⊢
 have k9:∀ g,g ≠ g7->w9.heap[g]? = w8.heap[g]? := fun g hg=>by
  rw[hw9,Below.heap_setCell _ _ _ _ hg,Below.heap_setCell _ _ _ _ hg,Below.heap_setCell _ _ _ _ hg,Below.heap_setCell _ _ _ _ hg,Below.heap_setCell _ _ _ _ hg]
 have s9:w9.heap.size=w8.heap.size:=by rw[hw9,size_setC,size_setC,size_setC,size_setC,size_setC]
 have o9:w9.os=w8.os/\w9.tape=w8.tape/\w9.output=w8.output:=by rw[hw9];exact⟨rfl,rfl,rfl⟩
 have hvb:∀ g,g < wx.heap.size->some g ≠ v.ownBlock->w8.heap[g]? = wx.heap[g]? := fun g h1 h2=>hg.block g h1 h2
 have hgvb:some gv ≠ v.ownBlock:=fun e=>by have:=(own.lt gv e.symm).1;have:=h.lo;omega
 have b9:w9.heap[gv]? = some (.cells #[v] 31 (0,0)):=by rw[k9 gv hgv,hvb gv (by have:=h.lo;omega) hgvb];exact h.bx
 have e:(Value.slice (some ⟨g7,0,none⟩) (L.length+1) c7).ownBlock=some g7:=rfl;refine⟨⟨X++[.int .i64 4,.string k,.slice none 0 0,.slice (some ⟨ga,0,none⟩) 1 1,.slice none 0 0],by rw[List.length_append];exact own_but (c:=gv) row (But.setCell (c:=gv) (But.refl gv w9) ⟨gv,0,none⟩ rfl _) h.lo,StmsC.snoc ?_ rfl L X ?_⟩,?_,by rw[blk_set b9];rfl,h.lo⟩
 ·refine stm_made (twoP_nil _ _) (fun j hj=>?_) (Nat.le_refl _) (Nat.le_refl _) (Nat.zero_le _) (by unfold maxLen;omega);have h2:j=0:=by simp at hj;omega
  subst h2
  have hb:(w9.setCell ⟨gv,0,none⟩ (.slice (some ⟨g7,0,none⟩) (L.length+1) c7)).heap[ga]? = some (.cells #[.string ⟨#[]⟩,.string x] 69 (0,0)):=by
   rw[Below.heap_setCell _ _ _ _ (show ga ≠ gv by have:=h.lo;omega),k9 ga hne];exact hga
  exact⟨ga,0,rfl,.inr ⟨by omega,by rw[e];intro e3;injection e3 with e3;exact hne e3⟩,by rw[Lib.cell_of_heap hb];rfl,by rw[Lib.cell_of_heap hb];rfl⟩
 ·refine StmsC.keep (fun g hk hlt=>?_) (fun g hk hlt=>?_) L X hc
  ·rcases hk with hk | hk
   ·omega
   have h7:g ≠ g7:=fun e2=>by
    rcases hor with h3 | h3
    ·exact hk.2 (by rw[h3,e2])
    omega
   rw[Below.heap_setCell _ _ _ _ (show g ≠ gv by have:=h.lo;omega),k9 g h7];exact hvb g hlt hk.2
  rcases hk with hk | hk
  ·exact .inl hk
  refine .inr ⟨hk.1,?_⟩;rw[e];intro e3;injection e3 with e3;rcases hor with h3 | h3
  ·exact hk.2 (by rw[h3,e3])
  omega
 refine But.setCell (c:=gv) ⟨o9.1.trans (hg.os.trans h.b.os),o9.2.1.trans (hg.tape.trans h.b.tape),o9.2.2.trans (hg.output.trans h.b.output),by omega,fun g h1 h2=>?_⟩ ⟨gv,0,none⟩ rfl _;rw[k9 g (by omega),hvb g (by omega) (fun e2=>by have:=(own.lt g e2.symm).1;omega)];exact h.b.block g h1 h2
theorem keep_cell {b c:Nat}(w:World)(j:Nat)(u:Value)(h:c ≠ b){i:Nat}{v:Value}:(w.cell? ⟨c,i,none⟩=some v->(w.setCell ⟨b,j,none⟩ u).cell? ⟨c,i,none⟩=some v)/\(w.frozen? ⟨c,i,none⟩=false->(w.setCell ⟨b,j,none⟩ u).frozen? ⟨c,i,none⟩=false):=by
 have e:(w.setCell ⟨b,j,none⟩ u).heap[c]? = w.heap[c]? := Below.heap_setCell _ _ _ _ h;exact⟨fun x=>by rw[World.cell?_of_block (w:=w) e];exact x,fun x=>by rw[World.frozen?_of_block (w:=w) e];exact x⟩
theorem grown_of {w wA w7:World}{row:Option Nat}(x:Ext w wA)(hg:wA.grownBy w7 row):w.grownBy w7 row :=
 ⟨hg.os.trans x.os,hg.tape.trans x.tape,hg.output.trans x.output,Nat.le_trans x.size hg.size,fun k h1 h2=>(hg.block k (Nat.lt_of_lt_of_le h1 x.size) h2).trans (x.block k h1)⟩
theorem setCell_swap (w:World){g g':Nat}(h:g ≠ g')(j j':Nat)(u u':Value):(w.setCell ⟨g,j,none⟩ u).setCell ⟨g',j',none⟩ u'=(w.setCell ⟨g',j',none⟩ u').setCell ⟨g,j,none⟩ u:=by
 unfold World.setCell
 congr 1
 apply Array.ext_getElem?;intro i;simp only[Array.getElem?_modify];by_cases h1:g=i
 ·by_cases h2:g'=i
  ·exact absurd (h1.trans h2.symm) h
  simp[h1,h2]
 by_cases h2:g'=i <;> simp[h1,h2]
theorem clo_done2 {w2 wx w8:World}{gv g7 c7 LN ga:Nat}{L:List Stm}{v:Value}{X:List Value}{k x:ByteArray}{z0 z1 z2 z3 z4:Value}(h:OptK w2 gv L v wx)(hn:LN=L.length)(own:wx.ownsRow w2.heap.size 67 5 v LN X)(hc:StmsC (OkB 0 w2.heap.size v) wx L X)
  (own8:w8.ownsRow w2.heap.size 67 5 (.slice (some ⟨g7,0,none⟩) (LN+1) c7) (LN+1) (X++[z0,z1,z2,z3,z4])) (hg:wx.grownBy w8 v.ownBlock)
  (hga:w8.heap[ga]? = some (.cells #[.string ⟨#[]⟩,.string x] 69 (0,0))) (hga2:wx.heap.size<=ga) (hne:ga ≠ g7) (hor:v.ownBlock=some g7\/wx.heap.size<=g7) :
  OptK w2 gv (L++[setS k x]) (.slice (some ⟨g7,0,none⟩) (LN+1) c7) ((((((w8.setCell ⟨gv,0,none⟩ (.slice (some ⟨g7,0,none⟩) (LN+1) c7)).setCell ⟨g7,LN * 5,none⟩ (.int .i64 4)).setCell ⟨g7,LN * 5+1,none⟩ (.string k)).setCell ⟨g7,LN * 5+2,none⟩ (.slice none 0 0)).setCell ⟨g7,LN * 5+3,none⟩ (.slice (some ⟨ga,0,none⟩) 1 1)).setCell ⟨g7,LN * 5+4,none⟩ (.slice none 0 0)):=by
 have hgv:gv ≠ g7:=by have:=(own8.lt g7 rfl).1;have:=h.lo;omega
 rw[setCell_swap _ hgv,setCell_swap _ hgv,setCell_swap _ hgv,setCell_swap _ hgv,setCell_swap _ hgv];exact clo_done h hn own hc own8 hg hga hga2 hne hor
theorem row_tail {w:World}{B T g n c m:Nat}{X:List Value}{z0 z1 z2 z3 z4:Value}(h:w.ownsRow B T 5 (.slice (some ⟨g,0,none⟩) n c) n (X++[z0,z1,z2,z3,z4]))(hX:X.length=m * 5):
  w.cell? ⟨g,m * 5,none⟩=some z0/\w.cell? ⟨g,m * 5+1,none⟩=some z1/\w.cell? ⟨g,m * 5+2,none⟩=some z2/\w.cell? ⟨g,m * 5+3,none⟩=some z3/\w.cell? ⟨g,m * 5+4,none⟩=some z4/\∀ j,w.frozen? ⟨g,j,none⟩=false:=by
 have hc:=h.cells (g:=g) rfl;rw[<-hX]
 have get:∀ i u,[z0,z1,z2,z3,z4][i]? = some u->w.cell? ⟨g,X.length+i,none⟩=some u:=fun i u hu=>by
  have:=hc (X.length+i) u (by rw[List.getElem?_append_right (by omega)];rw[show X.length+i - X.length=i by omega];exact hu);rw[add0] at this;exact this
 refine⟨get 0 z0 rfl,get 1 z1 rfl,get 2 z2 rfl,get 3 z3 rfl,get 4 z4 rfl,fun j=>?_⟩;have h1:=h.1;rcases h.2 with⟨h2,_⟩ | ⟨g',cap,cur,hv,_,hg,_⟩
 ·cases h2
 injection hv with hv;injection hv with hv;injection hv with hv;subst hv;exact Lib.frozen_of_heap hg j
theorem row_cap {w:World}{B T sz g n c:Nat}{xs:List Value}(h:w.ownsRow B T sz (.slice (some ⟨g,0,none⟩) n c) n xs):n<=c/\c<=maxLen:=by
 obtain⟨a,c',e,h1,h2⟩:=row_val h;injection e with _ _ e3;rw[e3];exact⟨h1,h2⟩
theorem ty_ne {w:World}{B T T' sz g n c ga:Nat}{cs:Array Value}{xs:List Value}(h:w.heap[ga]? = some (.cells cs T' (0,0)))(ho:w.ownsRow B T sz (.slice (some ⟨g,0,none⟩) n c) n xs)(hne:T' ≠ T):ga ≠ g:=fun e=>by
 subst e;rcases ho.2 with⟨h2,_⟩ | ⟨g',cap,cur,hv,_,hg,_⟩
 ·cases h2
 injection hv with hv;injection hv with hv;injection hv with hv;subst hv;rw[h] at hg;injection hg with hg;injection hg with _ hg;exact hne hg
theorem keep_cell5 {w:World}{g gv m:Nat}{u0 u1 u2 u3 u4 v:Value}(h:gv ≠ g)(hc:w.cell? ⟨gv,0,none⟩=some v):(((((w.setCell ⟨g,m,none⟩ u0).setCell ⟨g,m+1,none⟩ u1).setCell ⟨g,m+2,none⟩ u2).setCell ⟨g,m+3,none⟩ u3).setCell ⟨g,m+4,none⟩ u4).cell? ⟨gv,0,none⟩=some v :=
 (keep_cell _ _ _ h).1 ((keep_cell _ _ _ h).1 ((keep_cell _ _ _ h).1 ((keep_cell _ _ _ h).1 ((keep_cell _ _ _ h).1 hc))))
theorem keep_froz5 {w:World}{g gv m:Nat}{u0 u1 u2 u3 u4:Value}(h:gv ≠ g)(hc:w.frozen? ⟨gv,0,none⟩=false):(((((w.setCell ⟨g,m,none⟩ u0).setCell ⟨g,m+1,none⟩ u1).setCell ⟨g,m+2,none⟩ u2).setCell ⟨g,m+3,none⟩ u3).setCell ⟨g,m+4,none⟩ u4).frozen? ⟨gv,0,none⟩=false :=
 (keep_cell (v:=undef) _ _ _ h).2 ((keep_cell (v:=undef) _ _ _ h).2 ((keep_cell (v:=undef) _ _ _ h).2 ((keep_cell (v:=undef) _ _ _ h).2 ((keep_cell (v:=undef) _ _ _ h).2 hc))))
theorem clo_any (k x:ByteArray)(w2:World)(gv:Nat)(L:List Stm)(v:Value)(w:World)(h:OptK w2 gv L v w)(hL:L.length<=10):
  Calls Tryz.prog 62 #[.string k,.string x,.pointer (some ⟨gv,0,none⟩)] w fun e w'=>e=.returned (.tuple #[])/\∃ v',OptK w2 gv (L++[setS k x]) v' w':=by
 obtain⟨X,hown,hrow⟩:=h.own.own;obtain⟨j0,hj0,hjz0,hjz1,hjz2⟩:=info_parts info_stm;obtain⟨LN,hLN⟩:∃ n,n=L.length:=⟨_,rfl⟩;rw[<-hLN] at hown hL;obtain⟨a,c,rfl,hac,hcm⟩:=row_val hown;have HN:=hid hLN;have HK:=hid h;have OW:=hid hown;have OR:=hid hrow;have b0:w.cell? ⟨gv,0,none⟩=some (.slice a LN c):=by rw[Lib.cell_of_heap h.bx];rfl
 have d0:(0:Int)<=(LN:Int):=by omega
 have d1:(LN:Int) < (LN:Int)+1:=by omega
 have b0A:∀ ob,(w.alloc ob).cell? ⟨gv,0,none⟩=some (.slice a LN c):=fun ob=>((Ext.refl w).alloc ob).cell b0
 have b0B:∀ ob ob',((w.alloc ob).alloc ob').cell? ⟨gv,0,none⟩=some (.slice a LN c):=fun ob ob'=>(((Ext.refl w).alloc ob).alloc ob').cell b0
 clear h hown hrow hLN;go_enter Tryz.func62,Tryz.ntmps62;go_wp2_with fail;refine wp_region_K (S:=fun _=>True) (n:=10) (by kernel_rfl) trivial (fun _=>?_);refine kT 10 1 ?_ rfl (by kernel_rfl) (fun _ _ _ h=>h) (Or.inl ⟨by rfl,?_⟩) trivial ?_;rotate_left
 ·(intro w' hSw;clear hSw;go_simp <;> with_reducible rfl)
 (try simp only[Act.put,q1,q2,q3])
 refine kT 10 2 ?_ rfl (by kernel_rfl) (fun _ _ _ h=>h) (Or.inl ⟨by rfl,?_⟩) trivial ?_;rotate_left
 ·(intro w' hSw;clear hSw;go_simp <;> with_reducible rfl)
 (try simp only[Act.put,q1,q2,q3])
 refine kT 10 3 ?_ rfl (by kernel_rfl) (fun _ _ _ h=>h) (Or.inl ⟨by rfl,?_⟩) trivial ?_;rotate_left
 ·(intro w' hSw;clear hSw;go_simp <;> with_reducible rfl)
 (try simp only[Act.put,q1,q2,q3])
 refine wpAnyK_three (i:=0) (j:=4) (m:=7) (oi:=_) (oj:=_) (om:=_) rfl rfl rfl (by kernel_rfl) (fun KK hKK=>?_) (fun KK hKK=>?_) (fun KK hKK=>?_)
 ·go_simp;refine hKK.out _ _ (fun _=>trivial) (fun _=>?_);clear hKK KK
  (try simp only[Act.put,q1,q2,q3])
  refine kT 10 6 ?_ rfl (by kernel_rfl) (fun _ _ _ h=>h) (Or.inl ⟨by rfl,?_⟩) trivial ?_;rotate_left
  ·(intro w' hSw;clear hSw;go_simp <;> with_reducible rfl)
  (try simp only[Act.put,q1,q2,q3])
  refine wpAnyK_two (i:=4) (j:=7) (oi:=_) (oj:=_) rfl rfl (by kernel_rfl) (fun KK hKK=>?_) (fun KK hKK=>?_)
  ·go_simp;refine hKK.out _ _ (fun _=>trivial) (fun _=>?_);clear hKK KK
   (try simp only[Act.put,q1,q2,q3])
   refine kT 10 5 ?_ rfl (by kernel_rfl) (fun _ _ _ h=>h) (Or.inl ⟨by rfl,?_⟩) trivial ?_;rotate_left
   ·(intro w' hSw;clear hSw;go_simp <;> with_reducible rfl)
   (try simp only[Act.put,q1,q2,q3])
   refine wpAnyK_step (o:=_) (i:=7) rfl (by kernel_rfl) (fun KK hKK=>?_);go_simp;refine hKK.out _ _ (fun _=>trivial) (fun _=>?_);clear hKK KK
   (try simp only[Act.put,q1,q2,q3])
   refine wpAnyK_step (o:=_) (i:=8) rfl (by kernel_rfl) (fun KK hKK=>?_);have OWA:=hid (At.own_ext OW.out ((((Ext.refl w).alloc (.cells #[.string ⟨#[]⟩,.string x] 69)).alloc (.cells #[.int .i64 0,.string ⟨#[]⟩,.slice none 0 0,.slice none 0 0,.slice none 0 0] 67)).drew))
   refine step_append_lies _ (by rfl) _ _ 31 (by rfl) w2.heap.size 67 j0 _ 5 96 Tryz.underlying31 hj0 hjz0 hjz1 hjz2 rfl (by decide) _ _ _ (by rfl) OWA.out ⟨w.heap.size+1,0,none⟩ 1 1 [.int .i64 0,.string ⟨#[]⟩,.slice none 0 0,.slice none 0 0,.slice none 0 0] (by rfl) (by rfl) (World.news_of_block (cs:=#[.int .i64 0,.string ⟨#[]⟩,.slice none 0 0,.slice none 0 0,.slice none 0 0]) (t:=67) (fr:=(0,0)) (new2 w _ _ (by simp))) (by intro u hu;simp at hu;rcases hu with rfl | rfl | rfl | rfl | rfl <;> rfl) (by omega) (by unfold maxLen;omega) (by omega) (by have:=HK.out.b.size;simp;omega) _ rfl ?_;intro g7 c7 w7 hown7 hgrow7 hor7 _
   have G7:Hid (w.grownBy w7 (Value.slice a LN c).ownBlock):=hid (grown_of ((((Ext.refl w).alloc (.cells #[.string ⟨#[]⟩,.string x] 69)).alloc (.cells #[.int .i64 0,.string ⟨#[]⟩,.slice none 0 0,.slice none 0 0,.slice none 0 0] 67)).drew) hgrow7);have O7:=hid hown7;have OR7:Hid ((Value.slice a LN c).ownBlock=some g7\/w.heap.size<=g7):=hid (hor7.imp id (fun h=>by rw[h];simp;try omega));have hgv7:w7.heap[gv]? = some (.cells #[.slice a LN c] 31 (0,0)):=by rw[G7.out.block gv (Array.getElem?_eq_some_iff.1 HK.out.bx).1 (fun e=>by have:=(OW.out.lt gv e.symm).1;have:=HK.out.lo;omega)];exact HK.out.bx
   have f0:w7.cell? ⟨gv,0,none⟩=some (.slice a LN c):=by rw[Lib.cell_of_heap hgv7];rfl
   have ff:w7.frozen? ⟨gv,0,none⟩=false:=Lib.frozen_of_heap hgv7 0;obtain⟨r0,r1,r2,r3,r4,rf⟩:=row_tail O7.out (by have:=OW.out.1;exact this);obtain⟨hgc,hgm⟩:=row_cap O7.out;have hne7:gv ≠ g7:=by have:=(O7.out.lt g7 rfl).1;have:=HK.out.lo;omega
   have s0:=fun u=>(keep_cell w7 0 u (Ne.symm hne7)).1 r0;have s1:=fun u=>(keep_cell w7 0 u (Ne.symm hne7)).1 r1;have s2:=fun u=>(keep_cell w7 0 u (Ne.symm hne7)).1 r2;have s3:=fun u=>(keep_cell w7 0 u (Ne.symm hne7)).1 r3;have s4:=fun u=>(keep_cell w7 0 u (Ne.symm hne7)).1 r4
   have sf:=fun j u=>(keep_cell (i:=j) (v:=undef) w7 0 u (Ne.symm hne7)).2 (rf j)
   have HGA:Hid (w7.heap[w.heap.size]? = some (.cells #[.string ⟨#[]⟩,.string x] 69 (0,0))):=hid (by rw[hgrow7.block (w.heap.size) (by simp <;> omega) (fun e=>by have:=(OW.out.lt _ e.symm).2;omega)];exact At.heap_ext (heap_alloc_new w _) (((Ext.refl _).alloc _).drew));have HGA2:Hid (w.heap.size<=w.heap.size):=hid (by omega);have HNE:Hid (w.heap.size ≠ g7):=hid (ty_ne HGA.out O7.out (by decide));have hk5:∀ u0 u1 u2 u3 u4,(((((w7.setCell ⟨g7,LN * 5,none⟩ u0).setCell ⟨g7,LN * 5+1,none⟩ u1).setCell ⟨g7,LN * 5+2,none⟩ u2).setCell ⟨g7,LN * 5+3,none⟩ u3).setCell ⟨g7,LN * 5+4,none⟩ u4).cell? ⟨gv,0,none⟩=some (.slice a LN c):=fun _ _ _ _ _=>keep_cell5 hne7 f0
   have hf5:∀ u0 u1 u2 u3 u4,(((((w7.setCell ⟨g7,LN * 5,none⟩ u0).setCell ⟨g7,LN * 5+1,none⟩ u1).setCell ⟨g7,LN * 5+2,none⟩ u2).setCell ⟨g7,LN * 5+3,none⟩ u3).setCell ⟨g7,LN * 5+4,none⟩ u4).frozen? ⟨gv,0,none⟩=false:=fun _ _ _ _ _=>keep_froz5 hne7 ff
   clear hown7 hor7 hgrow7;refine hKK.out _ _ (fun _=>trivial) (fun _=>?_);clear hKK KK
   (try simp only[Act.put,q1,q2,q3])
   refine kT 10 9 ?_ rfl (by kernel_rfl) (fun _ _ _ h=>h) (Or.inl ⟨by rfl,?_⟩) trivial ?_;rotate_left
   ·(intro w' hSw;clear hSw;go_simp <;> with_reducible rfl)
   (try simp only[Act.put,q1,q2,q3])
   refine wpAnyK_two (i:=10) (j:=11) (oi:=_) (oj:=_) rfl rfl (by kernel_rfl) (fun KK hKK=>?_) (fun KK hKK=>?_)
   ·go_simp;refine hKK.out _ _ (fun _=>trivial) (fun _=>?_);clear hKK KK
    (try simp only[Act.put,q1,q2,q3])
    refine wpAnyK_step (o:=_) (i:=11) rfl (by kernel_rfl) (fun KK hKK=>?_);go_simp;refine hKK.out _ _ (fun _=>trivial) (fun _=>?_);clear hKK KK
    (try simp only[Act.put,q1,q2,q3])
    refine wpAnyK_done (by kernel_rfl) ?_ _;go_wp2;refine bodyPost_end (results_none rfl _ _ _) rfl ?_;exact⟨rfl,_,clo_done HK.out HN.out OW.out OR.out O7.out G7.out HGA.out HGA2.out HNE.out OR7.out⟩
   go_simp;refine hKK.out _ _ (fun _=>trivial) (fun _=>?_);clear hKK KK
   (try simp only[Act.put,q1,q2,q3])
   refine wpAnyK_step (o:=_) (i:=10) rfl (by kernel_rfl) (fun KK hKK=>?_);go_simp;refine hKK.out _ _ (fun _=>trivial) (fun _=>?_);clear hKK KK
   (try simp only[Act.put,q1,q2,q3])
   refine wpAnyK_done (by kernel_rfl) ?_ _;go_wp2;refine bodyPost_end (results_none rfl _ _ _) rfl ?_;exact⟨rfl,_,clo_done2 HK.out HN.out OW.out OR.out O7.out G7.out HGA.out HGA2.out HNE.out OR7.out⟩
  go_simp;refine hKK.out _ _ (fun _=>trivial) (fun _=>?_);clear hKK KK
  (try simp only[Act.put,q1,q2,q3])
  refine wpAnyK_step (o:=_) (i:=4) rfl (by kernel_rfl) (fun KK hKK=>?_);go_simp;refine hKK.out _ _ (fun _=>trivial) (fun _=>?_);clear hKK KK
  (try simp only[Act.put,q1,q2,q3])
  refine kT 10 5 ?_ rfl (by kernel_rfl) (fun _ _ _ h=>h) (Or.inl ⟨by rfl,?_⟩) trivial ?_;rotate_left
  ·(intro w' hSw;clear hSw;go_simp <;> with_reducible rfl)
  (try simp only[Act.put,q1,q2,q3])
  refine wpAnyK_step (o:=_) (i:=8) rfl (by kernel_rfl) (fun KK hKK=>?_);have OWA:=hid (At.own_ext OW.out ((((Ext.refl w).alloc (.cells #[.int .i64 0,.string ⟨#[]⟩,.slice none 0 0,.slice none 0 0,.slice none 0 0] 67)).alloc (.cells #[.string ⟨#[]⟩,.string x] 69)).drew))
  refine step_append_lies _ (by rfl) _ _ 31 (by rfl) w2.heap.size 67 j0 _ 5 96 Tryz.underlying31 hj0 hjz0 hjz1 hjz2 rfl (by decide) _ _ _ (by rfl) OWA.out ⟨w.heap.size,0,none⟩ 1 1 [.int .i64 0,.string ⟨#[]⟩,.slice none 0 0,.slice none 0 0,.slice none 0 0] (by rfl) (by rfl) (World.news_of_block (cs:=#[.int .i64 0,.string ⟨#[]⟩,.slice none 0 0,.slice none 0 0,.slice none 0 0]) (t:=67) (fr:=(0,0)) (At.heap_ext (heap_alloc_new w _) (((Ext.refl _).alloc _).drew))) (by intro u hu;simp at hu;rcases hu with rfl | rfl | rfl | rfl | rfl <;> rfl) (by omega) (by unfold maxLen;omega) (by omega) (by have:=HK.out.b.size;simp;omega) _ rfl ?_;intro g7 c7 w7 hown7 hgrow7 hor7 _
  have G7:Hid (w.grownBy w7 (Value.slice a LN c).ownBlock):=hid (grown_of ((((Ext.refl w).alloc (.cells #[.int .i64 0,.string ⟨#[]⟩,.slice none 0 0,.slice none 0 0,.slice none 0 0] 67)).alloc (.cells #[.string ⟨#[]⟩,.string x] 69)).drew) hgrow7);have O7:=hid hown7;have OR7:Hid ((Value.slice a LN c).ownBlock=some g7\/w.heap.size<=g7):=hid (hor7.imp id (fun h=>by rw[h];simp;try omega));have hgv7:w7.heap[gv]? = some (.cells #[.slice a LN c] 31 (0,0)):=by rw[G7.out.block gv (Array.getElem?_eq_some_iff.1 HK.out.bx).1 (fun e=>by have:=(OW.out.lt gv e.symm).1;have:=HK.out.lo;omega)];exact HK.out.bx
  have f0:w7.cell? ⟨gv,0,none⟩=some (.slice a LN c):=by rw[Lib.cell_of_heap hgv7];rfl
  have ff:w7.frozen? ⟨gv,0,none⟩=false:=Lib.frozen_of_heap hgv7 0;obtain⟨r0,r1,r2,r3,r4,rf⟩:=row_tail O7.out (by have:=OW.out.1;exact this);obtain⟨hgc,hgm⟩:=row_cap O7.out;have hne7:gv ≠ g7:=by have:=(O7.out.lt g7 rfl).1;have:=HK.out.lo;omega
  have s0:=fun u=>(keep_cell w7 0 u (Ne.symm hne7)).1 r0;have s1:=fun u=>(keep_cell w7 0 u (Ne.symm hne7)).1 r1;have s2:=fun u=>(keep_cell w7 0 u (Ne.symm hne7)).1 r2;have s3:=fun u=>(keep_cell w7 0 u (Ne.symm hne7)).1 r3;have s4:=fun u=>(keep_cell w7 0 u (Ne.symm hne7)).1 r4
  have sf:=fun j u=>(keep_cell (i:=j) (v:=undef) w7 0 u (Ne.symm hne7)).2 (rf j)
  have HGA:Hid (w7.heap[w.heap.size+1]? = some (.cells #[.string ⟨#[]⟩,.string x] 69 (0,0))):=hid (by rw[hgrow7.block (w.heap.size+1) (by simp <;> omega) (fun e=>by have:=(OW.out.lt _ e.symm).2;omega)];exact At.heap_ext (new2 w _ _ (by simp)) ((Ext.refl _).drew));have HGA2:Hid (w.heap.size<=w.heap.size+1):=hid (by omega);have HNE:Hid (w.heap.size+1 ≠ g7):=hid (ty_ne HGA.out O7.out (by decide));have hk5:∀ u0 u1 u2 u3 u4,(((((w7.setCell ⟨g7,LN * 5,none⟩ u0).setCell ⟨g7,LN * 5+1,none⟩ u1).setCell ⟨g7,LN * 5+2,none⟩ u2).setCell ⟨g7,LN * 5+3,none⟩ u3).setCell ⟨g7,LN * 5+4,none⟩ u4).cell? ⟨gv,0,none⟩=some (.slice a LN c):=fun _ _ _ _ _=>keep_cell5 hne7 f0
  have hf5:∀ u0 u1 u2 u3 u4,(((((w7.setCell ⟨g7,LN * 5,none⟩ u0).setCell ⟨g7,LN * 5+1,none⟩ u1).setCell ⟨g7,LN * 5+2,none⟩ u2).setCell ⟨g7,LN * 5+3,none⟩ u3).setCell ⟨g7,LN * 5+4,none⟩ u4).frozen? ⟨gv,0,none⟩=false:=fun _ _ _ _ _=>keep_froz5 hne7 ff
  clear hown7 hor7 hgrow7;refine hKK.out _ _ (fun _=>trivial) (fun _=>?_);clear hKK KK
  (try simp only[Act.put,q1,q2,q3])
  refine kT 10 9 ?_ rfl (by kernel_rfl) (fun _ _ _ h=>h) (Or.inl ⟨by rfl,?_⟩) trivial ?_;rotate_left
  ·(intro w' hSw;clear hSw;go_simp <;> with_reducible rfl)
  (try simp only[Act.put,q1,q2,q3])
  refine wpAnyK_two (i:=10) (j:=11) (oi:=_) (oj:=_) rfl rfl (by kernel_rfl) (fun KK hKK=>?_) (fun KK hKK=>?_)
  ·go_simp;refine hKK.out _ _ (fun _=>trivial) (fun _=>?_);clear hKK KK
   (try simp only[Act.put,q1,q2,q3])
   refine wpAnyK_step (o:=_) (i:=11) rfl (by kernel_rfl) (fun KK hKK=>?_);go_simp;refine hKK.out _ _ (fun _=>trivial) (fun _=>?_);clear hKK KK
   (try simp only[Act.put,q1,q2,q3])
   refine wpAnyK_done (by kernel_rfl) ?_ _;go_wp2;refine bodyPost_end (results_none rfl _ _ _) rfl ?_;exact⟨rfl,_,clo_done HK.out HN.out OW.out OR.out O7.out G7.out HGA.out HGA2.out HNE.out OR7.out⟩
  go_simp;refine hKK.out _ _ (fun _=>trivial) (fun _=>?_);clear hKK KK
  (try simp only[Act.put,q1,q2,q3])
  refine wpAnyK_step (o:=_) (i:=10) rfl (by kernel_rfl) (fun KK hKK=>?_);go_simp;refine hKK.out _ _ (fun _=>trivial) (fun _=>?_);clear hKK KK
  (try simp only[Act.put,q1,q2,q3])
  refine wpAnyK_done (by kernel_rfl) ?_ _;go_wp2;refine bodyPost_end (results_none rfl _ _ _) rfl ?_;exact⟨rfl,_,clo_done2 HK.out HN.out OW.out OR.out O7.out G7.out HGA.out HGA2.out HNE.out OR7.out⟩
 ·go_simp;refine hKK.out _ _ (fun _=>trivial) (fun _=>?_);clear hKK KK
  (try simp only[Act.put,q1,q2,q3])
  refine kT 10 5 ?_ rfl (by kernel_rfl) (fun _ _ _ h=>h) (Or.inl ⟨by rfl,?_⟩) trivial ?_;rotate_left
  ·(intro w' hSw;clear hSw;go_simp <;> with_reducible rfl)
  (try simp only[Act.put,q1,q2,q3])
  refine wpAnyK_two (i:=0) (j:=7) (oi:=_) (oj:=_) rfl rfl (by kernel_rfl) (fun KK hKK=>?_) (fun KK hKK=>?_)
  ·go_simp;refine hKK.out _ _ (fun _=>trivial) (fun _=>?_);clear hKK KK
   (try simp only[Act.put,q1,q2,q3])
   refine kT 10 6 ?_ rfl (by kernel_rfl) (fun _ _ _ h=>h) (Or.inl ⟨by rfl,?_⟩) trivial ?_;rotate_left
   ·(intro w' hSw;clear hSw;go_simp <;> with_reducible rfl)
   (try simp only[Act.put,q1,q2,q3])
   refine wpAnyK_step (o:=_) (i:=7) rfl (by kernel_rfl) (fun KK hKK=>?_);go_simp;refine hKK.out _ _ (fun _=>trivial) (fun _=>?_);clear hKK KK
   (try simp only[Act.put,q1,q2,q3])
   refine wpAnyK_step (o:=_) (i:=8) rfl (by kernel_rfl) (fun KK hKK=>?_);have OWA:=hid (At.own_ext OW.out ((((Ext.refl w).alloc (.cells #[.string ⟨#[]⟩,.string x] 69)).alloc (.cells #[.int .i64 0,.string ⟨#[]⟩,.slice none 0 0,.slice none 0 0,.slice none 0 0] 67)).drew))
   refine step_append_lies _ (by rfl) _ _ 31 (by rfl) w2.heap.size 67 j0 _ 5 96 Tryz.underlying31 hj0 hjz0 hjz1 hjz2 rfl (by decide) _ _ _ (by rfl) OWA.out ⟨w.heap.size+1,0,none⟩ 1 1 [.int .i64 0,.string ⟨#[]⟩,.slice none 0 0,.slice none 0 0,.slice none 0 0] (by rfl) (by rfl) (World.news_of_block (cs:=#[.int .i64 0,.string ⟨#[]⟩,.slice none 0 0,.slice none 0 0,.slice none 0 0]) (t:=67) (fr:=(0,0)) (new2 w _ _ (by simp))) (by intro u hu;simp at hu;rcases hu with rfl | rfl | rfl | rfl | rfl <;> rfl) (by omega) (by unfold maxLen;omega) (by omega) (by have:=HK.out.b.size;simp;omega) _ rfl ?_;intro g7 c7 w7 hown7 hgrow7 hor7 _
   have G7:Hid (w.grownBy w7 (Value.slice a LN c).ownBlock):=hid (grown_of ((((Ext.refl w).alloc (.cells #[.string ⟨#[]⟩,.string x] 69)).alloc (.cells #[.int .i64 0,.string ⟨#[]⟩,.slice none 0 0,.slice none 0 0,.slice none 0 0] 67)).drew) hgrow7);have O7:=hid hown7;have OR7:Hid ((Value.slice a LN c).ownBlock=some g7\/w.heap.size<=g7):=hid (hor7.imp id (fun h=>by rw[h];simp;try omega));have hgv7:w7.heap[gv]? = some (.cells #[.slice a LN c] 31 (0,0)):=by rw[G7.out.block gv (Array.getElem?_eq_some_iff.1 HK.out.bx).1 (fun e=>by have:=(OW.out.lt gv e.symm).1;have:=HK.out.lo;omega)];exact HK.out.bx
   have f0:w7.cell? ⟨gv,0,none⟩=some (.slice a LN c):=by rw[Lib.cell_of_heap hgv7];rfl
   have ff:w7.frozen? ⟨gv,0,none⟩=false:=Lib.frozen_of_heap hgv7 0;obtain⟨r0,r1,r2,r3,r4,rf⟩:=row_tail O7.out (by have:=OW.out.1;exact this);obtain⟨hgc,hgm⟩:=row_cap O7.out;have hne7:gv ≠ g7:=by have:=(O7.out.lt g7 rfl).1;have:=HK.out.lo;omega
   have s0:=fun u=>(keep_cell w7 0 u (Ne.symm hne7)).1 r0;have s1:=fun u=>(keep_cell w7 0 u (Ne.symm hne7)).1 r1;have s2:=fun u=>(keep_cell w7 0 u (Ne.symm hne7)).1 r2;have s3:=fun u=>(keep_cell w7 0 u (Ne.symm hne7)).1 r3;have s4:=fun u=>(keep_cell w7 0 u (Ne.symm hne7)).1 r4
   have sf:=fun j u=>(keep_cell (i:=j) (v:=undef) w7 0 u (Ne.symm hne7)).2 (rf j)
   have HGA:Hid (w7.heap[w.heap.size]? = some (.cells #[.string ⟨#[]⟩,.string x] 69 (0,0))):=hid (by rw[hgrow7.block (w.heap.size) (by simp <;> omega) (fun e=>by have:=(OW.out.lt _ e.symm).2;omega)];exact At.heap_ext (heap_alloc_new w _) (((Ext.refl _).alloc _).drew));have HGA2:Hid (w.heap.size<=w.heap.size):=hid (by omega);have HNE:Hid (w.heap.size ≠ g7):=hid (ty_ne HGA.out O7.out (by decide));have hk5:∀ u0 u1 u2 u3 u4,(((((w7.setCell ⟨g7,LN * 5,none⟩ u0).setCell ⟨g7,LN * 5+1,none⟩ u1).setCell ⟨g7,LN * 5+2,none⟩ u2).setCell ⟨g7,LN * 5+3,none⟩ u3).setCell ⟨g7,LN * 5+4,none⟩ u4).cell? ⟨gv,0,none⟩=some (.slice a LN c):=fun _ _ _ _ _=>keep_cell5 hne7 f0
   have hf5:∀ u0 u1 u2 u3 u4,(((((w7.setCell ⟨g7,LN * 5,none⟩ u0).setCell ⟨g7,LN * 5+1,none⟩ u1).setCell ⟨g7,LN * 5+2,none⟩ u2).setCell ⟨g7,LN * 5+3,none⟩ u3).setCell ⟨g7,LN * 5+4,none⟩ u4).frozen? ⟨gv,0,none⟩=false:=fun _ _ _ _ _=>keep_froz5 hne7 ff
   clear hown7 hor7 hgrow7;refine hKK.out _ _ (fun _=>trivial) (fun _=>?_);clear hKK KK
   (try simp only[Act.put,q1,q2,q3])
   refine kT 10 9 ?_ rfl (by kernel_rfl) (fun _ _ _ h=>h) (Or.inl ⟨by rfl,?_⟩) trivial ?_;rotate_left
   ·(intro w' hSw;clear hSw;go_simp <;> with_reducible rfl)
   (try simp only[Act.put,q1,q2,q3])
   refine wpAnyK_two (i:=10) (j:=11) (oi:=_) (oj:=_) rfl rfl (by kernel_rfl) (fun KK hKK=>?_) (fun KK hKK=>?_)
   ·go_simp;refine hKK.out _ _ (fun _=>trivial) (fun _=>?_);clear hKK KK
    (try simp only[Act.put,q1,q2,q3])
    refine wpAnyK_step (o:=_) (i:=11) rfl (by kernel_rfl) (fun KK hKK=>?_);go_simp;refine hKK.out _ _ (fun _=>trivial) (fun _=>?_);clear hKK KK
    (try simp only[Act.put,q1,q2,q3])
    refine wpAnyK_done (by kernel_rfl) ?_ _;go_wp2;refine bodyPost_end (results_none rfl _ _ _) rfl ?_;exact⟨rfl,_,clo_done HK.out HN.out OW.out OR.out O7.out G7.out HGA.out HGA2.out HNE.out OR7.out⟩
   go_simp;refine hKK.out _ _ (fun _=>trivial) (fun _=>?_);clear hKK KK
   (try simp only[Act.put,q1,q2,q3])
   refine wpAnyK_step (o:=_) (i:=10) rfl (by kernel_rfl) (fun KK hKK=>?_);go_simp;refine hKK.out _ _ (fun _=>trivial) (fun _=>?_);clear hKK KK
   (try simp only[Act.put,q1,q2,q3])
   refine wpAnyK_done (by kernel_rfl) ?_ _;go_wp2;refine bodyPost_end (results_none rfl _ _ _) rfl ?_;exact⟨rfl,_,clo_done2 HK.out HN.out OW.out OR.out O7.out G7.out HGA.out HGA2.out HNE.out OR7.out⟩
  go_simp;refine hKK.out _ _ (fun _=>trivial) (fun _=>?_);clear hKK KK
  (try simp only[Act.put,q1,q2,q3])
  refine wpAnyK_step (o:=_) (i:=0) rfl (by kernel_rfl) (fun KK hKK=>?_);go_simp;refine hKK.out _ _ (fun _=>trivial) (fun _=>?_);clear hKK KK
  (try simp only[Act.put,q1,q2,q3])
  refine kT 10 6 ?_ rfl (by kernel_rfl) (fun _ _ _ h=>h) (Or.inl ⟨by rfl,?_⟩) trivial ?_;rotate_left
  ·(intro w' hSw;clear hSw;go_simp <;> with_reducible rfl)
  (try simp only[Act.put,q1,q2,q3])
  refine wpAnyK_step (o:=_) (i:=8) rfl (by kernel_rfl) (fun KK hKK=>?_);have OWA:=hid (At.own_ext OW.out ((((Ext.refl w).alloc (.cells #[.string ⟨#[]⟩,.string x] 69)).alloc (.cells #[.int .i64 0,.string ⟨#[]⟩,.slice none 0 0,.slice none 0 0,.slice none 0 0] 67)).drew))
  refine step_append_lies _ (by rfl) _ _ 31 (by rfl) w2.heap.size 67 j0 _ 5 96 Tryz.underlying31 hj0 hjz0 hjz1 hjz2 rfl (by decide) _ _ _ (by rfl) OWA.out ⟨w.heap.size+1,0,none⟩ 1 1 [.int .i64 0,.string ⟨#[]⟩,.slice none 0 0,.slice none 0 0,.slice none 0 0] (by rfl) (by rfl) (World.news_of_block (cs:=#[.int .i64 0,.string ⟨#[]⟩,.slice none 0 0,.slice none 0 0,.slice none 0 0]) (t:=67) (fr:=(0,0)) (new2 w _ _ (by simp))) (by intro u hu;simp at hu;rcases hu with rfl | rfl | rfl | rfl | rfl <;> rfl) (by omega) (by unfold maxLen;omega) (by omega) (by have:=HK.out.b.size;simp;omega) _ rfl ?_;intro g7 c7 w7 hown7 hgrow7 hor7 _
  have G7:Hid (w.grownBy w7 (Value.slice a LN c).ownBlock):=hid (grown_of ((((Ext.refl w).alloc (.cells #[.string ⟨#[]⟩,.string x] 69)).alloc (.cells #[.int .i64 0,.string ⟨#[]⟩,.slice none 0 0,.slice none 0 0,.slice none 0 0] 67)).drew) hgrow7);have O7:=hid hown7;have OR7:Hid ((Value.slice a LN c).ownBlock=some g7\/w.heap.size<=g7):=hid (hor7.imp id (fun h=>by rw[h];simp;try omega));have hgv7:w7.heap[gv]? = some (.cells #[.slice a LN c] 31 (0,0)):=by rw[G7.out.block gv (Array.getElem?_eq_some_iff.1 HK.out.bx).1 (fun e=>by have:=(OW.out.lt gv e.symm).1;have:=HK.out.lo;omega)];exact HK.out.bx
  have f0:w7.cell? ⟨gv,0,none⟩=some (.slice a LN c):=by rw[Lib.cell_of_heap hgv7];rfl
  have ff:w7.frozen? ⟨gv,0,none⟩=false:=Lib.frozen_of_heap hgv7 0;obtain⟨r0,r1,r2,r3,r4,rf⟩:=row_tail O7.out (by have:=OW.out.1;exact this);obtain⟨hgc,hgm⟩:=row_cap O7.out;have hne7:gv ≠ g7:=by have:=(O7.out.lt g7 rfl).1;have:=HK.out.lo;omega
  have s0:=fun u=>(keep_cell w7 0 u (Ne.symm hne7)).1 r0;have s1:=fun u=>(keep_cell w7 0 u (Ne.symm hne7)).1 r1;have s2:=fun u=>(keep_cell w7 0 u (Ne.symm hne7)).1 r2;have s3:=fun u=>(keep_cell w7 0 u (Ne.symm hne7)).1 r3;have s4:=fun u=>(keep_cell w7 0 u (Ne.symm hne7)).1 r4
  have sf:=fun j u=>(keep_cell (i:=j) (v:=undef) w7 0 u (Ne.symm hne7)).2 (rf j)
  have HGA:Hid (w7.heap[w.heap.size]? = some (.cells #[.string ⟨#[]⟩,.string x] 69 (0,0))):=hid (by rw[hgrow7.block (w.heap.size) (by simp <;> omega) (fun e=>by have:=(OW.out.lt _ e.symm).2;omega)];exact At.heap_ext (heap_alloc_new w _) (((Ext.refl _).alloc _).drew));have HGA2:Hid (w.heap.size<=w.heap.size):=hid (by omega);have HNE:Hid (w.heap.size ≠ g7):=hid (ty_ne HGA.out O7.out (by decide));have hk5:∀ u0 u1 u2 u3 u4,(((((w7.setCell ⟨g7,LN * 5,none⟩ u0).setCell ⟨g7,LN * 5+1,none⟩ u1).setCell ⟨g7,LN * 5+2,none⟩ u2).setCell ⟨g7,LN * 5+3,none⟩ u3).setCell ⟨g7,LN * 5+4,none⟩ u4).cell? ⟨gv,0,none⟩=some (.slice a LN c):=fun _ _ _ _ _=>keep_cell5 hne7 f0
  have hf5:∀ u0 u1 u2 u3 u4,(((((w7.setCell ⟨g7,LN * 5,none⟩ u0).setCell ⟨g7,LN * 5+1,none⟩ u1).setCell ⟨g7,LN * 5+2,none⟩ u2).setCell ⟨g7,LN * 5+3,none⟩ u3).setCell ⟨g7,LN * 5+4,none⟩ u4).frozen? ⟨gv,0,none⟩=false:=fun _ _ _ _ _=>keep_froz5 hne7 ff
  clear hown7 hor7 hgrow7;refine hKK.out _ _ (fun _=>trivial) (fun _=>?_);clear hKK KK
  (try simp only[Act.put,q1,q2,q3])
  refine kT 10 9 ?_ rfl (by kernel_rfl) (fun _ _ _ h=>h) (Or.inl ⟨by rfl,?_⟩) trivial ?_;rotate_left
  ·(intro w' hSw;clear hSw;go_simp <;> with_reducible rfl)
  (try simp only[Act.put,q1,q2,q3])
  refine wpAnyK_two (i:=10) (j:=11) (oi:=_) (oj:=_) rfl rfl (by kernel_rfl) (fun KK hKK=>?_) (fun KK hKK=>?_)
  ·go_simp;refine hKK.out _ _ (fun _=>trivial) (fun _=>?_);clear hKK KK
   (try simp only[Act.put,q1,q2,q3])
   refine wpAnyK_step (o:=_) (i:=11) rfl (by kernel_rfl) (fun KK hKK=>?_);go_simp;refine hKK.out _ _ (fun _=>trivial) (fun _=>?_);clear hKK KK
   (try simp only[Act.put,q1,q2,q3])
   refine wpAnyK_done (by kernel_rfl) ?_ _;go_wp2;refine bodyPost_end (results_none rfl _ _ _) rfl ?_;exact⟨rfl,_,clo_done HK.out HN.out OW.out OR.out O7.out G7.out HGA.out HGA2.out HNE.out OR7.out⟩
  go_simp;refine hKK.out _ _ (fun _=>trivial) (fun _=>?_);clear hKK KK
  (try simp only[Act.put,q1,q2,q3])
  refine wpAnyK_step (o:=_) (i:=10) rfl (by kernel_rfl) (fun KK hKK=>?_);go_simp;refine hKK.out _ _ (fun _=>trivial) (fun _=>?_);clear hKK KK
  (try simp only[Act.put,q1,q2,q3])
  refine wpAnyK_done (by kernel_rfl) ?_ _;go_wp2;refine bodyPost_end (results_none rfl _ _ _) rfl ?_;exact⟨rfl,_,clo_done2 HK.out HN.out OW.out OR.out O7.out G7.out HGA.out HGA2.out HNE.out OR7.out⟩
 go_simp;refine hKK.out _ _ (fun _=>trivial) (fun _=>?_);clear hKK KK
 (try simp only[Act.put,q1,q2,q3])
 refine wpAnyK_two (i:=0) (j:=4) (oi:=_) (oj:=_) rfl rfl (by kernel_rfl) (fun KK hKK=>?_) (fun KK hKK=>?_)
 ·go_simp;refine hKK.out _ _ (fun _=>trivial) (fun _=>?_);clear hKK KK
  (try simp only[Act.put,q1,q2,q3])
  refine kT 10 6 ?_ rfl (by kernel_rfl) (fun _ _ _ h=>h) (Or.inl ⟨by rfl,?_⟩) trivial ?_;rotate_left
  ·(intro w' hSw;clear hSw;go_simp <;> with_reducible rfl)
  (try simp only[Act.put,q1,q2,q3])
  refine wpAnyK_step (o:=_) (i:=4) rfl (by kernel_rfl) (fun KK hKK=>?_);go_simp;refine hKK.out _ _ (fun _=>trivial) (fun _=>?_);clear hKK KK
  (try simp only[Act.put,q1,q2,q3])
  refine kT 10 5 ?_ rfl (by kernel_rfl) (fun _ _ _ h=>h) (Or.inl ⟨by rfl,?_⟩) trivial ?_;rotate_left
  ·(intro w' hSw;clear hSw;go_simp <;> with_reducible rfl)
  (try simp only[Act.put,q1,q2,q3])
  refine wpAnyK_step (o:=_) (i:=8) rfl (by kernel_rfl) (fun KK hKK=>?_);have OWA:=hid (At.own_ext OW.out ((((Ext.refl w).alloc (.cells #[.int .i64 0,.string ⟨#[]⟩,.slice none 0 0,.slice none 0 0,.slice none 0 0] 67)).alloc (.cells #[.string ⟨#[]⟩,.string x] 69)).drew))
  refine step_append_lies _ (by rfl) _ _ 31 (by rfl) w2.heap.size 67 j0 _ 5 96 Tryz.underlying31 hj0 hjz0 hjz1 hjz2 rfl (by decide) _ _ _ (by rfl) OWA.out ⟨w.heap.size,0,none⟩ 1 1 [.int .i64 0,.string ⟨#[]⟩,.slice none 0 0,.slice none 0 0,.slice none 0 0] (by rfl) (by rfl) (World.news_of_block (cs:=#[.int .i64 0,.string ⟨#[]⟩,.slice none 0 0,.slice none 0 0,.slice none 0 0]) (t:=67) (fr:=(0,0)) (At.heap_ext (heap_alloc_new w _) (((Ext.refl _).alloc _).drew))) (by intro u hu;simp at hu;rcases hu with rfl | rfl | rfl | rfl | rfl <;> rfl) (by omega) (by unfold maxLen;omega) (by omega) (by have:=HK.out.b.size;simp;omega) _ rfl ?_;intro g7 c7 w7 hown7 hgrow7 hor7 _
  have G7:Hid (w.grownBy w7 (Value.slice a LN c).ownBlock):=hid (grown_of ((((Ext.refl w).alloc (.cells #[.int .i64 0,.string ⟨#[]⟩,.slice none 0 0,.slice none 0 0,.slice none 0 0] 67)).alloc (.cells #[.string ⟨#[]⟩,.string x] 69)).drew) hgrow7);have O7:=hid hown7;have OR7:Hid ((Value.slice a LN c).ownBlock=some g7\/w.heap.size<=g7):=hid (hor7.imp id (fun h=>by rw[h];simp;try omega));have hgv7:w7.heap[gv]? = some (.cells #[.slice a LN c] 31 (0,0)):=by rw[G7.out.block gv (Array.getElem?_eq_some_iff.1 HK.out.bx).1 (fun e=>by have:=(OW.out.lt gv e.symm).1;have:=HK.out.lo;omega)];exact HK.out.bx
  have f0:w7.cell? ⟨gv,0,none⟩=some (.slice a LN c):=by rw[Lib.cell_of_heap hgv7];rfl
  have ff:w7.frozen? ⟨gv,0,none⟩=false:=Lib.frozen_of_heap hgv7 0;obtain⟨r0,r1,r2,r3,r4,rf⟩:=row_tail O7.out (by have:=OW.out.1;exact this);obtain⟨hgc,hgm⟩:=row_cap O7.out;have hne7:gv ≠ g7:=by have:=(O7.out.lt g7 rfl).1;have:=HK.out.lo;omega
  have s0:=fun u=>(keep_cell w7 0 u (Ne.symm hne7)).1 r0;have s1:=fun u=>(keep_cell w7 0 u (Ne.symm hne7)).1 r1;have s2:=fun u=>(keep_cell w7 0 u (Ne.symm hne7)).1 r2;have s3:=fun u=>(keep_cell w7 0 u (Ne.symm hne7)).1 r3;have s4:=fun u=>(keep_cell w7 0 u (Ne.symm hne7)).1 r4
  have sf:=fun j u=>(keep_cell (i:=j) (v:=undef) w7 0 u (Ne.symm hne7)).2 (rf j)
  have HGA:Hid (w7.heap[w.heap.size+1]? = some (.cells #[.string ⟨#[]⟩,.string x] 69 (0,0))):=hid (by rw[hgrow7.block (w.heap.size+1) (by simp <;> omega) (fun e=>by have:=(OW.out.lt _ e.symm).2;omega)];exact At.heap_ext (new2 w _ _ (by simp)) ((Ext.refl _).drew));have HGA2:Hid (w.heap.size<=w.heap.size+1):=hid (by omega);have HNE:Hid (w.heap.size+1 ≠ g7):=hid (ty_ne HGA.out O7.out (by decide));have hk5:∀ u0 u1 u2 u3 u4,(((((w7.setCell ⟨g7,LN * 5,none⟩ u0).setCell ⟨g7,LN * 5+1,none⟩ u1).setCell ⟨g7,LN * 5+2,none⟩ u2).setCell ⟨g7,LN * 5+3,none⟩ u3).setCell ⟨g7,LN * 5+4,none⟩ u4).cell? ⟨gv,0,none⟩=some (.slice a LN c):=fun _ _ _ _ _=>keep_cell5 hne7 f0
  have hf5:∀ u0 u1 u2 u3 u4,(((((w7.setCell ⟨g7,LN * 5,none⟩ u0).setCell ⟨g7,LN * 5+1,none⟩ u1).setCell ⟨g7,LN * 5+2,none⟩ u2).setCell ⟨g7,LN * 5+3,none⟩ u3).setCell ⟨g7,LN * 5+4,none⟩ u4).frozen? ⟨gv,0,none⟩=false:=fun _ _ _ _ _=>keep_froz5 hne7 ff
  clear hown7 hor7 hgrow7;refine hKK.out _ _ (fun _=>trivial) (fun _=>?_);clear hKK KK
  (try simp only[Act.put,q1,q2,q3])
  refine kT 10 9 ?_ rfl (by kernel_rfl) (fun _ _ _ h=>h) (Or.inl ⟨by rfl,?_⟩) trivial ?_;rotate_left
  ·(intro w' hSw;clear hSw;go_simp <;> with_reducible rfl)
  (try simp only[Act.put,q1,q2,q3])
  refine wpAnyK_two (i:=10) (j:=11) (oi:=_) (oj:=_) rfl rfl (by kernel_rfl) (fun KK hKK=>?_) (fun KK hKK=>?_)
  ·go_simp;refine hKK.out _ _ (fun _=>trivial) (fun _=>?_);clear hKK KK
   (try simp only[Act.put,q1,q2,q3])
   refine wpAnyK_step (o:=_) (i:=11) rfl (by kernel_rfl) (fun KK hKK=>?_);go_simp;refine hKK.out _ _ (fun _=>trivial) (fun _=>?_);clear hKK KK
   (try simp only[Act.put,q1,q2,q3])
   refine wpAnyK_done (by kernel_rfl) ?_ _;go_wp2;refine bodyPost_end (results_none rfl _ _ _) rfl ?_;exact⟨rfl,_,clo_done HK.out HN.out OW.out OR.out O7.out G7.out HGA.out HGA2.out HNE.out OR7.out⟩
  go_simp;refine hKK.out _ _ (fun _=>trivial) (fun _=>?_);clear hKK KK
  (try simp only[Act.put,q1,q2,q3])
  refine wpAnyK_step (o:=_) (i:=10) rfl (by kernel_rfl) (fun KK hKK=>?_);go_simp;refine hKK.out _ _ (fun _=>trivial) (fun _=>?_);clear hKK KK
  (try simp only[Act.put,q1,q2,q3])
  refine wpAnyK_done (by kernel_rfl) ?_ _;go_wp2;refine bodyPost_end (results_none rfl _ _ _) rfl ?_;exact⟨rfl,_,clo_done2 HK.out HN.out OW.out OR.out O7.out G7.out HGA.out HGA2.out HNE.out OR7.out⟩
 go_simp;refine hKK.out _ _ (fun _=>trivial) (fun _=>?_);clear hKK KK
 (try simp only[Act.put,q1,q2,q3])
 refine kT 10 5 ?_ rfl (by kernel_rfl) (fun _ _ _ h=>h) (Or.inl ⟨by rfl,?_⟩) trivial ?_;rotate_left
 ·(intro w' hSw;clear hSw;go_simp <;> with_reducible rfl)
 (try simp only[Act.put,q1,q2,q3])
 refine wpAnyK_step (o:=_) (i:=0) rfl (by kernel_rfl) (fun KK hKK=>?_);go_simp;refine hKK.out _ _ (fun _=>trivial) (fun _=>?_);clear hKK KK
 (try simp only[Act.put,q1,q2,q3])
 refine kT 10 6 ?_ rfl (by kernel_rfl) (fun _ _ _ h=>h) (Or.inl ⟨by rfl,?_⟩) trivial ?_;rotate_left
 ·(intro w' hSw;clear hSw;go_simp <;> with_reducible rfl)
 (try simp only[Act.put,q1,q2,q3])
 refine wpAnyK_step (o:=_) (i:=8) rfl (by kernel_rfl) (fun KK hKK=>?_);have OWA:=hid (At.own_ext OW.out ((((Ext.refl w).alloc (.cells #[.int .i64 0,.string ⟨#[]⟩,.slice none 0 0,.slice none 0 0,.slice none 0 0] 67)).alloc (.cells #[.string ⟨#[]⟩,.string x] 69)).drew))
 refine step_append_lies _ (by rfl) _ _ 31 (by rfl) w2.heap.size 67 j0 _ 5 96 Tryz.underlying31 hj0 hjz0 hjz1 hjz2 rfl (by decide) _ _ _ (by rfl) OWA.out ⟨w.heap.size,0,none⟩ 1 1 [.int .i64 0,.string ⟨#[]⟩,.slice none 0 0,.slice none 0 0,.slice none 0 0] (by rfl) (by rfl) (World.news_of_block (cs:=#[.int .i64 0,.string ⟨#[]⟩,.slice none 0 0,.slice none 0 0,.slice none 0 0]) (t:=67) (fr:=(0,0)) (At.heap_ext (heap_alloc_new w _) (((Ext.refl _).alloc _).drew))) (by intro u hu;simp at hu;rcases hu with rfl | rfl | rfl | rfl | rfl <;> rfl) (by omega) (by unfold maxLen;omega) (by omega) (by have:=HK.out.b.size;simp;omega) _ rfl ?_;intro g7 c7 w7 hown7 hgrow7 hor7 _
 have G7:Hid (w.grownBy w7 (Value.slice a LN c).ownBlock):=hid (grown_of ((((Ext.refl w).alloc (.cells #[.int .i64 0,.string ⟨#[]⟩,.slice none 0 0,.slice none 0 0,.slice none 0 0] 67)).alloc (.cells #[.string ⟨#[]⟩,.string x] 69)).drew) hgrow7);have O7:=hid hown7;have OR7:Hid ((Value.slice a LN c).ownBlock=some g7\/w.heap.size<=g7):=hid (hor7.imp id (fun h=>by rw[h];simp;try omega));have hgv7:w7.heap[gv]? = some (.cells #[.slice a LN c] 31 (0,0)):=by rw[G7.out.block gv (Array.getElem?_eq_some_iff.1 HK.out.bx).1 (fun e=>by have:=(OW.out.lt gv e.symm).1;have:=HK.out.lo;omega)];exact HK.out.bx
 have f0:w7.cell? ⟨gv,0,none⟩=some (.slice a LN c):=by rw[Lib.cell_of_heap hgv7];rfl
 have ff:w7.frozen? ⟨gv,0,none⟩=false:=Lib.frozen_of_heap hgv7 0;obtain⟨r0,r1,r2,r3,r4,rf⟩:=row_tail O7.out (by have:=OW.out.1;exact this);obtain⟨hgc,hgm⟩:=row_cap O7.out;have hne7:gv ≠ g7:=by have:=(O7.out.lt g7 rfl).1;have:=HK.out.lo;omega
 have s0:=fun u=>(keep_cell w7 0 u (Ne.symm hne7)).1 r0;have s1:=fun u=>(keep_cell w7 0 u (Ne.symm hne7)).1 r1;have s2:=fun u=>(keep_cell w7 0 u (Ne.symm hne7)).1 r2;have s3:=fun u=>(keep_cell w7 0 u (Ne.symm hne7)).1 r3;have s4:=fun u=>(keep_cell w7 0 u (Ne.symm hne7)).1 r4
 have sf:=fun j u=>(keep_cell (i:=j) (v:=undef) w7 0 u (Ne.symm hne7)).2 (rf j)
 have HGA:Hid (w7.heap[w.heap.size+1]? = some (.cells #[.string ⟨#[]⟩,.string x] 69 (0,0))):=hid (by rw[hgrow7.block (w.heap.size+1) (by simp <;> omega) (fun e=>by have:=(OW.out.lt _ e.symm).2;omega)];exact At.heap_ext (new2 w _ _ (by simp)) ((Ext.refl _).drew));have HGA2:Hid (w.heap.size<=w.heap.size+1):=hid (by omega);have HNE:Hid (w.heap.size+1 ≠ g7):=hid (ty_ne HGA.out O7.out (by decide));have hk5:∀ u0 u1 u2 u3 u4,(((((w7.setCell ⟨g7,LN * 5,none⟩ u0).setCell ⟨g7,LN * 5+1,none⟩ u1).setCell ⟨g7,LN * 5+2,none⟩ u2).setCell ⟨g7,LN * 5+3,none⟩ u3).setCell ⟨g7,LN * 5+4,none⟩ u4).cell? ⟨gv,0,none⟩=some (.slice a LN c):=fun _ _ _ _ _=>keep_cell5 hne7 f0
 have hf5:∀ u0 u1 u2 u3 u4,(((((w7.setCell ⟨g7,LN * 5,none⟩ u0).setCell ⟨g7,LN * 5+1,none⟩ u1).setCell ⟨g7,LN * 5+2,none⟩ u2).setCell ⟨g7,LN * 5+3,none⟩ u3).setCell ⟨g7,LN * 5+4,none⟩ u4).frozen? ⟨gv,0,none⟩=false:=fun _ _ _ _ _=>keep_froz5 hne7 ff
 clear hown7 hor7 hgrow7;refine hKK.out _ _ (fun _=>trivial) (fun _=>?_);clear hKK KK
 (try simp only[Act.put,q1,q2,q3])
 refine kT 10 9 ?_ rfl (by kernel_rfl) (fun _ _ _ h=>h) (Or.inl ⟨by rfl,?_⟩) trivial ?_;rotate_left
 ·(intro w' hSw;clear hSw;go_simp <;> with_reducible rfl)
 (try simp only[Act.put,q1,q2,q3])
 refine wpAnyK_two (i:=10) (j:=11) (oi:=_) (oj:=_) rfl rfl (by kernel_rfl) (fun KK hKK=>?_) (fun KK hKK=>?_)
 ·go_simp;refine hKK.out _ _ (fun _=>trivial) (fun _=>?_);clear hKK KK
  (try simp only[Act.put,q1,q2,q3])
  refine wpAnyK_step (o:=_) (i:=11) rfl (by kernel_rfl) (fun KK hKK=>?_);go_simp;refine hKK.out _ _ (fun _=>trivial) (fun _=>?_);clear hKK KK
  (try simp only[Act.put,q1,q2,q3])
  refine wpAnyK_done (by kernel_rfl) ?_ _;go_wp2;refine bodyPost_end (results_none rfl _ _ _) rfl ?_;exact⟨rfl,_,clo_done HK.out HN.out OW.out OR.out O7.out G7.out HGA.out HGA2.out HNE.out OR7.out⟩
 go_simp;refine hKK.out _ _ (fun _=>trivial) (fun _=>?_);clear hKK KK
 (try simp only[Act.put,q1,q2,q3])
 refine wpAnyK_step (o:=_) (i:=10) rfl (by kernel_rfl) (fun KK hKK=>?_);go_simp;refine hKK.out _ _ (fun _=>trivial) (fun _=>?_);clear hKK KK
 (try simp only[Act.put,q1,q2,q3])
 refine wpAnyK_done (by kernel_rfl) ?_ _;go_wp2;refine bodyPost_end (results_none rfl _ _ _) rfl ?_;exact⟨rfl,_,clo_done2 HK.out HN.out OW.out OR.out O7.out G7.out HGA.out HGA2.out HNE.out OR7.out⟩
end Go.Proofs.YtjaeedbjknejdaaGreatDoor.Ex
