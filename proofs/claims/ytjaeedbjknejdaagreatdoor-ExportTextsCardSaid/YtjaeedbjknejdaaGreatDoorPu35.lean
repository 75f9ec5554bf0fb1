/- Packed texts: ExpNodR -/
import Derived.Test.YtjaeedbjknejdaaGreatDoorPu34
set_option linter.unusedVariables false
set_option linter.unusedSimpArgs false
set_option maxHeartbeats 16000000
set_option maxRecDepth 100000
namespace Go.Proofs.YtjaeedbjknejdaaGreatDoor.Ex
open Go.RowKit Go.Sort Go.Lib Go.Shelf Fx Lx Tr At Pa Go.Proofs.YtjaeedbjknejdaaGreatDoor.Nm
theorem nodeR_any (x:Nd)(p:Option Addr)(pc:Nat)(w:World)(hp:PrtIn w p x.ports)(hl:x.ports.length<=8)(hsd:∀ q ∈ x.ports,0<=q.2/\q.2<=3/\q.1.size<=1000)(hw:0<=x.w/\x.w<=1048576)(hh:0<=x.h/\x.h<=1048576):
    Calls Tryz.prog 79 #[.agg #[.string x.name,.string x.label,.int .i64 x.w,.int .i64 x.h,.int .i64 x.c,.slice p x.ports.length pc]] w fun e w'=>(∃ u,e=.returned u/\StmV (w.heap.size <= ·) (nodeS x) u w')/\Ext w w':=by
  obtain⟨nm,lb,W,H,c,L⟩:=x;dsimp only at *;have hfw:=fun(w5:World)=>formatR_any W w5 (by omega) (by omega)
  have hfh:=fun(w5:World)=>formatR_any H w5 (by omega) (by omega)
  have hpt:=fun(w5:World) (y:Ext w w5)=>portsR_any p L pc w5 (hp.ext y) hl hsd
  obtain⟨R,hR⟩:∃ R,R=nodeA ⟨nm,lb,W,H,c,L⟩:=⟨_,rfl⟩;have hns:nodeS ⟨nm,lb,W,H,c,L⟩=.mk 1 nm [] R []:=by rw[hR];rfl
  rw[hns];unfold nodeA at hR;dsimp only at hR;obtain⟨L1,hL1⟩:∃ M,M=(if H=10000 then [] else [(kHeight,fmtB H)]:List Two):=⟨_,rfl⟩;obtain⟨L2,hL2⟩:∃ M,M=L1++(if lb=nm then [] else [(kLabel,lb)]:List Two):=⟨_,rfl⟩;obtain⟨L3,hL3⟩:∃ M,M=L2++(if L=[] then [] else [(kPorts,portsTx L)]:List Two):=⟨_,rfl⟩;rw[<-hL1,<- hL2,<- hL3] at hR;have c1:L1.length<=1:=by rw[hL1];split <;> simp
  have c2:L2.length<=2:=by rw[hL2];split <;> simp <;> omega
  have c3:L3.length<=3:=by rw[hL3];split <;> simp <;> omega
  have c4:R.length<=4:=by rw[hR];split <;> simp <;> omega
  have c0:([]:List Two).length=0:=rfl;obtain⟨PL,hPL⟩:∃ n,n=L.length:=⟨_,rfl⟩;rw[<-hPL] at hl;simp only[<-hPL] at hpt;rw[<-hPL];have HPT:=Lib.hid hpt;have HFW:=Lib.hid hfw;have HFH:=Lib.hid hfh;have HR:=Lib.hid hR;have H1:=Lib.hid hL1;have H2:=Lib.hid hL2;have H3:=Lib.hid hL3;have HPL:=Lib.hid hPL;obtain⟨j0,hj0,hjz0,hjz1,hjz2⟩:=info_parts info_atr;clear hp hsd hfw hfh hpt hR hL1 hL2 hL3 hPL hw hh hns;go_enter Tryz.func79,Tryz.ntmps79
  go_upto_if 9 with(fail)
  obtain⟨w2,hw2⟩:∃ w2,w2=((w.alloc (.cells #[.string nm,.string lb,.int .i64 W,.int .i64 H,.int .i64 c,.slice p PL pc] 59)).alloc (.cells #[.int .i64 0,.string ⟨#[]⟩,.slice none 0 0,.slice none 0 0,.slice none 0 0] 67)).alloc (.cells #[.int .i64 1,.string nm,.slice none 0 0,.slice none 0 0,.slice none 0 0] 67):=⟨_,rfl⟩;have X2:Ext w w2:=by rw[hw2];exact(((Ext.refl _).alloc _).alloc _).alloc _
  obtain⟨gb,hgb0⟩:∃ g,g=w.heap.size:=⟨_,rfl⟩;obtain⟨gr,hgr0⟩:∃ g,g=w.heap.size+1:=⟨_,rfl⟩;obtain⟨gs,hgs0⟩:∃ g,g=w.heap.size+1+1:=⟨_,rfl⟩;have GB:Hid (w2.heap[gb]? = some (.cells #[.string nm,.string lb,.int .i64 W,.int .i64 H,.int .i64 c,.slice p PL pc] 59 (0,0))):=Lib.hid (by rw[hw2,hgb0];exact At.heap_ext (heap_alloc_new w _) (((Ext.refl _).alloc _).alloc _))
  have GR:Hid (w2.heap[gr]? = some (.cells #[.int .i64 0,.string ⟨#[]⟩,.slice none 0 0,.slice none 0 0,.slice none 0 0] 67 (0,0))):=Lib.hid (by rw[hw2,hgr0];have h:=At.heap_ext (heap_alloc_new (w.alloc (.cells #[.string nm,.string lb,.int .i64 W,.int .i64 H,.int .i64 c,.slice p PL pc] 59)) (.cells #[.int .i64 0,.string ⟨#[]⟩,.slice none 0 0,.slice none 0 0,.slice none 0 0] 67)) ((Ext.refl _).alloc (.cells #[.int .i64 1,.string nm,.slice none 0 0,.slice none 0 0,.slice none 0 0] 67));rw[World.size_alloc] at h;exact h);have GS:w2.heap[gs]? = some (.cells #[.int .i64 1,.string nm,.slice none 0 0,.slice none 0 0,.slice none 0 0] 67 (0,0)):=by rw[hw2,hgs0];exact new2 _ _ _ (by simp)
  have hsz2:w2.heap.size=w.heap.size+3:=by rw[hw2];simp
  have hgb:gb < w2.heap.size/\gb ≠ gs:=⟨by omega,by omega⟩;have HGR:Hid (gr < w2.heap.size/\gr ≠ gs/\w.heap.size<=gr):=Lib.hid ⟨by omega,by omega,by omega⟩;have HG2:Hid (w.heap.size+3=w2.heap.size):=Lib.hid hsz2.symm;obtain⟨v0,hv0⟩:∃ v:Value,v=.slice none 0 0:=⟨_,rfl⟩;have HB:Hid (SbA w w2 gs (.int .i64 1) (.string nm) (.slice none 0 0) (.slice none 0 0) [] v0 w2):=Lib.hid (by rw[hv0];exact SbA.start X2 GS (by omega));rw[<-hw2,<- hgs0,<- hgr0,<- hgb0];clear hw2 hgs0 hgr0 hgb0 GS X2 hsz2 hv0;obtain⟨wx,hwx⟩:∃ w':World,w'=w2:=⟨_,rfl⟩;rw[<-hwx];rw[show SbA w w2 gs (.int .i64 1) (.string nm) (.slice none 0 0) (.slice none 0 0) [] v0 w2=SbA w w2 gs (.int .i64 1) (.string nm) (.slice none 0 0) (.slice none 0 0) [] v0 wx by rw[hwx]] at HB;clear hwx
  have GX:Hid (wx.heap[gb]? = _):=Lib.hid ((HB.out.kp gb hgb.1 hgb.2).trans GB.out);obtain⟨b0,b1,b2,b3,b4,b5⟩:=cells6b GX.out;obtain⟨s0,s1,s2,q3,s4,sf⟩:=HB.out.cells
  go_cut [] from 4 to 57 (fun wx=>∃ v,Hid (SbA w w2 gs (.int .i64 1) (.string nm) (.slice none 0 0) (.slice none 0 0) L1 v wx))
  case first =>
    by_cases hc:H=10000
    · have f1:(H != 10000)=false:=by rw[hc];rfl
      have hl1:L1=[]:=by rw[H1.out,if_pos hc]
      have HL:=Lib.hid hl1;clear hc hl1;go_wp2_with fail
      go_meet
      exact⟨_,Lib.hid (by rw[HL.out];exact HB.out)⟩
    have f1:(H != 10000)=true:=(nfacts hc).2;have hl1:L1=[]++[(kHeight,(fmtB H))]:=by rw[H1.out,if_neg hc];rfl
    have HL:=Lib.hid hl1;clear hc hl1;have q4:=b3;go_wp2_with fail;refine wp_region_K (S:=fun w'=>w'.cell? ⟨gs,3,none⟩=some v0/\w'.cell? ⟨gb,3,none⟩=some (.int .i64 H)) (n:=9) (by kernel_rfl) (by exact⟨Ext.cell ((Ext.refl wx).drew) q3,Ext.cell ((Ext.refl wx).drew) q4⟩) (fun hHeld=>?_);refine kT 9 0 ?_ rfl (by kernel_rfl) (fun _ _ _ h=>h) (Or.inl ⟨by rfl,?_⟩) hHeld ?_;rotate_left
    · (intro w' hSw;(try dsimp only at hSw);go_simp <;> with_reducible rfl)
    (try simp only[Act.put,q1,q2,q3])
    refine kT 9 1 ?_ rfl (by kernel_rfl) (fun _ _ _ h=>h) (Or.inl ⟨by rfl,?_⟩) hHeld ?_;rotate_left
    · (intro w' hSw;(try dsimp only at hSw);go_simp <;> with_reducible rfl)
    (try simp only[Act.put,q1,q2,q3])
    refine kT 9 2 ?_ rfl (by kernel_rfl) (fun _ _ _ h=>h) (Or.inl ⟨by rfl,?_⟩) hHeld ?_;rotate_left
    · (intro w' hSw;(try dsimp only at hSw);go_simp <;> with_reducible rfl)
    (try simp only[Act.put,q1,q2,q3])
    refine kT 9 3 ?_ rfl (by kernel_rfl) (fun _ _ _ h=>h) (Or.inl ⟨by rfl,?_⟩) hHeld ?_;rotate_left
    · (intro w' hSw;(try dsimp only at hSw);go_simp <;> with_reducible rfl)
    (try simp only[Act.put,q1,q2,q3])
    refine wpAnyK_step (o:=_) (i:=4) rfl (by kernel_rfl) (fun KK hKK=>?_);go_simp
    (go_at_call 77;refine Calls.mono (by with_reducible exact HFH.out _) ?_;rintro e w3 ⟨rfl,x3⟩;have X3:Hid (Ext wx w3):=Lib.hid (by rw[<-x3];exact(Ext.refl wx).drew);clear x3)
    refine hKK.out _ _ (fun _=>?_) (fun hH=>?_)
    · (exact⟨Ext.cell (X3.out) q3,Ext.cell (X3.out) q4⟩)
    have hHeld2:=hH;clear hKK KK hHeld hH;have hHeld:=hHeld2 (by decide);clear hHeld2
    (try dsimp only at hHeld)
    (try simp only[Act.put,q1,q2,q3])
    refine kT 9 5 ?_ rfl (by kernel_rfl) (fun _ _ _ h=>h) (Or.inl ⟨by rfl,?_⟩) hHeld ?_;rotate_left
    · (intro w' hSw;(try dsimp only at hSw);go_simp <;> with_reducible rfl)
    (try simp only[Act.put,q1,q2,q3])
    refine wpAnyK_step (o:=_) (i:=6) rfl (by kernel_rfl) (fun KK hKK=>?_);go_simp;refine hKK.out _ _ (fun _=>?_) (fun hH=>?_)
    · (exact⟨Ext.cell (X3.out.alloc _) q3,Ext.cell (X3.out.alloc _) q4⟩)
    have hHeld2:=hH;clear hKK KK hHeld hH;have hHeld:=hHeld2 (by decide);clear hHeld2
    (try dsimp only at hHeld)
    (try simp only[Act.put,q1,q2,q3])
    refine wpAnyK_step (o:=_) (i:=7) rfl (by kernel_rfl) (fun KK hKK=>?_);refine step_append_lies _ (by rfl) _ _ 65 (by rfl) w2.heap.size 69 j0 _ 2 32 Tryz.underlying65 hj0 hjz0 hjz1 hjz2 rfl (by decide) _ _ _ (by rfl) (At.own_ext HB.out.row (X3.out.alloc _)) ⟨w3.heap.size,0,none⟩ 1 1 [.string kHeight,.string (fmtB H)] (by rfl) (by rfl) (World.news_of_block (cs:=#[.string kHeight,.string (fmtB H)]) (t:=69) (fr:=(0,0)) (heap_alloc_new w3 _)) (by intro u hu;simp at hu;rcases hu with rfl | rfl <;> rfl) (by omega) (by unfold maxLen;omega) (by omega) (by have:=HB.out.sz;have:=X3.out.size;simp;omega) _ rfl ?_;intro g7 c7 w7 hown7 hgrow7 _ _;have B7:=HB.out.grown (X3.out.alloc _) hgrow7;have K7:=HB.out.grownk (X3.out.alloc _) hgrow7;have HO7:=Lib.hid (HB.out.app (X3.out.alloc _) hown7 hgrow7)
    have z3:w7.cell? ⟨gs,3,none⟩=some v0:=by rw[Lib.cell_of_heap B7];rfl
    have zf:w7.frozen? ⟨gs,3,none⟩=false:=Lib.frozen_of_heap B7 3;have z4:w7.cell? ⟨gb,3,none⟩=some (.int .i64 H):=by rw[Lib.cell_of_heap ((K7 gb hgb.1 hgb.2).trans GB.out)];rfl
    clear hown7 hgrow7 B7 K7;refine hKK.out _ _ (fun _=>?_) (fun hH=>?_)
    · (exact⟨z3,z4⟩)
    have hHeld2:=hH;clear hKK KK hHeld hH;have hHeld:=hHeld2 (by decide);clear hHeld2
    (try dsimp only at hHeld)
    (try simp only[Act.put,q1,q2,q3])
    refine wpAnyK_step (o:=_) (i:=8) rfl (by kernel_rfl) (fun KK hKK=>?_);go_simp;refine hKK.out _ _ (fun _=>?_) (fun hH=>?_)
    · (exact⟨z3,z4⟩)
    have hHeld2:=hH;clear hKK KK hHeld hH;have hHeld:=hHeld2 (by decide);clear hHeld2
    (try dsimp only at hHeld)
    (try simp only[Act.put,q1,q2,q3])
    refine wpAnyK_step (o:=_) (i:=9) rfl (by kernel_rfl) (fun KK hKK=>?_);go_simp;refine hKK.out _ _ (fun h=>absurd rfl h) (fun _=>?_);clear hKK KK
    (try simp only[Act.put,q1,q2,q3])
    refine wpAnyK_done (by kernel_rfl) ?_ _;go_wp2
    go_meet
    exact⟨_,Lib.hid (by rw[HL.out];exact HO7.out)⟩
  case rest =>
  clear HB GX b0 b1 b2 b3 b4 b5 s0 s1 s2 q3 s4 sf;obtain⟨v0,HB⟩:=hcut;obtain⟨wx,hwx⟩:∃ w':World,w'=wc:=⟨_,rfl⟩;subst hwx;have GX:Hid (wx.heap[gb]? = _):=Lib.hid ((HB.out.kp gb hgb.1 hgb.2).trans GB.out);obtain⟨b0,b1,b2,b3,b4,b5⟩:=cells6b GX.out;obtain⟨s0,s1,s2,q3,s4,sf⟩:=HB.out.cells
  go_upto_if 23 with(fail)
  generalize hbb:(!(lb.toList == nm.toList))=bb
  go_cut [] from 4 to 57 (fun wx=>∃ v,Hid (SbA w w2 gs (.int .i64 1) (.string nm) (.slice none 0 0) (.slice none 0 0) L2 v wx))
  case first =>
    by_cases hc:lb=nm
    · have f2:bb=false:=by rw[<-hbb,strB,decide_eq_true hc];rfl
      subst f2;clear hbb;have hl1:L2=L1:=by rw[H2.out,if_pos hc];simp
      have HL:=Lib.hid hl1;clear hc hl1;go_wp2_with fail
      go_meet
      exact⟨_,Lib.hid (by rw[HL.out];exact HB.out)⟩
    have f2:bb=true:=by rw[<-hbb,strB,decide_eq_false hc];rfl
    subst f2;clear hbb;have hl1:L2=L1++[(kLabel,lb)]:=by rw[H2.out,if_neg hc]
    have HL:=Lib.hid hl1;clear hc hl1;go_wp2_with (at_builtin;refine wpList_append_lies _ rfl _ _ 65 rfl w2.heap.size 69 j0 _ 2 32 Tryz.underlying65 hj0 hjz0 hjz1 hjz2 rfl (by decide) _ _ _ rfl (At.own_ext HB.out.row ((Ext.refl wx).alloc _)) ⟨wx.heap.size,0,none⟩ 1 1 [.string kLabel,.string lb] rfl rfl ?c1 ?c2 (by decide) ?c3 ?c4 ?c5 _ rfl ?_)
    case c1=>exact World.news_of_block (cs:=#[.string kLabel,.string lb]) (t:=69) (fr:=(0,0)) (heap_alloc_new wx _)
    case c2=>intro u hu;simp at hu;rcases hu with rfl | rfl <;> rfl
    case c3=>unfold maxLen;omega
    case c4=>omega
    case c5=>have:=HB.out.sz;simp;omega
    intro g7 c7 w7 hown7 hgrow7 _ _;have B7:=HB.out.grown ((Ext.refl wx).alloc _) hgrow7;have HO7:=Lib.hid (HB.out.app ((Ext.refl wx).alloc _) hown7 hgrow7);have z3:w7.cell? ⟨gs,3,none⟩=some v0:=by rw[Lib.cell_of_heap B7];rfl
    have zf:w7.frozen? ⟨gs,3,none⟩=false:=Lib.frozen_of_heap B7 3;clear hown7 hgrow7 B7;go_wp2
    go_meet
    exact⟨_,Lib.hid (by rw[HL.out];exact HO7.out)⟩
  case rest =>
  clear HB GX b0 b1 b2 b3 b4 b5 s0 s1 s2 q3 s4 sf hbb bb;obtain⟨v0,HB⟩:=hcut;obtain⟨wx,hwx⟩:∃ w':World,w'=wc:=⟨_,rfl⟩;subst hwx;have GX:Hid (wx.heap[gb]? = _):=Lib.hid ((HB.out.kp gb hgb.1 hgb.2).trans GB.out);obtain⟨b0,b1,b2,b3,b4,b5⟩:=cells6b GX.out;obtain⟨s0,s1,s2,q3,s4,sf⟩:=HB.out.cells
  go_upto_if 35 with(fail)
  generalize hbb:decide (0 < PL)=bb
  go_cut [] from 4 to 57 (fun wx=>∃ v,Hid (SbA w w2 gs (.int .i64 1) (.string nm) (.slice none 0 0) (.slice none 0 0) L3 v wx))
  case first =>
    by_cases hc:L=[]
    · have f0:PL=0:=by rw[HPL.out,hc];rfl
      have f1:bb=false:=by rw[<-hbb];exact decide_eq_false (by omega)
      subst f1;clear hbb f0;have hl1:L3=L2:=by rw[H3.out,if_pos hc];simp
      have HL:=Lib.hid hl1;clear hc hl1;go_wp2_with fail
      go_meet
      exact⟨_,Lib.hid (by rw[HL.out];exact HB.out)⟩
    have f0:0 < PL:=by rw[HPL.out];exact List.length_pos_iff.2 hc
    have f1:bb=true:=by rw[<-hbb];exact decide_eq_true f0
    subst f1;clear hbb;have hl1:L3=L2++[(kPorts,(portsTx L))]:=by rw[H3.out,if_neg hc]
    have HL:=Lib.hid hl1;clear hc hl1;have q4:=b5;go_wp2_with fail;refine wp_region_K (S:=fun w'=>w'.cell? ⟨gs,3,none⟩=some v0/\w'.cell? ⟨gb,5,none⟩=some (.slice p PL pc)) (n:=9) (by kernel_rfl) (by exact⟨Ext.cell ((Ext.refl wx).drew) q3,Ext.cell ((Ext.refl wx).drew) q4⟩) (fun hHeld=>?_);refine kT 9 0 ?_ rfl (by kernel_rfl) (fun _ _ _ h=>h) (Or.inl ⟨by rfl,?_⟩) hHeld ?_;rotate_left
    · (intro w' hSw;(try dsimp only at hSw);go_simp <;> with_reducible rfl)
    (try simp only[Act.put,q1,q2,q3])
    refine kT 9 1 ?_ rfl (by kernel_rfl) (fun _ _ _ h=>h) (Or.inl ⟨by rfl,?_⟩) hHeld ?_;rotate_left
    · (intro w' hSw;(try dsimp only at hSw);go_simp <;> with_reducible rfl)
    (try simp only[Act.put,q1,q2,q3])
    refine kT 9 2 ?_ rfl (by kernel_rfl) (fun _ _ _ h=>h) (Or.inl ⟨by rfl,?_⟩) hHeld ?_;rotate_left
    · (intro w' hSw;(try dsimp only at hSw);go_simp <;> with_reducible rfl)
    (try simp only[Act.put,q1,q2,q3])
    refine kT 9 3 ?_ rfl (by kernel_rfl) (fun _ _ _ h=>h) (Or.inl ⟨by rfl,?_⟩) hHeld ?_;rotate_left
    · (intro w' hSw;(try dsimp only at hSw);go_simp <;> with_reducible rfl)
    (try simp only[Act.put,q1,q2,q3])
    refine wpAnyK_step (o:=_) (i:=4) rfl (by kernel_rfl) (fun KK hKK=>?_);go_simp
    (go_at_call 146;refine Calls.mono (by with_reducible exact HPT.out _ (HB.out.X.drew)) ?_;rintro e w3 ⟨rfl,x3⟩;have X3:Hid (Ext wx w3):=Lib.hid ((Ext.refl wx).drew.trans x3);clear x3)
    refine hKK.out _ _ (fun _=>?_) (fun hH=>?_)
    · (exact⟨Ext.cell (X3.out) q3,Ext.cell (X3.out) q4⟩)
    have hHeld2:=hH;clear hKK KK hHeld hH;have hHeld:=hHeld2 (by decide);clear hHeld2
    (try dsimp only at hHeld)
    (try simp only[Act.put,q1,q2,q3])
    refine kT 9 5 ?_ rfl (by kernel_rfl) (fun _ _ _ h=>h) (Or.inl ⟨by rfl,?_⟩) hHeld ?_;rotate_left
    · (intro w' hSw;(try dsimp only at hSw);go_simp <;> with_reducible rfl)
    (try simp only[Act.put,q1,q2,q3])
    refine wpAnyK_step (o:=_) (i:=6) rfl (by kernel_rfl) (fun KK hKK=>?_);go_simp;refine hKK.out _ _ (fun _=>?_) (fun hH=>?_)
    · (exact⟨Ext.cell (X3.out.alloc _) q3,Ext.cell (X3.out.alloc _) q4⟩)
    have hHeld2:=hH;clear hKK KK hHeld hH;have hHeld:=hHeld2 (by decide);clear hHeld2
    (try dsimp only at hHeld)
    (try simp only[Act.put,q1,q2,q3])
    refine wpAnyK_step (o:=_) (i:=7) rfl (by kernel_rfl) (fun KK hKK=>?_);refine step_append_lies _ (by rfl) _ _ 65 (by rfl) w2.heap.size 69 j0 _ 2 32 Tryz.underlying65 hj0 hjz0 hjz1 hjz2 rfl (by decide) _ _ _ (by rfl) (At.own_ext HB.out.row (X3.out.alloc _)) ⟨w3.heap.size,0,none⟩ 1 1 [.string kPorts,.string (portsTx L)] (by rfl) (by rfl) (World.news_of_block (cs:=#[.string kPorts,.string (portsTx L)]) (t:=69) (fr:=(0,0)) (heap_alloc_new w3 _)) (by intro u hu;simp at hu;rcases hu with rfl | rfl <;> rfl) (by omega) (by unfold maxLen;omega) (by omega) (by have:=HB.out.sz;have:=X3.out.size;simp;omega) _ rfl ?_;intro g7 c7 w7 hown7 hgrow7 _ _;have B7:=HB.out.grown (X3.out.alloc _) hgrow7;have K7:=HB.out.grownk (X3.out.alloc _) hgrow7;have HO7:=Lib.hid (HB.out.app (X3.out.alloc _) hown7 hgrow7)
    have z3:w7.cell? ⟨gs,3,none⟩=some v0:=by rw[Lib.cell_of_heap B7];rfl
    have zf:w7.frozen? ⟨gs,3,none⟩=false:=Lib.frozen_of_heap B7 3;have z4:w7.cell? ⟨gb,5,none⟩=some (.slice p PL pc):=by rw[Lib.cell_of_heap ((K7 gb hgb.1 hgb.2).trans GB.out)];rfl
    clear hown7 hgrow7 B7 K7;refine hKK.out _ _ (fun _=>?_) (fun hH=>?_)
    · (exact⟨z3,z4⟩)
    have hHeld2:=hH;clear hKK KK hHeld hH;have hHeld:=hHeld2 (by decide);clear hHeld2
    (try dsimp only at hHeld)
    (try simp only[Act.put,q1,q2,q3])
    refine wpAnyK_step (o:=_) (i:=8) rfl (by kernel_rfl) (fun KK hKK=>?_);go_simp;refine hKK.out _ _ (fun _=>?_) (fun hH=>?_)
    · (exact⟨z3,z4⟩)
    have hHeld2:=hH;clear hKK KK hHeld hH;have hHeld:=hHeld2 (by decide);clear hHeld2
    (try dsimp only at hHeld)
    (try simp only[Act.put,q1,q2,q3])
    refine wpAnyK_step (o:=_) (i:=9) rfl (by kernel_rfl) (fun KK hKK=>?_);go_simp;refine hKK.out _ _ (fun h=>absurd rfl h) (fun _=>?_);clear hKK KK
    (try simp only[Act.put,q1,q2,q3])
    refine wpAnyK_done (by kernel_rfl) ?_ _;go_wp2
    go_meet
    exact⟨_,Lib.hid (by rw[HL.out];exact HO7.out)⟩
  case rest =>
  clear HB GX b0 b1 b2 b3 b4 b5 s0 s1 s2 q3 s4 sf hbb bb;obtain⟨v0,HB⟩:=hcut;obtain⟨wx,hwx⟩:∃ w':World,w'=wc:=⟨_,rfl⟩;subst hwx;have GX:Hid (wx.heap[gb]? = _):=Lib.hid ((HB.out.kp gb hgb.1 hgb.2).trans GB.out);obtain⟨b0,b1,b2,b3,b4,b5⟩:=cells6b GX.out;obtain⟨s0,s1,s2,q3,s4,sf⟩:=HB.out.cells
  go_upto_if 47 with(fail)
  go_cut [] from 4 to 57 (fun wx=>∃ v,Hid (SbA w w2 gs (.int .i64 1) (.string nm) (.slice none 0 0) (.slice none 0 0) R v wx))
  case first =>
    by_cases hc:W=20000
    · have f1:(W != 20000)=false:=by rw[hc];rfl
      have hl1:R=L3:=by rw[HR.out,if_pos hc];simp
      have HL:=Lib.hid hl1;clear hc hl1;go_wp2_with fail
      go_meet
      exact⟨_,Lib.hid (by rw[HL.out];exact HB.out)⟩
    have f1:(W != 20000)=true:=(nfacts hc).2;have hl1:R=L3++[(kWidth,(fmtB W))]:=by rw[HR.out,if_neg hc]
    have HL:=Lib.hid hl1;clear hc hl1;have q4:=b2;go_wp2_with fail;refine wp_region_K (S:=fun w'=>w'.cell? ⟨gs,3,none⟩=some v0/\w'.cell? ⟨gb,2,none⟩=some (.int .i64 W)) (n:=9) (by kernel_rfl) (by exact⟨Ext.cell ((Ext.refl wx).drew) q3,Ext.cell ((Ext.refl wx).drew) q4⟩) (fun hHeld=>?_);refine kT 9 0 ?_ rfl (by kernel_rfl) (fun _ _ _ h=>h) (Or.inl ⟨by rfl,?_⟩) hHeld ?_;rotate_left
    · (intro w' hSw;(try dsimp only at hSw);go_simp <;> with_reducible rfl)
    (try simp only[Act.put,q1,q2,q3])
    refine kT 9 1 ?_ rfl (by kernel_rfl) (fun _ _ _ h=>h) (Or.inl ⟨by rfl,?_⟩) hHeld ?_;rotate_left
    · (intro w' hSw;(try dsimp only at hSw);go_simp <;> with_reducible rfl)
    (try simp only[Act.put,q1,q2,q3])
    refine kT 9 2 ?_ rfl (by kernel_rfl) (fun _ _ _ h=>h) (Or.inl ⟨by rfl,?_⟩) hHeld ?_;rotate_left
    · (intro w' hSw;(try dsimp only at hSw);go_simp <;> with_reducible rfl)
    (try simp only[Act.put,q1,q2,q3])
    refine kT 9 3 ?_ rfl (by kernel_rfl) (fun _ _ _ h=>h) (Or.inl ⟨by rfl,?_⟩) hHeld ?_;rotate_left
    · (intro w' hSw;(try dsimp only at hSw);go_simp <;> with_reducible rfl)
    (try simp only[Act.put,q1,q2,q3])
    refine wpAnyK_step (o:=_) (i:=4) rfl (by kernel_rfl) (fun KK hKK=>?_);go_simp
    (go_at_call 77;refine Calls.mono (by with_reducible exact HFW.out _) ?_;rintro e w3 ⟨rfl,x3⟩;have X3:Hid (Ext wx w3):=Lib.hid (by rw[<-x3];exact(Ext.refl wx).drew);clear x3)
    refine hKK.out _ _ (fun _=>?_) (fun hH=>?_)
    · (exact⟨Ext.cell (X3.out) q3,Ext.cell (X3.out) q4⟩)
    have hHeld2:=hH;clear hKK KK hHeld hH;have hHeld:=hHeld2 (by decide);clear hHeld2
    (try dsimp only at hHeld)
    (try simp only[Act.put,q1,q2,q3])
    refine kT 9 5 ?_ rfl (by kernel_rfl) (fun _ _ _ h=>h) (Or.inl ⟨by rfl,?_⟩) hHeld ?_;rotate_left
    · (intro w' hSw;(try dsimp only at hSw);go_simp <;> with_reducible rfl)
    (try simp only[Act.put,q1,q2,q3])
    refine wpAnyK_step (o:=_) (i:=6) rfl (by kernel_rfl) (fun KK hKK=>?_);go_simp;refine hKK.out _ _ (fun _=>?_) (fun hH=>?_)
    · (exact⟨Ext.cell (X3.out.alloc _) q3,Ext.cell (X3.out.alloc _) q4⟩)
    have hHeld2:=hH;clear hKK KK hHeld hH;have hHeld:=hHeld2 (by decide);clear hHeld2
    (try dsimp only at hHeld)
    (try simp only[Act.put,q1,q2,q3])
    refine wpAnyK_step (o:=_) (i:=7) rfl (by kernel_rfl) (fun KK hKK=>?_);refine step_append_lies _ (by rfl) _ _ 65 (by rfl) w2.heap.size 69 j0 _ 2 32 Tryz.underlying65 hj0 hjz0 hjz1 hjz2 rfl (by decide) _ _ _ (by rfl) (At.own_ext HB.out.row (X3.out.alloc _)) ⟨w3.heap.size,0,none⟩ 1 1 [.string kWidth,.string (fmtB W)] (by rfl) (by rfl) (World.news_of_block (cs:=#[.string kWidth,.string (fmtB W)]) (t:=69) (fr:=(0,0)) (heap_alloc_new w3 _)) (by intro u hu;simp at hu;rcases hu with rfl | rfl <;> rfl) (by omega) (by unfold maxLen;omega) (by omega) (by have:=HB.out.sz;have:=X3.out.size;simp;omega) _ rfl ?_;intro g7 c7 w7 hown7 hgrow7 _ _;have B7:=HB.out.grown (X3.out.alloc _) hgrow7;have K7:=HB.out.grownk (X3.out.alloc _) hgrow7;have HO7:=Lib.hid (HB.out.app (X3.out.alloc _) hown7 hgrow7)
    have z3:w7.cell? ⟨gs,3,none⟩=some v0:=by rw[Lib.cell_of_heap B7];rfl
    have zf:w7.frozen? ⟨gs,3,none⟩=false:=Lib.frozen_of_heap B7 3;have z4:w7.cell? ⟨gb,2,none⟩=some (.int .i64 W):=by rw[Lib.cell_of_heap ((K7 gb hgb.1 hgb.2).trans GB.out)];rfl
    clear hown7 hgrow7 B7 K7;refine hKK.out _ _ (fun _=>?_) (fun hH=>?_)
    · (exact⟨z3,z4⟩)
    have hHeld2:=hH;clear hKK KK hHeld hH;have hHeld:=hHeld2 (by decide);clear hHeld2
    (try dsimp only at hHeld)
    (try simp only[Act.put,q1,q2,q3])
    refine wpAnyK_step (o:=_) (i:=8) rfl (by kernel_rfl) (fun KK hKK=>?_);go_simp;refine hKK.out _ _ (fun _=>?_) (fun hH=>?_)
    · (exact⟨z3,z4⟩)
    have hHeld2:=hH;clear hKK KK hHeld hH;have hHeld:=hHeld2 (by decide);clear hHeld2
    (try dsimp only at hHeld)
    (try simp only[Act.put,q1,q2,q3])
    refine wpAnyK_step (o:=_) (i:=9) rfl (by kernel_rfl) (fun KK hKK=>?_);go_simp;refine hKK.out _ _ (fun h=>absurd rfl h) (fun _=>?_);clear hKK KK
    (try simp only[Act.put,q1,q2,q3])
    refine wpAnyK_done (by kernel_rfl) ?_ _;go_wp2
    go_meet
    exact⟨_,Lib.hid (by rw[HL.out];exact HO7.out)⟩
  case rest =>
  clear HB GX b0 b1 b2 b3 b4 b5 s0 s1 s2 q3 s4 sf;obtain⟨v0,HB⟩:=hcut;obtain⟨wx,hwx⟩:∃ w':World,w'=wc:=⟨_,rfl⟩;subst hwx;have GX:Hid (wx.heap[gb]? = _):=Lib.hid ((HB.out.kp gb hgb.1 hgb.2).trans GB.out);obtain⟨b0,b1,b2,b3,b4,b5⟩:=cells6b GX.out;obtain⟨s0,s1,s2,q3,s4,sf⟩:=HB.out.cells;obtain⟨va,vc,hv,hvp,hv1,hv2⟩:=own_atV HB.out.row;subst hv;have HZ:=Lib.hid ((HB.out.kp gr HGR.out.1 HGR.out.2.1).trans GR.out);obtain⟨r0,r1,r2,r3,r4⟩:=cells5g HZ.out;have rf:∀ j,wx.frozen? ⟨gr,j,none⟩=false:=fun j=>Lib.frozen_of_heap HZ.out j
  have HVP:=Lib.hid hvp;have HV1:=Lib.hid hv1;have HV2:=Lib.hid hv2;obtain⟨RN,hRN⟩:∃ n,n=R.length:=⟨_,rfl⟩;have HRN:=Lib.hid hRN;rw[<-hRN] at q3;clear hvp hv1 hv2 hRN;go_wp2
  (try simp only[Exit.inBlock,Exit.then])
  refine bodyPost_ret (results_cell_row rfl _ _ gr 67 #[.int .i64 1,.string nm,.slice none 0 0,.slice va RN vc,.slice none 0 0] (0,0) _ rfl (set5s HZ.out _ _ _ _ _) Tryz.underlying67 rfl size_stm) rfl ?_;rw[HRN.out];refine⟨⟨_,rfl,_,rfl,stm_made (twoP_nil _ _) (TwoP.wide (twoP_set5 HVP.out (gr:=gr) (fun g hg=>by have:=HGR.out;omega) _ _ _ _ _) (fun g hg=>by have:=HG2.out;omega)) (Nat.le_refl _) HV1.out (Nat.zero_le _) HV2.out⟩,ext5g HB.out.X HGR.out.2.2 _ _ _ _ _⟩
end Go.Proofs.YtjaeedbjknejdaaGreatDoor.Ex
