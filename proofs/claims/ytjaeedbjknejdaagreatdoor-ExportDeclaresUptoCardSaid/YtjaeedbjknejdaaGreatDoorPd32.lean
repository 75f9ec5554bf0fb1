/- Packed texts: ExpEdge -/
import Derived.Test.YtjaeedbjknejdaaGreatDoorPd18
set_option linter.unusedVariables false
set_option linter.unusedSimpArgs false
set_option maxHeartbeats 16000000
set_option maxRecDepth 100000
namespace Go.Proofs.YtjaeedbjknejdaaGreatDoor.Ex
open Go.RowKit Go.Sort Go.Lib Go.Shelf Fx Lx Tr At Pa Go.Proofs.YtjaeedbjknejdaaGreatDoor.Nm
theorem cells7b {w:World}{g:Nat}{T:TypeId}{c0 c1 c2 c3 c4 c5 c6:Value}(h:w.heap[g]? = some (.cells #[c0,c1,c2,c3,c4,c5,c6] T (0,0))):
  w.cell? ⟨g,0,none⟩=some c0/\w.cell? ⟨g,1,none⟩=some c1/\w.cell? ⟨g,2,none⟩=some c2/\w.cell? ⟨g,3,none⟩=some c3/\w.cell? ⟨g,4,none⟩=some c4/\w.cell? ⟨g,5,none⟩=some c5/\w.cell? ⟨g,6,none⟩=some c6:=by
 refine⟨?_,?_,?_,?_,?_,?_,?_⟩ <;> (rw[Lib.cell_of_heap h];rfl)
theorem heap_set5 {w:World}{g k:Nat}(h:k ≠ g){v0 v1 v2 v3 v4:Value}:(((((w.setCell ⟨g,0,none⟩ v0).setCell ⟨g,1,none⟩ v1).setCell ⟨g,2,none⟩ v2).setCell ⟨g,3,none⟩ v3).setCell ⟨g,4,none⟩ v4).heap[k]? = w.heap[k]? := by
 rw[Below.heap_setCell _ _ _ _ h,Below.heap_setCell _ _ _ _ h,Below.heap_setCell _ _ _ _ h,Below.heap_setCell _ _ _ _ h,Below.heap_setCell _ _ _ _ h]
theorem itoa_fmt (n:Int)(h0:0<=n):(⟨(Lib.itoa n).toArray⟩:ByteArray)=fmtB (1000 * n):=by
 obtain⟨k,rfl⟩:∃ k:Nat,n=(k:Int):=⟨n.toNat,by omega⟩
 have e1:fmt (1000 * (k:Int))=decDigits k:=by
  unfold fmt fmtU;rw[if_neg (by omega),show(1000 * (k:Int)).natAbs=1000 * k by omega,Nat.mul_mod_right,if_neg (by decide),Nat.mul_div_cancel_left _ (by decide),List.append_nil]
 unfold fmtB;rw[e1];unfold Lib.itoa;rw[if_neg (by omega)];simp
theorem itoa_any (n:Int)(h0:0<=n)(h1:n<=1000000)(w:World)(he:Pows w):
  Calls Tryz.prog 64 #[.int .i64 n] w fun e w'=>e=.returned (.string (fmtB (1000 * n)))/\Ext w w':=by
 refine(Tryz.strconv_Itoa n (by omega) (by omega) w he).mono ?_;rintro e w' ⟨rfl,k,os,rfl⟩;rw[itoa_fmt n h0];exact⟨rfl,(Ext.refl w).drewN k |>.grow os⟩
theorem edge_any (g:Gr)(va:Value)(x:Ed)(w:World)(ha:GrIn w va g)(hv:edE g.N x=0)(hok:GrOk g)(he:Env w):
  Calls Tryz.prog 29 #[va,.agg #[.int .i64 x.a,.int .i64 x.b,.int .i64 x.ap,.int .i64 x.bp,.string x.label,.int .i64 x.wt,.int .i64 x.len]] w fun e w'=>(∃ u,e=.returned u/\StmV (w.heap.size <= ·) (edgeS g.N x) u w')/\Ext w w':=by
 obtain⟨a0,a1,b0,b1,p0,p1,q0,q1,hlb,t0,t1,l0,l1⟩:=ed_ok hv;have hnl:=hok.nl
 have hpl:∀ v,portsOf g.N v<=8:=fun v=>by
  unfold portsOf;cases h:g.N[v.toNat]? with
  | none=>exact Nat.zero_le _
  | some y =>
   obtain⟨hi,rfl⟩:=List.getElem?_eq_some_iff.1 h;exact(prt_ok (nd_ok (hok.nd _ hi)).2.2.2.2.2.2.2.2.2).1
 have he1:=fun(w5:World) (y:Ext w w5)=>end_any g va x.a x.ap w5 (ha.ext y) a0 a1 p0 p1 hnl (hpl _)
 have he2:=fun(w5:World) (y:Ext w w5)=>end_any g va x.b x.bp w5 (ha.ext y) b0 b1 q0 q1 hnl (hpl _)
 have hi1:=fun(w5:World) (y:Ext w w5)=>itoa_any x.wt (by omega) (by omega) w5 (he.ext y).1
 have hi2:=fun(w5:World) (y:Ext w w5)=>itoa_any x.len (by omega) (by omega) w5 (he.ext y).1
 obtain⟨R,hR⟩:∃ R,R=edgeA x:=⟨_,rfl⟩;have hns:edgeS g.N x=.mk 2 ⟨#[]⟩ [endT g.N x.a x.ap,endT g.N x.b x.bp] R []:=by rw[hR];rfl
 rw[hns];unfold edgeA at hR;obtain⟨⟨e1a,e1b⟩,hE1⟩:∃ e,e=endT g.N x.a x.ap:=⟨_,rfl⟩;obtain⟨⟨e2a,e2b⟩,hE2⟩:∃ e,e=endT g.N x.b x.bp:=⟨_,rfl⟩;rw[<-hE1] at he1;rw[<-hE2] at he2;rw[<-hE1,<- hE2];dsimp only at he1 he2;obtain⟨na,nac,ea,eac,ca,cac,rfl,-,-,-⟩:=ha;obtain⟨xa,xb,xp,xq,lb,wt,ln⟩:=x;dsimp only at *;obtain⟨q,hq⟩:∃ n,n=g.N.length:=⟨_,rfl⟩;obtain⟨el,hel⟩:∃ n,n=g.E.length:=⟨_,rfl⟩;obtain⟨cl,hcl⟩:∃ n,n=g.C.length:=⟨_,rfl⟩;simp only[<-hq,<- hel,<- hcl] at he1 he2;rw[<-hq,<- hel,<- hcl];obtain⟨L1,hL1⟩:∃ M,M=(if lb=⟨#[]⟩ then [] else [(kLabel,lb)]:List Two):=⟨_,rfl⟩;obtain⟨L2,hL2⟩:∃ M,M=L1++(if ln=1 then [] else [(kLen,fmtB (1000 * ln))]:List Two):=⟨_,rfl⟩;rw[<-hL1,<- hL2] at hR;have c1:L1.length<=1:=by rw[hL1];split <;> simp
 have c2:L2.length<=2:=by rw[hL2];split <;> simp <;> omega
 have c3:R.length<=3:=by rw[hR];split <;> simp <;> omega
 have c0:([]:List Two).length=0:=rfl;have HE1:=hid he1;have HE2:=hid he2;have HI1:=hid hi1;have HI2:=hid hi2;have HR:=hid hR;have H1:=hid hL1;have H2:=hid hL2;obtain⟨j0,hj0,hjz0,hjz1,hjz2⟩:=info_parts info_atr;clear he1 he2 hi1 hi2 hR hL1 hL2 hns hE1 hE2 hv hok he hpl hnl a0 a1 b0 b1 p0 p1 q0 q1 hlb t0 t1 l0 l1 hq hel hcl;go_enter Tryz.func29,Tryz.ntmps29;go_wp2_with fail;obtain⟨wb,hwb⟩:∃ w2,w2=((w.alloc (.cells #[.string g.name,.bool g.dir,.slice na q nac,.slice ea el eac,.slice ca cl cac] 26)).alloc (.cells #[.int .i64 xa,.int .i64 xb,.int .i64 xp,.int .i64 xq,.string lb,.int .i64 wt,.int .i64 ln] 61)).alloc (.cells #[.int .i64 0,.string ⟨#[]⟩,.slice none 0 0,.slice none 0 0,.slice none 0 0] 67):=⟨_,rfl⟩;have XB:Hid (Ext w wb):=hid (by rw[hwb];exact(((Ext.refl _).alloc _).alloc _).alloc _)
 obtain⟨gg,hgg⟩:∃ g,g=w.heap.size:=⟨_,rfl⟩;obtain⟨gb,hgb0⟩:∃ g,g=w.heap.size+1:=⟨_,rfl⟩;obtain⟨gr,hgr0⟩:∃ g,g=w.heap.size+1+1:=⟨_,rfl⟩;have GG:Hid (wb.heap[gg]? = some (.cells #[.string g.name,.bool g.dir,.slice na q nac,.slice ea el eac,.slice ca cl cac] 26 (0,0))):=hid (by rw[hwb,hgg];exact At.heap_ext (heap_alloc_new w _) (((Ext.refl _).alloc _).alloc _));have GB:Hid (wb.heap[gb]? = some (.cells #[.int .i64 xa,.int .i64 xb,.int .i64 xp,.int .i64 xq,.string lb,.int .i64 wt,.int .i64 ln] 61 (0,0))):=hid (by rw[hwb,hgb0];exact At.heap_ext (new2 _ _ _ (by simp)) ((Ext.refl _).alloc _));have GR:Hid (wb.heap[gr]? = some (.cells #[.int .i64 0,.string ⟨#[]⟩,.slice none 0 0,.slice none 0 0,.slice none 0 0] 67 (0,0))):=hid (by rw[hwb,hgr0];exact new2 _ _ _ (by simp))
 have hszb:wb.heap.size=w.heap.size+3:=by rw[hwb];simp
 rw[<-hwb,<- hgr0,<- hgb0,<- hgg];have HSZ:Hid (gg=w.heap.size/\gb=w.heap.size+1/\gr=w.heap.size+2/\wb.heap.size=w.heap.size+3):=hid ⟨hgg,hgb0,by omega,hszb⟩;clear hwb hgg hgb0 hgr0 hszb;obtain⟨g0,g1,g2,g3,g4⟩:=cells5g GG.out;obtain⟨y0,y1,y2,y3,y4,y5,y6⟩:=cells7b GB.out
 go_cut [5] from 6 to 55 (fun s5 wx=>∃ gs gq rc,s5=.pointer (some ⟨gs,0,none⟩)/\wb.heap.size<=gs/\Hid (wb.heap.size<=gq/\gq ≠ gs/\2<=rc/\rc<=maxLen)/\Hid (wx.heap[gs]? = some (.cells #[.int .i64 2,.string ⟨#[]⟩,.slice (some ⟨gq,0,none⟩) 2 rc,.slice none 0 0,.slice none 0 0] 67 (0,0)))/\Hid (wx.heap[gq]? = some (.cells #[.string e1a,.string e1b,.string e2a,.string e2b] 90 (0,0)))/\Hid (Ext wb wx))
 case first =>
  go_region_held3 (fun w'=>w'.cell? ⟨gg,0,none⟩=some (.string g.name)/\w'.cell? ⟨gg,1,none⟩=some (.bool g.dir)/\w'.cell? ⟨gg,2,none⟩=some (.slice na q nac)/\w'.cell? ⟨gg,3,none⟩=some (.slice ea el eac)/\w'.cell? ⟨gg,4,none⟩=some (.slice ca cl cac)/\w'.cell? ⟨gb,0,none⟩=some (.int .i64 xa)/\w'.cell? ⟨gb,1,none⟩=some (.int .i64 xb)/\w'.cell? ⟨gb,2,none⟩=some (.int .i64 xp)/\w'.cell? ⟨gb,3,none⟩=some (.int .i64 xq))
   (refine⟨Ext.cell (w:=wb) ?_ g0,Ext.cell (w:=wb) ?_ g1,Ext.cell (w:=wb) ?_ g2,Ext.cell (w:=wb) ?_ g3,Ext.cell (w:=wb) ?_ g4,Ext.cell (w:=wb) ?_ y0,Ext.cell (w:=wb) ?_ y1,Ext.cell (w:=wb) ?_ y2,Ext.cell (w:=wb) ?_ y3⟩ <;> (repeat (first | (with_reducible refine Ext.drew ?_) | (with_reducible refine Ext.alloc ?_ _) | ((with_reducible refine Ext.setCell ?_ ?_ _);rotate_left;(first | exact Nat.le_refl _ | exact X6.out.size | exact X7.out.size)) | (with_reducible exact X7.out) | (with_reducible exact X6.out) | (with_reducible exact Ext.refl _))))
   (first | (go_at_call 67;(first
    | (refine Calls.mono (by first | (with_reducible exact HE1.out _ XB.out.drew) | (with_reducible exact HE1.out _ (XB.out.alloc _).drew) | (with_reducible exact HE1.out _ (XB.out.drew.alloc _))) ?_;rintro e w6 ⟨rfl,x6⟩;have X6:=hid (show Ext wb w6 by first | exact(Ext.refl wb).drew.trans x6 | exact((Ext.refl wb).alloc _).drew.trans x6 | exact((Ext.refl wb).drew.alloc _).trans x6);(first | (have B6:=(show w6.heap[wb.heap.size]? = some (.cells #[.int .i64 0,.string ⟨#[]⟩,.slice none 0 0,.slice none 0 0,.slice none 0 0] 67 (0,0)) from At.heap_ext (by exact heap_alloc_new wb _) x6)) | skip))
    | (refine Calls.mono (by first | (with_reducible exact HE2.out _ (XB.out.trans X6.out)) | (with_reducible exact HE2.out _ ((XB.out.trans X6.out).alloc _))) ?_;rintro e w7 ⟨rfl,x7⟩;have X7:=hid (show Ext wb w7 by first | exact X6.out.trans x7 | exact(X6.out.alloc _).trans x7);(first | (have B7:=hid (show w7.heap[wb.heap.size]? = some (.cells #[.int .i64 0,.string ⟨#[]⟩,.slice none 0 0,.slice none 0 0,.slice none 0 0] 67 (0,0)) from At.heap_ext B6 x7);have zz:=(fun ob=>cells5g (At.heap_ext B7.out ((Ext.refl w7).alloc ob)));have z0:=(fun ob=>(zz ob).1);have z1:=(fun ob=>(zz ob).2.1);have z2:=(fun ob=>(zz ob).2.2.1);have z3:=(fun ob=>(zz ob).2.2.2.1);have z4:=(fun ob=>(zz ob).2.2.2.2);clear zz;have zf:∀ ob j,(w7.alloc ob).frozen? ⟨wb.heap.size,j,none⟩=false:=(fun ob j=>Lib.frozen_of_heap (At.heap_ext B7.out ((Ext.refl w7).alloc ob)) j)) | (have B7:=hid (show w7.heap[w6.heap.size]? = some (.cells #[.int .i64 0,.string ⟨#[]⟩,.slice none 0 0,.slice none 0 0,.slice none 0 0] 67 (0,0)) from At.heap_ext (heap_alloc_new w6 _) x7);have zz:=(fun ob=>cells5g (At.heap_ext B7.out ((Ext.refl w7).alloc ob)));have z0:=(fun ob=>(zz ob).1);have z1:=(fun ob=>(zz ob).2.1);have z2:=(fun ob=>(zz ob).2.2.1);have z3:=(fun ob=>(zz ob).2.2.2.1);have z4:=(fun ob=>(zz ob).2.2.2.2);clear zz;have zf:∀ ob j,(w7.alloc ob).frozen? ⟨w6.heap.size,j,none⟩=false:=(fun ob j=>Lib.frozen_of_heap (At.heap_ext B7.out ((Ext.refl w7).alloc ob)) j)) | skip)))))
  all_goals go_wp2
  all_goals go_meet
  ·exact⟨w7.heap.size+1,w7.heap.size,2,rfl,Nat.le_succ_of_le X7.out.size,hid ⟨X7.out.size,by omega,Nat.le_refl _,by unfold maxLen;omega⟩,hid (new2 _ _ _ (by simp)),hid (At.heap_ext (heap_alloc_new w7 _) ((Ext.refl _).alloc _)),hid ((X7.out.alloc _).alloc _)⟩
  ·exact⟨w7.heap.size,w7.heap.size+1,2,rfl,X7.out.size,hid ⟨Nat.le_succ_of_le X7.out.size,by omega,Nat.le_refl _,by unfold maxLen;omega⟩,hid (At.heap_ext (heap_alloc_new w7 _) ((Ext.refl _).alloc _)),hid (new2 _ _ _ (by simp)),hid ((X7.out.alloc _).alloc _)⟩
  ·have hlt:=(Array.getElem?_eq_some_iff.1 B7.out).1;exact⟨w6.heap.size,w7.heap.size,2,rfl,X6.out.size,hid ⟨X7.out.size,by omega,Nat.le_refl _,by unfold maxLen;omega⟩,hid (set5s (At.heap_ext B7.out ((Ext.refl _).alloc _)) _ _ _ _ _),hid (by rw[heap_set5 (show w7.heap.size ≠ w6.heap.size by omega)];exact heap_alloc_new w7 _),hid (ext5g (X7.out.alloc _) X6.out.size _ _ _ _ _)⟩
  have hlt:=(Array.getElem?_eq_some_iff.1 B7.out).1;exact⟨wb.heap.size,w7.heap.size,2,rfl,Nat.le_refl _,hid ⟨X7.out.size,by omega,Nat.le_refl _,by unfold maxLen;omega⟩,hid (set5s (At.heap_ext B7.out ((Ext.refl _).alloc _)) _ _ _ _ _),hid (by rw[heap_set5 (show w7.heap.size ≠ wb.heap.size by omega)];exact heap_alloc_new w7 _),hid (ext5g (X7.out.alloc _) (Nat.le_refl _) _ _ _ _ _)⟩
 case rest =>
 obtain⟨gs,gq,rc,rfl,hgs,HQ,GS,GQ,XC⟩:=hcut;obtain⟨w2,hw2⟩:∃ w':World,w'=wc:=⟨_,rfl⟩;subst hw2;have hgb:gb < w2.heap.size/\gb ≠ gs:=⟨by have:=HSZ.out;have:=XC.out.size;omega,by have:=HSZ.out;omega⟩;have HGR:Hid (gr < w2.heap.size/\gr ≠ gs/\w.heap.size<=gr):=hid ⟨by have:=HSZ.out;have:=XC.out.size;omega,by have:=HSZ.out;omega,by have:=HSZ.out;omega⟩;have HG2:Hid (w.heap.size+3<=w2.heap.size):=hid (by have:=HSZ.out;have:=XC.out.size;omega);have HGQ:Hid (gq < w2.heap.size/\w.heap.size<=gq):=hid ⟨(Array.getElem?_eq_some_iff.1 GQ.out).1,by have:=HSZ.out;have:=HQ.out;omega⟩;replace GB:=hid (At.heap_ext GB.out XC.out);replace GR:=hid (At.heap_ext GR.out XC.out);obtain⟨v0,hv0⟩:∃ v:Value,v=.slice none 0 0:=⟨_,rfl⟩
 have HB:Hid (SbA w w2 gs (.int .i64 2) (.string ⟨#[]⟩) (.slice (some ⟨gq,0,none⟩) 2 rc) (.slice none 0 0) [] v0 w2):=hid (by rw[hv0];exact SbA.start (XB.out.trans XC.out) GS.out (by have:=HSZ.out;omega));clear GS hv0 g0 g1 g2 g3 g4 y0 y1 y2 y3 y4 y5 y6 GG hgs;obtain⟨wx,hwx⟩:∃ w':World,w'=w2:=⟨_,rfl⟩;rw[<-hwx];rw[show SbA w w2 gs (.int .i64 2) (.string ⟨#[]⟩) (.slice (some ⟨gq,0,none⟩) 2 rc) (.slice none 0 0) [] v0 w2=SbA w w2 gs (.int .i64 2) (.string ⟨#[]⟩) (.slice (some ⟨gq,0,none⟩) 2 rc) (.slice none 0 0) [] v0 wx by rw[hwx]] at HB;clear hwx;have GX:Hid (wx.heap[gb]? = _):=hid ((HB.out.kp gb hgb.1 hgb.2).trans GB.out);obtain⟨b0,b1,b2,b3,b4,b5,b6⟩:=cells7b GX.out;obtain⟨s0,s1,s2,q3,s4,sf⟩:=HB.out.cells
 go_upto_if 22 with(fail)
 generalize hbb:(!lb.toList.isEmpty)=bb
 go_cut [] from 6 to 55 (fun wx=>∃ v,Hid (SbA w w2 gs (.int .i64 2) (.string ⟨#[]⟩) (.slice (some ⟨gq,0,none⟩) 2 rc) (.slice none 0 0) L1 v wx))
 case first =>
  by_cases hc:lb=⟨#[]⟩
  ·have f2:bb=false:=by rw[<-hbb];exact eq_empty hc
   subst f2;clear hbb;have hl1:L1=[]:=by rw[H1.out,if_pos hc]
   have HL:=hid hl1;clear hc hl1;go_wp2_with fail
   go_meet
   exact⟨_,hid (by rw[HL.out];exact HB.out)⟩
  have f2:bb=true:=by rw[<-hbb];exact neq_empty hc
  subst f2;clear hbb;have hl1:L1=[]++[(kLabel,lb)]:=by rw[H1.out,if_neg hc];rfl
  have HL:=hid hl1;clear hc hl1;go_wp2_with (at_builtin;refine wpList_append_lies _ rfl _ _ 65 rfl w2.heap.size 69 j0 _ 2 32 Tryz.underlying65 hj0 hjz0 hjz1 hjz2 rfl (by decide) _ _ _ rfl (At.own_ext HB.out.row ((Ext.refl wx).alloc _)) ⟨wx.heap.size,0,none⟩ 1 1 [.string kLabel,.string lb] rfl rfl ?c1 ?c2 (by decide) ?c3 ?c4 ?c5 _ rfl ?_)
  case c1=>exact World.news_of_block (cs:=#[.string kLabel,.string lb]) (t:=69) (fr:=(0,0)) (heap_alloc_new wx _)
  case c2=>intro u hu;simp at hu;rcases hu with rfl | rfl <;> rfl
  case c3=>unfold maxLen;omega
  case c4=>omega
  case c5=>have:=HB.out.sz;simp;omega
  intro g7 c7 w7 hown7 hgrow7 _ _;have B7:=HB.out.grown ((Ext.refl wx).alloc _) hgrow7;have HO7:=hid (HB.out.app ((Ext.refl wx).alloc _) hown7 hgrow7);have z3:w7.cell? ⟨gs,3,none⟩=some v0:=by rw[Lib.cell_of_heap B7];rfl
  have zf:w7.frozen? ⟨gs,3,none⟩=false:=Lib.frozen_of_heap B7 3;clear hown7 hgrow7 B7;go_wp2
  go_meet
  exact⟨_,hid (by rw[HL.out];exact HO7.out)⟩
 case rest =>
 clear HB GX b0 b1 b2 b3 b4 b5 b6 s0 s1 s2 q3 s4 sf hbb bb;obtain⟨v0,HB⟩:=hcut;obtain⟨wx,hwx⟩:∃ w':World,w'=wc:=⟨_,rfl⟩;subst hwx;have GX:Hid (wx.heap[gb]? = _):=hid ((HB.out.kp gb hgb.1 hgb.2).trans GB.out);obtain⟨b0,b1,b2,b3,b4,b5,b6⟩:=cells7b GX.out;obtain⟨s0,s1,s2,q3,s4,sf⟩:=HB.out.cells
 go_upto_if 33 with(fail)
 go_cut [] from 6 to 55 (fun wx=>∃ v,Hid (SbA w w2 gs (.int .i64 2) (.string ⟨#[]⟩) (.slice (some ⟨gq,0,none⟩) 2 rc) (.slice none 0 0) L2 v wx))
 case first =>
  by_cases hc:ln=1
  ·have f1:(ln != 1)=false:=by rw[hc];rfl
   have hl1:L2=L1:=by rw[H2.out,if_pos hc];simp
   have HL:=hid hl1;clear hc hl1;go_wp2_with fail
   go_meet
   exact⟨_,hid (by rw[HL.out];exact HB.out)⟩
  have f1:(ln != 1)=true:=(nfacts hc).2;have hl1:L2=L1++[(kLen,(fmtB (1000 * ln)))]:=by rw[H2.out,if_neg hc]
  have HL:=hid hl1;clear hc hl1;have q4:=b6;go_wp2_with fail;refine wp_region_K (S:=fun w'=>w'.cell? ⟨gs,3,none⟩=some v0/\w'.cell? ⟨gb,6,none⟩=some (.int .i64 ln)) (n:=9) (by kernel_rfl) (by exact⟨Ext.cell ((Ext.refl wx).drew) q3,Ext.cell ((Ext.refl wx).drew) q4⟩) (fun hHeld=>?_);refine kU 9 0 rfl hHeld ?_
  (try simp only[Act.put,q1,q2,q3])
  refine kU 9 1 rfl hHeld ?_
  (try simp only[Act.put,q1,q2,q3])
  refine kU 9 2 rfl hHeld ?_
  (try simp only[Act.put,q1,q2,q3])
  refine kU 9 3 rfl hHeld ?_
  (try simp only[Act.put,q1,q2,q3])
  refine wpAnyK_step (o:=_) (i:=4) rfl (by kernel_rfl) (fun KK hKK=>?_);go_simp
  (go_at_call 64;refine Calls.mono (by with_reducible exact HI2.out _ (HB.out.X.drew)) ?_;rintro e w3 ⟨rfl,x3⟩;have X3:Hid (Ext wx w3):=hid ((Ext.refl wx).drew.trans x3);clear x3)
  refine hKK.out _ _ (fun _=>?_) (fun hH=>?_)
  ·(exact⟨Ext.cell (X3.out) q3,Ext.cell (X3.out) q4⟩)
  clear hHeld;have hHeld:=hH (by decide);clear hKK KK hH;(try dsimp only at hHeld)
  (try simp only[Act.put,q1,q2,q3])
  refine kU 9 5 rfl hHeld ?_
  (try simp only[Act.put,q1,q2,q3])
  refine wpAnyK_step (o:=_) (i:=6) rfl (by kernel_rfl) (fun KK hKK=>?_);go_simp;refine hKK.out _ _ (fun _=>?_) (fun hH=>?_)
  ·(exact⟨Ext.cell (X3.out.alloc _) q3,Ext.cell (X3.out.alloc _) q4⟩)
  clear hHeld;have hHeld:=hH (by decide);clear hKK KK hH;(try dsimp only at hHeld)
  (try simp only[Act.put,q1,q2,q3])
  refine wpAnyK_step (o:=_) (i:=7) rfl (by kernel_rfl) (fun KK hKK=>?_);refine step_append_lies _ (by rfl) _ _ 65 (by rfl) w2.heap.size 69 j0 _ 2 32 Tryz.underlying65 hj0 hjz0 hjz1 hjz2 rfl (by decide) _ _ _ (by rfl) (At.own_ext HB.out.row (X3.out.alloc _)) ⟨w3.heap.size,0,none⟩ 1 1 [.string kLen,.string (fmtB (1000 * ln))] (by rfl) (by rfl) (World.news_of_block (cs:=#[.string kLen,.string (fmtB (1000 * ln))]) (t:=69) (fr:=(0,0)) (heap_alloc_new w3 _)) (by intro u hu;simp at hu;rcases hu with rfl | rfl <;> rfl) (by omega) (by unfold maxLen;omega) (by omega) (by have:=HB.out.sz;have:=X3.out.size;simp;omega) _ rfl ?_;intro g7 c7 w7 hown7 hgrow7 _ _;have B7:=HB.out.grown (X3.out.alloc _) hgrow7;have K7:=HB.out.grownk (X3.out.alloc _) hgrow7;have HO7:=hid (HB.out.app (X3.out.alloc _) hown7 hgrow7)
  have z3:w7.cell? ⟨gs,3,none⟩=some v0:=by rw[Lib.cell_of_heap B7];rfl
  have zf:w7.frozen? ⟨gs,3,none⟩=false:=Lib.frozen_of_heap B7 3;have z4:w7.cell? ⟨gb,6,none⟩=some (.int .i64 ln):=by rw[Lib.cell_of_heap ((K7 gb hgb.1 hgb.2).trans GB.out)];rfl
  clear hown7 hgrow7 B7 K7;refine hKK.out _ _ (fun _=>?_) (fun hH=>?_)
  ·(exact⟨z3,z4⟩)
  clear hHeld;have hHeld:=hH (by decide);clear hKK KK hH;(try dsimp only at hHeld)
  (try simp only[Act.put,q1,q2,q3])
  refine wpAnyK_step (o:=_) (i:=8) rfl (by kernel_rfl) (fun KK hKK=>?_);go_simp;refine hKK.out _ _ (fun _=>?_) (fun hH=>?_)
  ·(exact⟨z3,z4⟩)
  clear hHeld;have hHeld:=hH (by decide);clear hKK KK hH;(try dsimp only at hHeld)
  (try simp only[Act.put,q1,q2,q3])
  refine wpAnyK_step (o:=_) (i:=9) rfl (by kernel_rfl) (fun KK hKK=>?_);go_simp;refine hKK.out _ _ (fun h=>absurd rfl h) (fun _=>?_);clear hKK KK
  (try simp only[Act.put,q1,q2,q3])
  refine wpAnyK_done (by kernel_rfl) ?_ _;go_wp2
  go_meet
  exact⟨_,hid (by rw[HL.out];exact HO7.out)⟩
 case rest =>
 clear HB GX b0 b1 b2 b3 b4 b5 b6 s0 s1 s2 q3 s4 sf;obtain⟨v0,HB⟩:=hcut;obtain⟨wx,hwx⟩:∃ w':World,w'=wc:=⟨_,rfl⟩;subst hwx;have GX:Hid (wx.heap[gb]? = _):=hid ((HB.out.kp gb hgb.1 hgb.2).trans GB.out);obtain⟨b0,b1,b2,b3,b4,b5,b6⟩:=cells7b GX.out;obtain⟨s0,s1,s2,q3,s4,sf⟩:=HB.out.cells
 go_upto_if 45 with(fail)
 go_cut [] from 6 to 55 (fun wx=>∃ v,Hid (SbA w w2 gs (.int .i64 2) (.string ⟨#[]⟩) (.slice (some ⟨gq,0,none⟩) 2 rc) (.slice none 0 0) R v wx))
 case first =>
  by_cases hc:wt=1
  ·have f1:(wt != 1)=false:=by rw[hc];rfl
   have hl1:R=L2:=by rw[HR.out,if_pos hc];simp
   have HL:=hid hl1;clear hc hl1;go_wp2_with fail
   go_meet
   exact⟨_,hid (by rw[HL.out];exact HB.out)⟩
  have f1:(wt != 1)=true:=(nfacts hc).2;have hl1:R=L2++[(kWeight,(fmtB (1000 * wt)))]:=by rw[HR.out,if_neg hc]
  have HL:=hid hl1;clear hc hl1;have q4:=b5;go_wp2_with fail;refine wp_region_K (S:=fun w'=>w'.cell? ⟨gs,3,none⟩=some v0/\w'.cell? ⟨gb,5,none⟩=some (.int .i64 wt)) (n:=9) (by kernel_rfl) (by exact⟨Ext.cell ((Ext.refl wx).drew) q3,Ext.cell ((Ext.refl wx).drew) q4⟩) (fun hHeld=>?_);refine kU 9 0 rfl hHeld ?_
  (try simp only[Act.put,q1,q2,q3])
  refine kU 9 1 rfl hHeld ?_
  (try simp only[Act.put,q1,q2,q3])
  refine kU 9 2 rfl hHeld ?_
  (try simp only[Act.put,q1,q2,q3])
  refine kU 9 3 rfl hHeld ?_
  (try simp only[Act.put,q1,q2,q3])
  refine wpAnyK_step (o:=_) (i:=4) rfl (by kernel_rfl) (fun KK hKK=>?_);go_simp
  (go_at_call 64;refine Calls.mono (by with_reducible exact HI1.out _ (HB.out.X.drew)) ?_;rintro e w3 ⟨rfl,x3⟩;have X3:Hid (Ext wx w3):=hid ((Ext.refl wx).drew.trans x3);clear x3)
  refine hKK.out _ _ (fun _=>?_) (fun hH=>?_)
  ·(exact⟨Ext.cell (X3.out) q3,Ext.cell (X3.out) q4⟩)
  clear hHeld;have hHeld:=hH (by decide);clear hKK KK hH;(try dsimp only at hHeld)
  (try simp only[Act.put,q1,q2,q3])
  refine kU 9 5 rfl hHeld ?_
  (try simp only[Act.put,q1,q2,q3])
  refine wpAnyK_step (o:=_) (i:=6) rfl (by kernel_rfl) (fun KK hKK=>?_);go_simp;refine hKK.out _ _ (fun _=>?_) (fun hH=>?_)
  ·(exact⟨Ext.cell (X3.out.alloc _) q3,Ext.cell (X3.out.alloc _) q4⟩)
  clear hHeld;have hHeld:=hH (by decide);clear hKK KK hH;(try dsimp only at hHeld)
  (try simp only[Act.put,q1,q2,q3])
  refine wpAnyK_step (o:=_) (i:=7) rfl (by kernel_rfl) (fun KK hKK=>?_);refine step_append_lies _ (by rfl) _ _ 65 (by rfl) w2.heap.size 69 j0 _ 2 32 Tryz.underlying65 hj0 hjz0 hjz1 hjz2 rfl (by decide) _ _ _ (by rfl) (At.own_ext HB.out.row (X3.out.alloc _)) ⟨w3.heap.size,0,none⟩ 1 1 [.string kWeight,.string (fmtB (1000 * wt))] (by rfl) (by rfl) (World.news_of_block (cs:=#[.string kWeight,.string (fmtB (1000 * wt))]) (t:=69) (fr:=(0,0)) (heap_alloc_new w3 _)) (by intro u hu;simp at hu;rcases hu with rfl | rfl <;> rfl) (by omega) (by unfold maxLen;omega) (by omega) (by have:=HB.out.sz;have:=X3.out.size;simp;omega) _ rfl ?_;intro g7 c7 w7 hown7 hgrow7 _ _;have B7:=HB.out.grown (X3.out.alloc _) hgrow7;have K7:=HB.out.grownk (X3.out.alloc _) hgrow7;have HO7:=hid (HB.out.app (X3.out.alloc _) hown7 hgrow7)
  have z3:w7.cell? ⟨gs,3,none⟩=some v0:=by rw[Lib.cell_of_heap B7];rfl
  have zf:w7.frozen? ⟨gs,3,none⟩=false:=Lib.frozen_of_heap B7 3;have z4:w7.cell? ⟨gb,5,none⟩=some (.int .i64 wt):=by rw[Lib.cell_of_heap ((K7 gb hgb.1 hgb.2).trans GB.out)];rfl
  clear hown7 hgrow7 B7 K7;refine hKK.out _ _ (fun _=>?_) (fun hH=>?_)
  ·(exact⟨z3,z4⟩)
  clear hHeld;have hHeld:=hH (by decide);clear hKK KK hH;(try dsimp only at hHeld)
  (try simp only[Act.put,q1,q2,q3])
  refine wpAnyK_step (o:=_) (i:=8) rfl (by kernel_rfl) (fun KK hKK=>?_);go_simp;refine hKK.out _ _ (fun _=>?_) (fun hH=>?_)
  ·(exact⟨z3,z4⟩)
  clear hHeld;have hHeld:=hH (by decide);clear hKK KK hH;(try dsimp only at hHeld)
  (try simp only[Act.put,q1,q2,q3])
  refine wpAnyK_step (o:=_) (i:=9) rfl (by kernel_rfl) (fun KK hKK=>?_);go_simp;refine hKK.out _ _ (fun h=>absurd rfl h) (fun _=>?_);clear hKK KK
  (try simp only[Act.put,q1,q2,q3])
  refine wpAnyK_done (by kernel_rfl) ?_ _;go_wp2
  go_meet
  exact⟨_,hid (by rw[HL.out];exact HO7.out)⟩
 case rest =>
 clear HB GX b0 b1 b2 b3 b4 b5 b6 s0 s1 s2 q3 s4 sf;obtain⟨v0,HB⟩:=hcut;obtain⟨wx,hwx⟩:∃ w':World,w'=wc:=⟨_,rfl⟩;subst hwx;have GX:Hid (wx.heap[gb]? = _):=hid ((HB.out.kp gb hgb.1 hgb.2).trans GB.out);obtain⟨b0,b1,b2,b3,b4,b5,b6⟩:=cells7b GX.out;obtain⟨s0,s1,s2,q3,s4,sf⟩:=HB.out.cells;obtain⟨va,vc,hv,hvp,hv1,hv2⟩:=own_atV HB.out.row;subst hv;have HZ:=hid ((HB.out.kp gr HGR.out.1 HGR.out.2.1).trans GR.out);obtain⟨r0,r1,r2,r3,r4⟩:=cells5g HZ.out;have rf:∀ j,wx.frozen? ⟨gr,j,none⟩=false:=fun j=>Lib.frozen_of_heap HZ.out j
 have HVP:=hid hvp;have HV1:=hid hv1;have HV2:=hid hv2;obtain⟨RN,hRN⟩:∃ n,n=R.length:=⟨_,rfl⟩;have HRN:=hid hRN;rw[<-hRN] at q3;clear hvp hv1 hv2 hRN;go_wp2
 (try simp only[Exit.inBlock,Exit.then])
 refine bodyPost_ret (results_cell_row rfl _ _ gr 67 #[.int .i64 2,.string ⟨#[]⟩,.slice (some ⟨gq,0,none⟩) 2 rc,.slice va RN vc,.slice none 0 0] (0,0) _ rfl (set5s HZ.out _ _ _ _ _) Tryz.underlying67 rfl size_stm) rfl ?_;rw[HRN.out]
 have hq:(((((wx.setCell ⟨gr,0,none⟩ (.int .i64 2)).setCell ⟨gr,1,none⟩ (.string ⟨#[]⟩)).setCell ⟨gr,2,none⟩ (.slice (some ⟨gq,0,none⟩) 2 rc)).setCell ⟨gr,3,none⟩ (.slice va R.length vc)).setCell ⟨gr,4,none⟩ (.slice none 0 0)).heap[gq]? = some (.cells #[.string e1a,.string e1b,.string e2a,.string e2b] 90 (0,0)):=by
  rw[heap_set5 (by have:=HQ.out;have:=HGR.out;have:=HSZ.out;omega),HB.out.kp gq HGQ.out.1 HQ.out.2.1];exact GQ.out
 refine⟨⟨_,rfl,_,rfl,stm_made (two_refs hq HGQ.out.2) (TwoP.wide (twoP_set5 HVP.out (gr:=gr) (fun g hg=>by have:=HGR.out;omega) _ _ _ _ _) (fun g hg=>by have:=HG2.out;omega)) HQ.out.2.2.1 HV1.out HQ.out.2.2.2 HV2.out⟩,ext5g HB.out.X HGR.out.2.2 _ _ _ _ _⟩
end Go.Proofs.YtjaeedbjknejdaaGreatDoor.Ex
