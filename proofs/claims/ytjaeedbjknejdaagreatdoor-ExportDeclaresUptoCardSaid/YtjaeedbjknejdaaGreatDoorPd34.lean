/- Packed texts: ExpTreB -/
import Derived.Test.YtjaeedbjknejdaaGreatDoorPd30
import Derived.Test.YtjaeedbjknejdaaGreatDoorPd33
set_option linter.unusedVariables false
set_option linter.unusedSimpArgs false
set_option maxHeartbeats 16000000
set_option maxRecDepth 100000
namespace Go.Proofs.YtjaeedbjknejdaaGreatDoor.Ex
open Go Go.RowKit Go.Sort Go.Lib Go.Shelf Fx Lx Tr At Pa Go.Proofs.YtjaeedbjknejdaaGreatDoor.Nm
def TreeR (g:Gr)(r:Except Int (List Stm))(m:Nat)(e:Ending)(w':World):Prop:=match r with
 | .ok L=>∃ b c,e=.returned (.tuple #[.agg #[.string g.name,.bool g.dir,.slice b L.length c],.int .i64 0])/\StmsP (m <= ·) w' b L/\L.length<=c/\c<=maxLen
 | .error n=>e=.returned (.tuple #[tr0V,.int .i64 n])
structure TreJ (w4:World)(nm:ByteArray)(dir:Bool)(tb B:Nat)(L:List Stm)(v:Value)(wx:World):Prop where
 X:Ext w4 wx
 tx:wx.heap[tb]? = some (.cells #[.string nm,.bool dir,v] 33 (0,0))
 row:BarT (· = tb) B L v wx
 lo:w4.heap.size<=tb/\w4.heap.size<=B/\B<=wx.heap.size
theorem TreJ.ext {w4 wx w':World}{nm:ByteArray}{dir:Bool}{tb B:Nat}{L:List Stm}{v:Value}(h:TreJ w4 nm dir tb B L v wx)(x:Ext wx w'):TreJ w4 nm dir tb B L v w' :=
 ⟨h.X.trans x,At.heap_ext h.tx x,h.row.turn x (fun _ _ _ h=>h),h.lo.1,h.lo.2.1,Nat.le_trans h.lo.2.2 x.size⟩
theorem treJ_made {w4 wx:World}{nm:ByteArray}{dir:Bool}{tb B:Nat}{L:List Stm}{v:Value}{u0 u1 u2:Value}(x:Ext w4 wx)(h:wx.heap[tb]? = some (.cells #[u0,u1,u2] 33 (0,0)))(hr:BarT (· = tb) B L v wx)(h1:w4.heap.size<=tb)(h2:w4.heap.size<=B)(h3:B<=wx.heap.size):
  TreJ w4 nm dir tb B L v (((wx.setCell ⟨tb,0,none⟩ (.string nm)).setCell ⟨tb,1,none⟩ (.bool dir)).setCell ⟨tb,2,none⟩ v):=by
 have ha:=blk_set h 0 (.string nm);have hb:=blk_set ha 1 (.bool dir);refine⟨ext3t x h1 _ _ _,blk_set hb 2 v,?_,h1,h2,by rw[size_setC,size_setC,size_setC];exact h3⟩;exact((hr.set rfl h (by decide)).set rfl ha (by decide)).set rfl hb (by decide)
theorem box_three {wx:World}{tb wb:Nat}{o:Obj}{u0 u1 u2:Value}(h:wx.heap[wb]? = some o)(hne:wb ≠ tb):(((wx.setCell ⟨tb,0,none⟩ u0).setCell ⟨tb,1,none⟩ u1).setCell ⟨tb,2,none⟩ u2).heap[wb]? = some o:=by
 rw[Below.heap_setCell _ _ _ _ hne,Below.heap_setCell _ _ _ _ hne,Below.heap_setCell _ _ _ _ hne];exact h
theorem stmsP_turn {ok ok':Nat->Prop}{w w':World}{b:Option Addr}{L:List Stm}(h:StmsP ok w b L)(x:Ext w w')(ho:∀ g,ok g->g < w.heap.size->ok' g):StmsP ok' w' b L:=StmsP.keep (fun g _ hlt=>x.block g hlt) ho L b h
theorem barT_own {T:Nat->Prop}{B:Nat}{L:List Stm}{v:Value}{w:World}(h:BarT T B L v w):∀ g,v.ownBlock=some g->B<=g/\g < w.heap.size:=fun g e=>by
 obtain⟨X,o,-⟩:=h;exact o.lt g e
theorem barT_val {T:Nat->Prop}{B:Nat}{L:List Stm}{v:Value}{w:World}(h:BarT T B L v w):∃ a c,v=.slice a L.length c/\L.length<=c/\c<=maxLen:=by
 obtain⟨X,o,-⟩:=h;exact row_val o
theorem treJ_next {w4 wr wA w7:World}{nm:ByteArray}{dir:Bool}{tb B g7 c7 LN:Nat}{L:List Stm}{v:Value}{X xs:List Value}{s:Stm}(h:TreJ w4 nm dir tb B L v wr)(hn:LN=L.length)(own:wr.ownsRow B 67 5 v LN X)(hc:StmsC (fun g=>B<=g/\some g ≠ v.ownBlock/\¬ g=tb) wr L X)(x:Ext wr wA)
  (hs:StmP (fun g=>wr.heap.size<=g) wA s xs) (hl:xs.length=5) (hg:wA.grownBy w7 v.ownBlock) (ho:w7.ownsRow B 67 5 (.slice (some ⟨g7,0,none⟩) (LN+1) c7) (LN+1) (X++xs)) (hor:v.ownBlock=some g7\/g7=wA.heap.size) :
  TreJ w4 nm dir tb B (L++[s]) (.slice (some ⟨g7,0,none⟩) (LN+1) c7) (w7.setCell ⟨tb,2,none⟩ (.slice (some ⟨g7,0,none⟩) (LN+1) c7))/\w7.heap[tb]? = some (.cells #[.string nm,.bool dir,v] 33 (0,0)):=by
 subst hn;have hz:=x.size;have htl:=(Array.getElem?_eq_some_iff.1 h.tx).1;have tA:=At.heap_ext h.tx x;have oA:=At.own_ext own x;have t7:w7.heap[tb]? = some (.cells #[.string nm,.bool dir,v] 33 (0,0)):=cel_keep tA hg (row_ty oA) (nope (by decide));have e:(Value.slice (some ⟨g7,0,none⟩) (L.length+1) c7).ownBlock=some g7:=rfl
 have hor2:(Value.slice (some ⟨g7,0,none⟩) (L.length+1) c7).ownBlock=v.ownBlock\/(Value.slice (some ⟨g7,0,none⟩) (L.length+1) c7).ownBlock=some wA.heap.size:=by
  rw[e];rcases hor with h | h
  ·exact .inl h.symm
  exact .inr (by rw[h])
 have hso:StmP (fun g=>(B<=g/\some g ≠ v.ownBlock/\¬ g=tb)/\g < wA.heap.size) wA s xs:=StmP.keep (fun _ _ _=>rfl) (fun g hk hlt=>by
  have hk:wr.heap.size<=g:=hk;have hB:=h.lo.2.2
  exact⟨⟨by omega,fun e2=>by have:=(own.lt g e2.symm).2;omega,by omega⟩,hlt⟩) s xs hs
 have row:BarT (· = tb) B (L++[s]) (.slice (some ⟨g7,0,none⟩) (L.length+1) c7) w7 :=
  BarT.cat (M:=[s]) (Y:=xs) oA (StmsC.keep (fun g hk hlt=>x.block g hlt) (fun g hk _=>hk) L X hc) ⟨xs,[],by simp,hl,hso,rfl⟩ hg ho hor2
 refine⟨⟨(ext_grown (h.X.trans x) hg (fun k e=>Nat.le_trans h.lo.2.1 (own.lt k e).1)).setCell h.lo.1 _,blk_set t7 2 _,row.set rfl t7 (by decide),h.lo.1,h.lo.2.1,?_⟩,t7⟩;have:=hg.size;have:=h.lo.2.2;rw[size_setC];omega
theorem stmsP_turn3 {m:Nat}{w w':World}{b:Option Addr}{L:List Stm}{g:Nat}{u0 u1 u2:Value}(h:StmsP (m <= ·) w b L)(x:Ext w w')(hg:g < m):StmsP (m <= ·) (((w'.setCell ⟨g,0,none⟩ u0).setCell ⟨g,1,none⟩ u1).setCell ⟨g,2,none⟩ u2) b L :=
  StmsP.keep (fun k hk hlt => by have hk : m <= k := hk; have hne : k ≠ g := by omega
                                 rw[Below.heap_setCell _ _ _ _ hne,Below.heap_setCell _ _ _ _ hne,Below.heap_setCell _ _ _ _ hne];exact x.block k hlt) (fun k hk _=>hk) L b h
theorem treJ_out {w w4:World}{nm:ByteArray}{dir:Bool}{tb B:Nat}{L:List Stm}{v:Value}{wr:World}(h:TreJ w4 nm dir tb B L v wr)(hw:w.heap.size<=w4.heap.size):∃ b c,v=.slice b L.length c/\StmsP (w.heap.size <= ·) wr b L/\L.length<=c/\c<=maxLen:=by
 obtain⟨X,o,hc⟩:=h.row;obtain⟨b,c,rfl,h1,h2⟩:=row_val o;refine⟨b,c,rfl,?_,h1,h2⟩;have hlo:=h.lo.2.1;rcases o.2 with⟨h3,h4⟩ | ⟨g',cap,cur,hv,hbg,hg,h5,h6,hcs,htake⟩
 ·injection h3 with h3 h4 h5;have:L=[]:=List.length_eq_zero_iff.1 h4;subst this;rw[StmsP];trivial
 injection hv with hv;subst hv;refine StmsP.keep (fun _ _ _=>rfl) (fun g hg _=>hg) L _ (StmsC.at (ok:=(w.heap.size <= ·)) (by show w.heap.size<=g';omega) L X 0 (StmsC.keep (fun _ _ _=>rfl) (fun g hk _=>by have:=hk.1;omega) L X hc) (fun j u hj=>?_));have:=o.cells (g:=g') rfl j u hj;rw[add0] at this;rw[Nat.zero_add];exact this
theorem tree_short {g:Gr}{o:Op5}(hg:grE g=0)(ho:inR5 o=true)(h:(blkT g (-1) 0 0).2.1 < g.N.length\/(blkT g (-1) 0 0).2.2 < g.C.length):treeT g o=.error 1:=by
 unfold treeT;rw[if_neg (by rw[hg,ho];simp),if_pos h]
theorem tree_long {g:Gr}{o:Op5}(hg:grE g=0)(ho:inR5 o=true)(h:¬ ((blkT g (-1) 0 0).2.1 < g.N.length\/(blkT g (-1) 0 0).2.2 < g.C.length)):treeT g o=if validE g.name (bodyT g o) ≠ 0 then .error (validE g.name (bodyT g o)) else .ok (bodyT g o):=by
 unfold treeT;rw[if_neg (by rw[hg,ho];simp),if_neg h]
theorem treeA_good (g:Gr)(na ea ca:Option Addr)(nac eac cac:Nat)(o:Op5)(w:World)(ha:GrIn w (.agg #[.string g.name,.bool g.dir,.slice na g.N.length nac,.slice ea g.E.length eac,.slice ca g.C.length cac]) g)(hcp:GrCp w (.agg #[.string g.name,.bool g.dir,.slice na g.N.length nac,.slice ea g.E.length eac,.slice ca g.C.length cac]) g)(hsm:GrSm g)(hg0:grE g=0)(ho:inR5 o=true)(he:Env w):
  Calls Tryz.prog 10 #[.agg #[.string g.name,.bool g.dir,.slice na g.N.length nac,.slice ea g.E.length eac,.slice ca g.C.length cac],opV o] w fun e w'=>TreeR g (treeT g o) w.heap.size e w'/\Ext w w':=by
 have hok:=gr_ok hg0;have hvg:=fun(w5:World) (x:Ext w w5)=>validG_any g _ w5 (ha.ext x) (hcp.ext ha x) hsm
 have hvo:=fun(w5:World)=>vopP_any o w5
 have e5:=ok5 o;rw[ho] at e5;simp only[hg0] at hvg;simp only[e5] at hvo;have hop:=fun(w5:World) (x:Ext w w5)=>opts_any o ho w5 (he.ext x)
 have hbk:=fun(w0 w5:World) (x0:Ext w w0) (wb:Nat) (hwb:w0.heap.size<=wb) (x:Ext w0 w5) (hb:w5.heap[wb]? = some (boxO 74 g na ea ca nac eac cac 0 0))=>blk_all w0 g na ea ca nac eac cac wb (ha.ext x0) (hcp.ext ha x0) hsm hg0 (he.ext x0) hwb (msr g 0 0+1) (-1) 0 0 w5 (Nat.lt_succ_self _) (Nat.zero_le _) (Nat.zero_le _) x hb
 obtain⟨R,hR⟩:∃ R,R=treeT g o:=⟨_,rfl⟩;obtain⟨OL,hOL⟩:∃ L,L=optsL o:=⟨_,rfl⟩;obtain⟨BD,hBD⟩:∃ b,b=blkT g (-1) 0 0:=⟨_,rfl⟩;rw[<-hR];simp only[<-hOL] at hop;simp only[<-hBD] at hbk;obtain⟨BL,n2,k2⟩:=BD;dsimp only at hbk;have hcn:OL.length+BL.length<=100:=by have h:=opts_blk hok o;rw[<-hOL,<- hBD] at h;exact h
 obtain⟨i0,hi0,hz0,hz1,hz2⟩:=info_parts info_stm;have HVG:=hid hvg;have HVO:=hid hvo;have HOP:=hid hop;have HBK:=hid hbk;have HR:=hid hR;have HOL:=hid hOL;have HBD:=hid hBD;have HOK:=hid hok;have HE:=hid he;have HA:=hid ha;have HO:=hid ho;have HG0:=hid hg0;clear hvg hvo hop hbk hR hOL hBD hok he ha hcp hsm hg0 ho e5;obtain⟨mo,ns,rs,mg,rd⟩:=o;unfold opV at HVO HOP ⊢;dsimp only at HVO HOP ⊢;obtain⟨q,hq⟩:∃ n,n=g.N.length:=⟨_,rfl⟩;obtain⟨el,hel⟩:∃ n,n=g.E.length:=⟨_,rfl⟩;obtain⟨cl,hcle⟩:∃ n,n=g.C.length:=⟨_,rfl⟩;have HQ:=hid hq.symm;have HEL:=hid hel.symm;have HCL:=hid hcle.symm;simp only[<-hq,<- hel,<- hcle] at HVG ⊢;clear hq hel hcle;go_enter Tryz.func10,Tryz.ntmps10
 go_upto_region 4 with(first
  | (go_at_call 25;refine(HVG.out _ ((((Ext.refl _).alloc _).alloc _).alloc _)).mono ?_;rintro e w3 ⟨rfl,x3⟩;have X3:=hid x3;obtain⟨o0,o1,o2,o3,o4⟩:=cells5g (At.heap_ext (new2 _ _ _ (by simp)) (((Ext.refl _).alloc _).trans x3):w3.heap[w.heap.size+1]? = some (.cells #[.int .i64 mo,.int .i64 ns,.int .i64 rs,.int .i64 mg,.int .i64 rd] 28 (0,0)));clear x3)
  | (go_at_call 26;refine(HVO.out _).mono ?_;rintro e w4 ⟨rfl,x4⟩;have X4:=hid (X3.out.trans x4);have HG4:=hid (two_newT X4.out);have HO4:=hid (At.heap_ext (new2 _ _ _ (by simp)) (((Ext.refl _).alloc _).trans X4.out):w4.heap[w.heap.size+1]? = some (.cells #[.int .i64 mo,.int .i64 ns,.int .i64 rs,.int .i64 mg,.int .i64 rd] 28 (0,0)));have HB4:=hid (At.heap_ext (heap_alloc_new w _) ((((Ext.refl _).alloc _).alloc _).trans X4.out));obtain⟨g0,g1,g2,g3,g4⟩:=cells5g HB4.out;clear x4))
 obtain⟨wb,hwb⟩:∃ n,n=w4.heap.size:=⟨_,rfl⟩;obtain⟨w5,hw5⟩:∃ w',w'=w4.alloc (.cells #[.string g.name,.bool g.dir,.slice na q nac,.slice ea el eac,.slice ca cl cac,.int .i64 0,.int .i64 0] 74):=⟨_,rfl⟩;have X04:Hid (Ext w w4):=hid (((((Ext.refl _).alloc _).alloc _).alloc _).trans X4.out);have X45:Hid (Ext w4 w5):=hid (by rw[hw5];exact(Ext.refl _).alloc _);have BX5:Hid (w5.heap[wb]? = some (boxO 74 g na ea ca nac eac cac 0 0)):=hid (by unfold boxO;rw[hw5,hwb,HQ.out,HEL.out,HCL.out];exact heap_alloc_new w4 _);have HWB:Hid (w4.heap.size<=wb/\wb < w5.heap.size):=hid ⟨by omega,(Array.getElem?_eq_some_iff.1 BX5.out).1⟩;rw[<-hw5,<- hwb];clear hw5 hwb;clear o0 o1 o2 o3 o4;obtain⟨y0,y1,y2,y3,y4⟩:=cells5g HO4.out
 go_cut [7] from 8 to 74 (fun s7 wx=>∃ tb B v,s7=.pointer (some ⟨tb,0,none⟩)/\Hid (TreJ w4 g.name g.dir tb B (OL++BL) v wx)/\Hid (wx.heap[wb]? = some (boxO 74 g na ea ca nac eac cac n2 k2))/\Hid (wb < tb))
 case first =>
  go_wp2_with fail;refine wp_region_K (S:=fun w'=>w'.cell? ⟨w.heap.size,0,none⟩=some (.string g.name)/\w'.cell? ⟨w.heap.size,1,none⟩=some (.bool g.dir)/\w'.cell? ⟨w.heap.size+1,0,none⟩=some (.int .i64 mo)/\w'.cell? ⟨w.heap.size+1,1,none⟩=some (.int .i64 ns)/\w'.cell? ⟨w.heap.size+1,2,none⟩=some (.int .i64 rs)/\w'.cell? ⟨w.heap.size+1,3,none⟩=some (.int .i64 mg)/\w'.cell? ⟨w.heap.size+1,4,none⟩=some (.int .i64 rd)) (n:=11) (by kernel_rfl) (by exact⟨Ext.cell (X45.out.drew) g0,Ext.cell (X45.out.drew) g1,Ext.cell (X45.out.drew) y0,Ext.cell (X45.out.drew) y1,Ext.cell (X45.out.drew) y2,Ext.cell (X45.out.drew) y3,Ext.cell (X45.out.drew) y4⟩) (fun hHeld=>?_);refine kU 11 0 rfl hHeld ?_
  (try simp only[Act.put,q1,q2,q3])
  refine kU 11 1 rfl hHeld ?_
  (try simp only[Act.put,q1,q2,q3])
  refine kU 11 2 rfl hHeld ?_
  (try simp only[Act.put,q1,q2,q3])
  refine kU 11 3 rfl hHeld ?_
  (try simp only[Act.put,q1,q2,q3])
  refine kU 11 4 rfl hHeld ?_
  (try simp only[Act.put,q1,q2,q3])
  refine kU 11 6 rfl hHeld ?_
  (try simp only[Act.put,q1,q2,q3])
  refine wpAnyK_two (i:=5) (j:=10) (oi:=_) (oj:=_) rfl rfl (by kernel_rfl) (fun KK hKK=>?_) (fun KK hKK=>?_)
  ·go_simp
   (go_at_call 27;refine Calls.mono (by with_reducible exact HOP.out _ (X04.out.trans (X45.out.drew))) ?_;rintro e w6 ⟨⟨u,B,rfl,hB1,hB2,hbar⟩,x6⟩)
   have Z6:Hid (Ext w4 w6):=hid ((X45.out.drew).trans x6);have BX6:Hid (w6.heap[wb]? = some (boxO 74 g na ea ca nac eac cac 0 0)):=hid (At.heap_ext (At.heap_ext BX5.out ((Ext.refl _).drew)) x6);have hB0:w5.heap.size<=B:=Nat.le_trans (by first | exact Nat.le_refl _ | exact HXT.out.size) hB1;have HB1:Hid (wb < B/\w4.heap.size<=B/\B<=w6.heap.size):=hid ⟨by have h1:=HWB.out.2;omega,by have:=X45.out.size;omega,hB2⟩;have BR6:Hid (BarT (fun _=>False) B OL u w6):=hid (BarT.of hbar (fun _ _ _ h=>h));clear hbar x6 hB1 hB2 hB0;refine hKK.out _ _ (fun _=>?_) (fun hH=>?_)
   ·(exact⟨Ext.cell (Z6.out) g0,Ext.cell (Z6.out) g1,Ext.cell (Z6.out) y0,Ext.cell (Z6.out) y1,Ext.cell (Z6.out) y2,Ext.cell (Z6.out) y3,Ext.cell (Z6.out) y4⟩)
   clear hHeld;have hHeld:=hH (by decide);clear hKK KK hH;(try dsimp only at hHeld)
   (try simp only[Act.put,q1,q2,q3])
   refine wpAnyK_two (i:=7) (j:=10) (oi:=_) (oj:=_) rfl rfl (by kernel_rfl) (fun KK hKK=>?_) (fun KK hKK=>?_)
   ·go_simp
    (go_at_call 28;refine Calls.mono (by exact HBK.out w4 _ X04.out wb HWB.out.1 (Z6.out) (BX6.out)) ?_;rintro e w7 ⟨⟨b,bc,rfl,hmp,hbl,hbc⟩,x7,hbx7⟩)
    have Z7:Hid (Ext w4 w7):=hid (But.fresh (Z6.out) x7 HWB.out.1);have BX7:=hid hbx7;have BR7:=hid (BarT.but BR6.out x7 HB1.out.1);have HB7:Hid (B<=w7.heap.size):=hid (Nat.le_trans HB1.out.2.2 x7.size);have HOW:=hid (barT_own BR6.out);have MP7:Hid (StmsP (fun g=>B<=g/\some g ≠ u.ownBlock/\¬ (fun _=>False) g) w7 b BL):=hid (StmsP.wide hmp (fun g h1=>⟨by have:=HB1.out.2.2;have h1:w6.heap.size<=g:=h1;omega,fun e=>by have:=(HOW.out g e.symm).2;have h1:w6.heap.size<=g:=h1;omega,fun h=>h⟩));clear x7 hbx7 hmp;refine hKK.out _ _ (fun _=>?_) (fun hH=>?_)
    ·(exact⟨Ext.cell (Z7.out) g0,Ext.cell (Z7.out) g1,Ext.cell (Z7.out) y0,Ext.cell (Z7.out) y1,Ext.cell (Z7.out) y2,Ext.cell (Z7.out) y3,Ext.cell (Z7.out) y4⟩)
    clear hHeld;have hHeld:=hH (by decide);clear hKK KK hH;(try dsimp only at hHeld)
    (try simp only[Act.put,q1,q2,q3])
    refine wpAnyK_two (i:=8) (j:=10) (oi:=_) (oj:=_) rfl rfl (by kernel_rfl) (fun KK hKK=>?_) (fun KK hKK=>?_)
    ·refine step_append_stmsT (T:=(fun _=>False)) (by rfl) _ _ 31 (by rfl) B Tryz.underlying31 hi0 hz0 hz1 hz2 (by decide) OL BL u b bc (by rfl) (by rfl) BR7.out MP7.out (by omega) HB7.out ?_;intro v8 w8 hb8 hg8 hl8;have HL8:Hid (∀ g,u.ownBlock=some g->w4.heap.size<=g):=hid (fun g e=>Nat.le_trans HB1.out.2.1 (hl8 g e));have Z8:Hid (Ext w4 w8):=hid (ext_grown (Z7.out) hg8 HL8.out);have hwu:some wb ≠ u.ownBlock:=fun e=>by have:=hl8 wb e.symm;have:=HB1.out.1;omega
     have BX8:=hid ((hg8.block wb (Array.getElem?_eq_some_iff.1 (BX7.out)).1 hwu).trans (BX7.out));have HB8:Hid (B<=w8.heap.size):=hid (Nat.le_trans HB7.out hg8.size);have BR8:=hid hb8;obtain⟨va,vc,hve,hvc1,hvc2⟩:=barT_val hb8;obtain⟨LN,hLN⟩:∃ n,n=(OL++BL).length:=⟨_,rfl⟩;rw[<-hLN] at hve;subst hve;clear hLN;clear hb8 hg8 hl8 hwu;refine hKK.out _ _ (fun _=>?_) (fun hH=>?_)
     ·(exact⟨Ext.cell (Z8.out) g0,Ext.cell (Z8.out) g1,Ext.cell (Z8.out) y0,Ext.cell (Z8.out) y1,Ext.cell (Z8.out) y2,Ext.cell (Z8.out) y3,Ext.cell (Z8.out) y4⟩)
     clear hHeld;have hHeld:=hH (by decide);clear hKK KK hH;(try dsimp only at hHeld)
     (try simp only[Act.put,q1,q2,q3])
     refine kU 11 9 rfl hHeld ?_
     (try simp only[Act.put,q1,q2,q3])
     refine wpAnyK_step (o:=_) (i:=10) rfl (by kernel_rfl) (fun KK hKK=>?_);go_simp;obtain⟨tb,htb⟩:∃ n,n=(w8).heap.size:=⟨_,rfl⟩;obtain⟨wt,hwt⟩:∃ w',w'=((w8).alloc (.cells #[.string ⟨#[]⟩,.bool false,.slice none 0 0] 33)):=⟨_,rfl⟩;have TX8:Hid (wt.heap[tb]? = some (.cells #[.string ⟨#[]⟩,.bool false,.slice none 0 0] 33 (0,0))):=hid (by rw[hwt,htb];exact heap_alloc_new _ _);have HXT:Hid (Ext (w8) wt):=hid (by rw[hwt];exact((Ext.refl _).alloc _));have HTB:Hid (tb+1=wt.heap.size):=hid (by rw[hwt,htb];simp);have HTW:Hid (w4.heap.size<=tb/\wb < tb):=hid (by have h1:=(Z8.out).size;have h2:=(Array.getElem?_eq_some_iff.1 (BX8.out)).1;omega);have ZT:Hid (Ext w4 wt):=hid ((Z8.out).trans HXT.out);have BXT:Hid (wt.heap[wb]? = some (boxO 74 g na ea ca nac eac cac n2 k2)):=hid (At.heap_ext (BX8.out) HXT.out)
     have BRT:Hid (BarT (· = tb) B (OL++BL) (.slice va LN vc) wt):=hid (BarT.turn BR8.out HXT.out (fun g _ h1 _ e=>by have e:g=tb:=e;rw[htb] at e;omega));have HBT:Hid (B<=wt.heap.size):=hid (Nat.le_trans HB8.out HXT.out.size);rw[<-hwt,<- htb];clear hwt htb;refine hKK.out _ _ (fun _=>?_) (fun hH=>?_)
     ·(exact⟨Ext.cell (ZT.out) g0,Ext.cell (ZT.out) g1,Ext.cell (ZT.out) y0,Ext.cell (ZT.out) y1,Ext.cell (ZT.out) y2,Ext.cell (ZT.out) y3,Ext.cell (ZT.out) y4⟩)
     clear hHeld;have hHeld:=hH (by decide);clear hKK KK hH;(try dsimp only at hHeld)
     (try simp only[Act.put,q1,q2,q3])
     have q0:=(cells3t TX8.out).1;have q1:=(cells3t TX8.out).2.1;have q2:=(cells3t TX8.out).2.2.1;have qf:=(cells3t TX8.out).2.2.2;refine wpAnyK_step (o:=_) (i:=11) rfl (by kernel_rfl) (fun KK hKK=>?_);go_simp;refine hKK.out _ _ (fun h=>absurd rfl h) (fun _=>?_);clear hKK KK
     (try simp only[Act.put,q1,q2,q3])
     refine wpAnyK_done (by kernel_rfl) ?_ _;go_wp2_with fail
     go_meet
     exact⟨tb,B,_,rfl,hid (treJ_made (ZT.out) TX8.out BRT.out HTW.out.1 HB1.out.2.1 HBT.out),hid (box_three (BXT.out) (by have:=HTW.out.2;omega)),hid HTW.out.2⟩
    go_simp;obtain⟨tb,htb⟩:∃ n,n=(w7).heap.size:=⟨_,rfl⟩;obtain⟨wt,hwt⟩:∃ w',w'=((w7).alloc (.cells #[.string ⟨#[]⟩,.bool false,.slice none 0 0] 33)):=⟨_,rfl⟩;have TX7:Hid (wt.heap[tb]? = some (.cells #[.string ⟨#[]⟩,.bool false,.slice none 0 0] 33 (0,0))):=hid (by rw[hwt,htb];exact heap_alloc_new _ _);have HXT:Hid (Ext (w7) wt):=hid (by rw[hwt];exact((Ext.refl _).alloc _));have HTB:Hid (tb+1=wt.heap.size):=hid (by rw[hwt,htb];simp);have HTW:Hid (w4.heap.size<=tb/\wb < tb):=hid (by have h1:=(Z7.out).size;have h2:=(Array.getElem?_eq_some_iff.1 (BX7.out)).1;omega);have ZT:Hid (Ext w4 wt):=hid ((Z7.out).trans HXT.out);have BXT:Hid (wt.heap[wb]? = some (boxO 74 g na ea ca nac eac cac n2 k2)):=hid (At.heap_ext (BX7.out) HXT.out)
    have BRT:Hid (BarT (· = tb) B OL u wt):=hid (BarT.turn BR7.out HXT.out (fun g _ h1 _ e=>by have e:g=tb:=e;rw[htb] at e;omega));have HBT:Hid (B<=wt.heap.size):=hid (Nat.le_trans HB7.out HXT.out.size);have MPT:Hid (StmsP (fun g=>B<=g/\some g ≠ u.ownBlock/\¬ g=tb) wt b BL):=hid (stmsP_turn MP7.out HXT.out (fun g h1 h2=>⟨h1.1,h1.2.1,fun e=>by have e:g=tb:=e;rw[htb] at e;omega⟩));rw[<-hwt,<- htb];clear hwt htb;refine hKK.out _ _ (fun _=>?_) (fun hH=>?_)
    ·(exact⟨Ext.cell (ZT.out) g0,Ext.cell (ZT.out) g1,Ext.cell (ZT.out) y0,Ext.cell (ZT.out) y1,Ext.cell (ZT.out) y2,Ext.cell (ZT.out) y3,Ext.cell (ZT.out) y4⟩)
    clear hHeld;have hHeld:=hH (by decide);clear hKK KK hH;(try dsimp only at hHeld)
    (try simp only[Act.put,q1,q2,q3])
    refine wpAnyK_step (o:=_) (i:=8) rfl (by kernel_rfl) (fun KK hKK=>?_);refine step_append_stmsT (T:=(· = tb)) (by rfl) _ _ 31 (by rfl) B Tryz.underlying31 hi0 hz0 hz1 hz2 (by decide) OL BL u b bc (by rfl) (by rfl) BRT.out MPT.out (by omega) HBT.out ?_;intro v8 w8 hb8 hg8 hl8;have HL8:Hid (∀ g,u.ownBlock=some g->w4.heap.size<=g):=hid (fun g e=>Nat.le_trans HB1.out.2.1 (hl8 g e));have Z8:Hid (Ext w4 w8):=hid (ext_grown (ZT.out) hg8 HL8.out);have hwu:some wb ≠ u.ownBlock:=fun e=>by have:=hl8 wb e.symm;have:=HB1.out.1;omega
    have BX8:=hid ((hg8.block wb (Array.getElem?_eq_some_iff.1 (BXT.out)).1 hwu).trans (BXT.out));have HB8:Hid (B<=w8.heap.size):=hid (Nat.le_trans HBT.out hg8.size);have TX8:Hid (w8.heap[tb]? = some (.cells #[.string ⟨#[]⟩,.bool false,.slice none 0 0] 33 (0,0))):=hid (by obtain⟨X9,o9,-⟩:=BRT.out;exact cel_keep TX7.out hg8 (row_ty o9) (nope (by decide)));have BR8:=hid hb8;obtain⟨va,vc,hve,hvc1,hvc2⟩:=barT_val hb8;obtain⟨LN,hLN⟩:∃ n,n=(OL++BL).length:=⟨_,rfl⟩;rw[<-hLN] at hve;subst hve;clear hLN;clear hb8 hg8 hl8 hwu;refine hKK.out _ _ (fun _=>?_) (fun hH=>?_)
    ·(exact⟨Ext.cell (Z8.out) g0,Ext.cell (Z8.out) g1,Ext.cell (Z8.out) y0,Ext.cell (Z8.out) y1,Ext.cell (Z8.out) y2,Ext.cell (Z8.out) y3,Ext.cell (Z8.out) y4⟩)
    clear hHeld;have hHeld:=hH (by decide);clear hKK KK hH;(try dsimp only at hHeld)
    (try simp only[Act.put,q1,q2,q3])
    refine kU 11 9 rfl hHeld ?_
    (try simp only[Act.put,q1,q2,q3])
    have q0:=(cells3t TX8.out).1;have q1:=(cells3t TX8.out).2.1;have q2:=(cells3t TX8.out).2.2.1;have qf:=(cells3t TX8.out).2.2.2;refine wpAnyK_step (o:=_) (i:=11) rfl (by kernel_rfl) (fun KK hKK=>?_);go_simp;refine hKK.out _ _ (fun h=>absurd rfl h) (fun _=>?_);clear hKK KK
    (try simp only[Act.put,q1,q2,q3])
    refine wpAnyK_done (by kernel_rfl) ?_ _;go_wp2_with fail
    go_meet
    exact⟨tb,B,_,rfl,hid (treJ_made (Z8.out) TX8.out BR8.out HTW.out.1 HB1.out.2.1 HB8.out),hid (box_three (BX8.out) (by have:=HTW.out.2;omega)),hid HTW.out.2⟩
   go_simp;obtain⟨tb,htb⟩:∃ n,n=(w6).heap.size:=⟨_,rfl⟩;obtain⟨wt,hwt⟩:∃ w',w'=((w6).alloc (.cells #[.string ⟨#[]⟩,.bool false,.slice none 0 0] 33)):=⟨_,rfl⟩;have TX6:Hid (wt.heap[tb]? = some (.cells #[.string ⟨#[]⟩,.bool false,.slice none 0 0] 33 (0,0))):=hid (by rw[hwt,htb];exact heap_alloc_new _ _);have HXT:Hid (Ext (w6) wt):=hid (by rw[hwt];exact((Ext.refl _).alloc _));have HTB:Hid (tb+1=wt.heap.size):=hid (by rw[hwt,htb];simp);have HTW:Hid (w4.heap.size<=tb/\wb < tb):=hid (by have h1:=(Z6.out).size;have h2:=(Array.getElem?_eq_some_iff.1 (BX6.out)).1;omega);have ZT:Hid (Ext w4 wt):=hid ((Z6.out).trans HXT.out);have BXT:Hid (wt.heap[wb]? = some (boxO 74 g na ea ca nac eac cac 0 0)):=hid (At.heap_ext (BX6.out) HXT.out)
   have BRT:Hid (BarT (· = tb) B OL u wt):=hid (BarT.turn BR6.out HXT.out (fun g _ h1 _ e=>by have e:g=tb:=e;rw[htb] at e;omega));have HBT:Hid (B<=wt.heap.size):=hid (Nat.le_trans HB1.out.2.2 HXT.out.size);rw[<-hwt,<- htb];clear hwt htb;refine hKK.out _ _ (fun _=>?_) (fun hH=>?_)
   ·(exact⟨Ext.cell (ZT.out) g0,Ext.cell (ZT.out) g1,Ext.cell (ZT.out) y0,Ext.cell (ZT.out) y1,Ext.cell (ZT.out) y2,Ext.cell (ZT.out) y3,Ext.cell (ZT.out) y4⟩)
   clear hHeld;have hHeld:=hH (by decide);clear hKK KK hH;(try dsimp only at hHeld)
   (try simp only[Act.put,q1,q2,q3])
   refine wpAnyK_step (o:=_) (i:=7) rfl (by kernel_rfl) (fun KK hKK=>?_);go_simp
   (go_at_call 28;refine Calls.mono (by exact HBK.out w4 _ X04.out wb HWB.out.1 (ZT.out) (BXT.out)) ?_;rintro e w7 ⟨⟨b,bc,rfl,hmp,hbl,hbc⟩,x7,hbx7⟩)
   have Z7:Hid (Ext w4 w7):=hid (But.fresh (ZT.out) x7 HWB.out.1);have BX7:=hid hbx7;have BR7:=hid (BarT.but BRT.out x7 HB1.out.1);have HB7:Hid (B<=w7.heap.size):=hid (Nat.le_trans HBT.out x7.size);have HOW:=hid (barT_own BRT.out);have MP7:Hid (StmsP (fun g=>B<=g/\some g ≠ u.ownBlock/\¬ (· = tb) g) w7 b BL):=hid (StmsP.wide hmp (fun g h1=>⟨by have:=HBT.out;have h1:wt.heap.size<=g:=h1;omega,fun e=>by have:=(HOW.out g e.symm).2;have h1:wt.heap.size<=g:=h1;omega,fun e=>by have e:g=tb:=e;have h1:wt.heap.size<=g:=h1;have h2:=(Array.getElem?_eq_some_iff.1 TX6.out).1;omega⟩));have TX7:=hid ((x7.block tb (Array.getElem?_eq_some_iff.1 TX6.out).1 (by have:=HTW.out.2;omega)).trans TX6.out);clear x7 hbx7 hmp;refine hKK.out _ _ (fun _=>?_) (fun hH=>?_)
   ·(exact⟨Ext.cell (Z7.out) g0,Ext.cell (Z7.out) g1,Ext.cell (Z7.out) y0,Ext.cell (Z7.out) y1,Ext.cell (Z7.out) y2,Ext.cell (Z7.out) y3,Ext.cell (Z7.out) y4⟩)
   clear hHeld;have hHeld:=hH (by decide);clear hKK KK hH;(try dsimp only at hHeld)
   (try simp only[Act.put,q1,q2,q3])
   refine wpAnyK_step (o:=_) (i:=8) rfl (by kernel_rfl) (fun KK hKK=>?_);refine step_append_stmsT (T:=(· = tb)) (by rfl) _ _ 31 (by rfl) B Tryz.underlying31 hi0 hz0 hz1 hz2 (by decide) OL BL u b bc (by rfl) (by rfl) BR7.out MP7.out (by omega) HB7.out ?_;intro v8 w8 hb8 hg8 hl8;have HL8:Hid (∀ g,u.ownBlock=some g->w4.heap.size<=g):=hid (fun g e=>Nat.le_trans HB1.out.2.1 (hl8 g e));have Z8:Hid (Ext w4 w8):=hid (ext_grown (Z7.out) hg8 HL8.out);have hwu:some wb ≠ u.ownBlock:=fun e=>by have:=hl8 wb e.symm;have:=HB1.out.1;omega
   have BX8:=hid ((hg8.block wb (Array.getElem?_eq_some_iff.1 (BX7.out)).1 hwu).trans (BX7.out));have HB8:Hid (B<=w8.heap.size):=hid (Nat.le_trans HB7.out hg8.size);have TX8:Hid (w8.heap[tb]? = some (.cells #[.string ⟨#[]⟩,.bool false,.slice none 0 0] 33 (0,0))):=hid (by obtain⟨X9,o9,-⟩:=BR7.out;exact cel_keep TX7.out hg8 (row_ty o9) (nope (by decide)));have BR8:=hid hb8;obtain⟨va,vc,hve,hvc1,hvc2⟩:=barT_val hb8;obtain⟨LN,hLN⟩:∃ n,n=(OL++BL).length:=⟨_,rfl⟩;rw[<-hLN] at hve;subst hve;clear hLN;clear hb8 hg8 hl8 hwu;refine hKK.out _ _ (fun _=>?_) (fun hH=>?_)
   ·(exact⟨Ext.cell (Z8.out) g0,Ext.cell (Z8.out) g1,Ext.cell (Z8.out) y0,Ext.cell (Z8.out) y1,Ext.cell (Z8.out) y2,Ext.cell (Z8.out) y3,Ext.cell (Z8.out) y4⟩)
   clear hHeld;have hHeld:=hH (by decide);clear hKK KK hH;(try dsimp only at hHeld)
   (try simp only[Act.put,q1,q2,q3])
   refine kU 11 9 rfl hHeld ?_
   (try simp only[Act.put,q1,q2,q3])
   have q0:=(cells3t TX8.out).1;have q1:=(cells3t TX8.out).2.1;have q2:=(cells3t TX8.out).2.2.1;have qf:=(cells3t TX8.out).2.2.2;refine wpAnyK_step (o:=_) (i:=11) rfl (by kernel_rfl) (fun KK hKK=>?_);go_simp;refine hKK.out _ _ (fun h=>absurd rfl h) (fun _=>?_);clear hKK KK
   (try simp only[Act.put,q1,q2,q3])
   refine wpAnyK_done (by kernel_rfl) ?_ _;go_wp2_with fail
   go_meet
   exact⟨tb,B,_,rfl,hid (treJ_made (Z8.out) TX8.out BR8.out HTW.out.1 HB1.out.2.1 HB8.out),hid (box_three (BX8.out) (by have:=HTW.out.2;omega)),hid HTW.out.2⟩
  go_simp;obtain⟨tb,htb⟩:∃ n,n=(w5).heap.size:=⟨_,rfl⟩;obtain⟨wt,hwt⟩:∃ w',w'=((w5).alloc (.cells #[.string ⟨#[]⟩,.bool false,.slice none 0 0] 33)).drew:=⟨_,rfl⟩;have TX5:Hid (wt.heap[tb]? = some (.cells #[.string ⟨#[]⟩,.bool false,.slice none 0 0] 33 (0,0))):=hid (by rw[hwt,htb];exact heap_alloc_new _ _);have HXT:Hid (Ext (w5) wt):=hid (by rw[hwt];exact((Ext.refl _).alloc _).drew);have HTB:Hid (tb+1=wt.heap.size):=hid (by rw[hwt,htb];simp);have HTW:Hid (w4.heap.size<=tb/\wb < tb):=hid (by have h1:=(X45.out).size;have h2:=(Array.getElem?_eq_some_iff.1 (BX5.out)).1;omega);have ZT:Hid (Ext w4 wt):=hid ((X45.out).trans HXT.out);have BXT:Hid (wt.heap[wb]? = some (boxO 74 g na ea ca nac eac cac 0 0)):=hid (At.heap_ext (BX5.out) HXT.out);rw[<-hwt,<- htb];clear hwt htb
  refine hKK.out _ _ (fun _=>?_) (fun hH=>?_)
  ·(exact⟨Ext.cell (ZT.out) g0,Ext.cell (ZT.out) g1,Ext.cell (ZT.out) y0,Ext.cell (ZT.out) y1,Ext.cell (ZT.out) y2,Ext.cell (ZT.out) y3,Ext.cell (ZT.out) y4⟩)
  clear hHeld;have hHeld:=hH (by decide);clear hKK KK hH;(try dsimp only at hHeld)
  (try simp only[Act.put,q1,q2,q3])
  refine wpAnyK_step (o:=_) (i:=5) rfl (by kernel_rfl) (fun KK hKK=>?_);go_simp
  (go_at_call 27;refine Calls.mono (by with_reducible exact HOP.out _ (X04.out.trans (ZT.out))) ?_;rintro e w6 ⟨⟨u,B,rfl,hB1,hB2,hbar⟩,x6⟩)
  have Z6:Hid (Ext w4 w6):=hid ((ZT.out).trans x6);have BX6:Hid (w6.heap[wb]? = some (boxO 74 g na ea ca nac eac cac 0 0)):=hid (At.heap_ext BXT.out x6);have hB0:w5.heap.size<=B:=Nat.le_trans (by first | exact Nat.le_refl _ | exact HXT.out.size) hB1;have HB1:Hid (wb < B/\w4.heap.size<=B/\B<=w6.heap.size):=hid ⟨by have h1:=HWB.out.2;omega,by have:=X45.out.size;omega,hB2⟩;have HTN:Hid (tb < B):=hid (by have h1:=HTB.out;have h2:(wt).heap.size<=B:=hB1;omega);have TX6:=hid (At.heap_ext TX5.out x6);have BR6:Hid (BarT (· = tb) B OL u w6):=hid (BarT.of hbar (fun g h1 _ e=>by have e:g=tb:=e;have:=HTN.out;omega));clear hbar x6 hB1 hB2 hB0;refine hKK.out _ _ (fun _=>?_) (fun hH=>?_)
  ·(exact⟨Ext.cell (Z6.out) g0,Ext.cell (Z6.out) g1,Ext.cell (Z6.out) y0,Ext.cell (Z6.out) y1,Ext.cell (Z6.out) y2,Ext.cell (Z6.out) y3,Ext.cell (Z6.out) y4⟩)
  clear hHeld;have hHeld:=hH (by decide);clear hKK KK hH;(try dsimp only at hHeld)
  (try simp only[Act.put,q1,q2,q3])
  refine wpAnyK_step (o:=_) (i:=7) rfl (by kernel_rfl) (fun KK hKK=>?_);go_simp
  (go_at_call 28;refine Calls.mono (by exact HBK.out w4 _ X04.out wb HWB.out.1 (Z6.out) (BX6.out)) ?_;rintro e w7 ⟨⟨b,bc,rfl,hmp,hbl,hbc⟩,x7,hbx7⟩)
  have Z7:Hid (Ext w4 w7):=hid (But.fresh (Z6.out) x7 HWB.out.1);have BX7:=hid hbx7;have BR7:=hid (BarT.but BR6.out x7 HB1.out.1);have HB7:Hid (B<=w7.heap.size):=hid (Nat.le_trans HB1.out.2.2 x7.size);have HOW:=hid (barT_own BR6.out);have MP7:Hid (StmsP (fun g=>B<=g/\some g ≠ u.ownBlock/\¬ (· = tb) g) w7 b BL):=hid (StmsP.wide hmp (fun g h1=>⟨by have:=HB1.out.2.2;have h1:w6.heap.size<=g:=h1;omega,fun e=>by have:=(HOW.out g e.symm).2;have h1:w6.heap.size<=g:=h1;omega,fun e=>by have e:g=tb:=e;have h1:w6.heap.size<=g:=h1;have h2:=(Array.getElem?_eq_some_iff.1 TX6.out).1;omega⟩));have TX7:=hid ((x7.block tb (Array.getElem?_eq_some_iff.1 TX6.out).1 (by have:=HTW.out.2;omega)).trans TX6.out);clear x7 hbx7 hmp;refine hKK.out _ _ (fun _=>?_) (fun hH=>?_)
  ·(exact⟨Ext.cell (Z7.out) g0,Ext.cell (Z7.out) g1,Ext.cell (Z7.out) y0,Ext.cell (Z7.out) y1,Ext.cell (Z7.out) y2,Ext.cell (Z7.out) y3,Ext.cell (Z7.out) y4⟩)
  clear hHeld;have hHeld:=hH (by decide);clear hKK KK hH;(try dsimp only at hHeld)
  (try simp only[Act.put,q1,q2,q3])
  refine wpAnyK_step (o:=_) (i:=8) rfl (by kernel_rfl) (fun KK hKK=>?_);refine step_append_stmsT (T:=(· = tb)) (by rfl) _ _ 31 (by rfl) B Tryz.underlying31 hi0 hz0 hz1 hz2 (by decide) OL BL u b bc (by rfl) (by rfl) BR7.out MP7.out (by omega) HB7.out ?_;intro v8 w8 hb8 hg8 hl8;have HL8:Hid (∀ g,u.ownBlock=some g->w4.heap.size<=g):=hid (fun g e=>Nat.le_trans HB1.out.2.1 (hl8 g e));have Z8:Hid (Ext w4 w8):=hid (ext_grown (Z7.out) hg8 HL8.out);have hwu:some wb ≠ u.ownBlock:=fun e=>by have:=hl8 wb e.symm;have:=HB1.out.1;omega
  have BX8:=hid ((hg8.block wb (Array.getElem?_eq_some_iff.1 (BX7.out)).1 hwu).trans (BX7.out));have HB8:Hid (B<=w8.heap.size):=hid (Nat.le_trans HB7.out hg8.size);have TX8:Hid (w8.heap[tb]? = some (.cells #[.string ⟨#[]⟩,.bool false,.slice none 0 0] 33 (0,0))):=hid (by obtain⟨X9,o9,-⟩:=BR7.out;exact cel_keep TX7.out hg8 (row_ty o9) (nope (by decide)));have BR8:=hid hb8;obtain⟨va,vc,hve,hvc1,hvc2⟩:=barT_val hb8;obtain⟨LN,hLN⟩:∃ n,n=(OL++BL).length:=⟨_,rfl⟩;rw[<-hLN] at hve;subst hve;clear hLN;clear hb8 hg8 hl8 hwu;refine hKK.out _ _ (fun _=>?_) (fun hH=>?_)
  ·(exact⟨Ext.cell (Z8.out) g0,Ext.cell (Z8.out) g1,Ext.cell (Z8.out) y0,Ext.cell (Z8.out) y1,Ext.cell (Z8.out) y2,Ext.cell (Z8.out) y3,Ext.cell (Z8.out) y4⟩)
  clear hHeld;have hHeld:=hH (by decide);clear hKK KK hH;(try dsimp only at hHeld)
  (try simp only[Act.put,q1,q2,q3])
  refine kU 11 9 rfl hHeld ?_
  (try simp only[Act.put,q1,q2,q3])
  have q0:=(cells3t TX8.out).1;have q1:=(cells3t TX8.out).2.1;have q2:=(cells3t TX8.out).2.2.1;have qf:=(cells3t TX8.out).2.2.2;refine wpAnyK_step (o:=_) (i:=11) rfl (by kernel_rfl) (fun KK hKK=>?_);go_simp;refine hKK.out _ _ (fun h=>absurd rfl h) (fun _=>?_);clear hKK KK
  (try simp only[Act.put,q1,q2,q3])
  refine wpAnyK_done (by kernel_rfl) ?_ _;go_wp2_with fail
  go_meet
  exact⟨tb,B,_,rfl,hid (treJ_made (Z8.out) TX8.out BR8.out HTW.out.1 HB1.out.2.1 HB8.out),hid (box_three (BX8.out) (by have:=HTW.out.2;omega)),hid HTW.out.2⟩
 obtain⟨tb,B,v,rfl,HJ,HBX,HWT⟩:=hcut;clear g0 g1 g2 g3 g4 y0 y1 y2 y3 y4;have XC:Hid (Ext w wc):=hid (X04.out.trans HJ.out.X);have HBC:=hid (At.heap_ext HB4.out HJ.out.X);have HGC:=hid (At.heap_ext HG4.out HJ.out.X);obtain⟨b0,b1,b2,b3,b4,b5,b6⟩:=cells7w (show wc.heap[wb]? = some (.cells #[.string g.name,.bool g.dir,.slice na g.N.length nac,.slice ea g.E.length eac,.slice ca g.C.length cac,.int .i64 n2,.int .i64 k2] 74 (0,0)) from HBX.out);clear b0 b1 b2 b3 b4;obtain⟨g0,g1,g2,g3,g4⟩:=cells5g HBC.out;have HN2:Hid ((blkT g (-1) 0 0).2=(n2,k2)):=hid (by rw[<-HBD.out]);by_cases h1:n2 < q
 ·have hr:Hid (R=.error 1):=hid (by rw[HR.out];exact tree_short HG0.out HO.out (.inl (by rw[HN2.out,HQ.out];exact h1)));have f1:(n2:Int) < (q:Int):=by omega
  have f2:decide ((n2:Int) < (q:Int))=true:=decide_eq_true f1;have f2':decide (n2 < q)=true:=decide_eq_true h1;go_wp2_with fail
  go_quiet (fail)
  obtain⟨w9,hw9⟩:∃ w9,w9=wc.drewN nq:=⟨_,rfl⟩;have X9:Hid (Ext wc w9):=hid (by rw[hw9];exact(Ext.refl wc).drewN _);rw[<-hw9];clear hw9;have HZ9:=hid (At.heap_ext HGC.out X9.out);obtain⟨z0,z1,z2,zf⟩:=cells3t HZ9.out;go_wp2
  (try simp only[Exit.inBlock,Exit.then])
  refine bodyPost_ret (results_tr rfl _ _ (w.heap.size+1+1) _ (.int .i64 1) rfl rfl rfl (set3t HZ9.out _ _ _)) rfl ?_;rw[hr.out];exact⟨rfl,ext3t (XC.out.trans X9.out) (by omega) _ _ _⟩
 have f1:¬ (n2:Int) < (q:Int):=by omega
 have f2:decide ((n2:Int) < (q:Int))=false:=decide_eq_false f1;have f2':decide (n2 < q)=false:=decide_eq_false h1;by_cases h2:k2 < cl
 ·have hr:Hid (R=.error 1):=hid (by rw[HR.out];exact tree_short HG0.out HO.out (.inr (by rw[HN2.out,HCL.out];exact h2)));have f3:(k2:Int) < (cl:Int):=by omega
  have f4:decide ((k2:Int) < (cl:Int))=true:=decide_eq_true f3;have f4':decide (k2 < cl)=true:=decide_eq_true h2;go_wp2_with fail
  go_quiet (fail)
  obtain⟨w9,hw9⟩:∃ w9,w9=wc.drewN nq:=⟨_,rfl⟩;have X9:Hid (Ext wc w9):=hid (by rw[hw9];exact(Ext.refl wc).drewN _);rw[<-hw9];clear hw9;have HZ9:=hid (At.heap_ext HGC.out X9.out);obtain⟨z0,z1,z2,zf⟩:=cells3t HZ9.out;go_wp2
  (try simp only[Exit.inBlock,Exit.then])
  refine bodyPost_ret (results_tr rfl _ _ (w.heap.size+1+1) _ (.int .i64 1) rfl rfl rfl (set3t HZ9.out _ _ _)) rfl ?_;rw[hr.out];exact⟨rfl,ext3t (XC.out.trans X9.out) (by omega) _ _ _⟩
 have f3:¬ (k2:Int) < (cl:Int):=by omega
 have f4:decide ((k2:Int) < (cl:Int))=false:=decide_eq_false f3;have f4':decide (k2 < cl)=false:=decide_eq_false h2;have hr:Hid (R=if validE g.name (bodyT g ⟨mo,ns,rs,mg,rd⟩) ≠ 0 then .error (validE g.name (bodyT g ⟨mo,ns,rs,mg,rd⟩)) else .ok (bodyT g ⟨mo,ns,rs,mg,rd⟩)):=hid (by rw[HR.out];exact tree_long HG0.out HO.out (by rw[HN2.out,HQ.out,HCL.out];omega));clear h1 h2;go_wp2_with fail
 go_quiet (fail)
 obtain⟨w9,hw9⟩:∃ w9,w9=wc.drewN nq:=⟨_,rfl⟩;have X9:Hid (Ext wc w9):=hid (by rw[hw9];exact(Ext.refl wc).drewN _);rw[<-hw9];clear hw9 g0 g1 g2 g3 g4 b5 b6;have HJ9:=hid (HJ.out.ext X9.out);obtain⟨g0,g1,g2,g3,g4⟩:=cells5g (At.heap_ext HBC.out X9.out);go_wp2_with fail;clear g0 g1 g2 g3 g4 f1 f2 f3 f4 f2' f4';have hel256:el<=256:=by rw[<-HEL.out];exact HOK.out.el
 go_loopw [55] (fun i' wr=>∃ (i:Nat) (v:Value),i<=el/\i'=.int .i64 i/\Hid (TreJ w4 g.name g.dir tb B (OL++BL++(g.E.take i).map (edgeS g.N)) v wr)) (fun i' _=>el - (RowKit.intOf i').toNat)
 case atStart=>exact⟨0,v,Nat.zero_le _,rfl,hid (by simpa using HJ9.out)⟩
 obtain⟨i,v2,hi,rfl,HC⟩:=hrel;have XR:Hid (Ext w wr):=hid (X04.out.trans HC.out.X);have HBR:=hid (At.heap_ext HB4.out HC.out.X);obtain⟨g0,g1,g2,g3,g4⟩:=cells5g HBR.out;have d0:(0:Int)<=(i:Int):=by omega
 by_cases hlt:i < el
 ·have hkl:i < g.E.length:=by rw[HEL.out];exact hlt
  have d1:(i:Int) < (el:Int):=by omega
  obtain⟨na',nac',ea',eac',ca',cac',hv,-,hed,-⟩:=HA.out;cases hv;obtain⟨ge,oe,rfl,k0,k1,k2',k3,k4,k5,k6⟩:=hed.ext XR.out i hkl;have hEX:(g.E.take (i+1)).map (edgeS g.N)=(g.E.take i).map (edgeS g.N)++[edgeS g.N g.E[i]]:=by rw[List.take_add_one,List.getElem?_eq_getElem hkl,List.map_append];rfl
  have hev:=HOK.out.ed g.E[i] (List.getElem_mem hkl);have hcd:=fun(w5:World) (x:Ext w w5)=>edge_any g _ g.E[i] w5 (HA.out.ext x) hev HOK.out (HE.out.ext x)
  obtain⟨x,hx⟩:∃ x,x=g.E[i]:=⟨_,rfl⟩;rw[<-hx] at k0 k1 k2' k3 k4 k5 k6 hEX;simp only[<-hx,HQ.out,HEL.out,HCL.out] at hcd;have HEX:=hid hEX;clear hx hed hev hEX;obtain⟨sx,hsx⟩:∃ s,s=edgeS g.N x:=⟨_,rfl⟩;rw[<-hsx] at HEX;simp only[<-hsx] at hcd;clear hsx;obtain⟨xa,xb,xp,xq,xl,xw,xn⟩:=x;dsimp only at k0 k1 k2' k3 k4 k5 k6 hcd;have HCD:=hid hcd;clear hcd;obtain⟨X,own,hcc⟩:=HC.out.row;obtain⟨LN,hLN⟩:∃ n,n=(OL++BL++(g.E.take i).map (edgeS g.N)).length:=⟨_,rfl⟩;rw[<-hLN] at own;have hLb:LN<=400:=by rw[hLN];have:=HOK.out.el;simp;omega
  obtain⟨va,vc,rfl,hvc1,hvc2⟩:=row_val own;have OW:=hid own;have OC:=hid hcc;have HLN:=hid hLN;clear own hcc hLN;go_wp2_with fail;obtain⟨wE,hwE⟩:∃ w',w'=wr.alloc (.cells #[.int .i64 xa,.int .i64 xb,.int .i64 xp,.int .i64 xq,.string xl,.int .i64 xw,.int .i64 xn] 61):=⟨_,rfl⟩;have XE:Hid (Ext wr wE):=hid (by rw[hwE];exact(Ext.refl wr).alloc _);have HEB:Hid (wE.heap[wr.heap.size]? = some (.cells #[.int .i64 xa,.int .i64 xb,.int .i64 xp,.int .i64 xq,.string xl,.int .i64 xw,.int .i64 xn] 61 (0,0))):=hid (by rw[hwE];exact heap_alloc_new wr _);rw[<-hwE];clear hwE k0 k1 k2' k3 k4 k5 k6 g0 g1 g2 g3 g4;obtain⟨g0,g1,g2,g3,g4⟩:=cells5g (At.heap_ext HBR.out XE.out);obtain⟨e0,e1,e2,e3,e4,e5,e6⟩:=cells7w HEB.out;have t2:=(cells3t (At.heap_ext HC.out.tx XE.out)).2.2.1
  refine wp_region_K (S:=fun w'=>w'.cell? ⟨tb,2,none⟩=some (.slice va LN vc)/\w'.cell? ⟨w.heap.size,0,none⟩=some (.string g.name)/\w'.cell? ⟨w.heap.size,1,none⟩=some (.bool g.dir)/\w'.cell? ⟨w.heap.size,2,none⟩=some (.slice na q nac)/\w'.cell? ⟨w.heap.size,3,none⟩=some (.slice (some ⟨ge,oe,none⟩) el eac)/\w'.cell? ⟨w.heap.size,4,none⟩=some (.slice ca cl cac)/\w'.cell? ⟨wr.heap.size,0,none⟩=some (.int .i64 xa)/\w'.cell? ⟨wr.heap.size,1,none⟩=some (.int .i64 xb)/\w'.cell? ⟨wr.heap.size,2,none⟩=some (.int .i64 xp)/\w'.cell? ⟨wr.heap.size,3,none⟩=some (.int .i64 xq)/\w'.cell? ⟨wr.heap.size,4,none⟩=some (.string xl)/\w'.cell? ⟨wr.heap.size,5,none⟩=some (.int .i64 xw)/\w'.cell? ⟨wr.heap.size,6,none⟩=some (.int .i64 xn)) (n:=8) (by kernel_rfl) (by exact⟨Ext.cell ((Ext.refl wE).drew) t2,Ext.cell ((Ext.refl wE).drew) g0,Ext.cell ((Ext.refl wE).drew) g1,Ext.cell ((Ext.refl wE).drew) g2,Ext.cell ((Ext.refl wE).drew) g3,Ext.cell ((Ext.refl wE).drew) g4,Ext.cell ((Ext.refl wE).drew) e0,Ext.cell ((Ext.refl wE).drew) e1,Ext.cell ((Ext.refl wE).drew) e2,Ext.cell ((Ext.refl wE).drew) e3,Ext.cell ((Ext.refl wE).drew) e4,Ext.cell ((Ext.refl wE).drew) e5,Ext.cell ((Ext.refl wE).drew) e6⟩) (fun hHeld=>?_)
  refine kU 8 0 rfl hHeld ?_
  (try simp only[Act.put,q1,q2,q3])
  refine kU 8 1 rfl hHeld ?_
  (try simp only[Act.put,q1,q2,q3])
  refine kU 8 2 rfl hHeld ?_
  (try simp only[Act.put,q1,q2,q3])
  refine kU 8 3 rfl hHeld ?_
  (try simp only[Act.put,q1,q2,q3])
  refine wpAnyK_step (o:=_) (i:=4) rfl (by kernel_rfl) (fun KK hKK=>?_);go_simp
  (go_at_call 29;refine Calls.mono (by with_reducible exact HCD.out _ (XR.out.trans XE.out.drew)) ?_;rintro e w6 ⟨⟨u,rfl,hu⟩,x6⟩;obtain⟨xs,rfl,hst⟩:=hu;obtain⟨r5,rc5,a5,ac5,b5,bc5,rfl,hrest⟩:=(stmP_mk _ _ _ _).1 hst;have HST:=hid hst;clear hst hrest;have X6:Hid (Ext wE w6):=hid ((Ext.refl wE).drew.trans x6);have XA:Hid (Ext wr (w6.alloc (.cells #[.int .i64 sx.kind,.string sx.name,.slice r5 sx.refs.length rc5,.slice a5 sx.attrs.length ac5,.slice b5 sx.body.length bc5] 67))):=hid ((XE.out.trans X6.out).alloc _);clear x6)
  refine hKK.out _ _ (fun _=>?_) (fun hH=>?_)
  ·(exact⟨Ext.cell (X6.out) t2,Ext.cell (X6.out) g0,Ext.cell (X6.out) g1,Ext.cell (X6.out) g2,Ext.cell (X6.out) g3,Ext.cell (X6.out) g4,Ext.cell (X6.out) e0,Ext.cell (X6.out) e1,Ext.cell (X6.out) e2,Ext.cell (X6.out) e3,Ext.cell (X6.out) e4,Ext.cell (X6.out) e5,Ext.cell (X6.out) e6⟩)
  clear hHeld;have hHeld:=hH (by decide);clear hKK KK hH;(try dsimp only at hHeld)
  (try simp only[Act.put,q1,q2,q3])
  refine wpAnyK_step (o:=_) (i:=5) rfl (by kernel_rfl) (fun KK hKK=>?_);go_simp;refine hKK.out _ _ (fun _=>?_) (fun hH=>?_)
  ·(exact⟨Ext.cell ((X6.out.alloc _)) t2,Ext.cell ((X6.out.alloc _)) g0,Ext.cell ((X6.out.alloc _)) g1,Ext.cell ((X6.out.alloc _)) g2,Ext.cell ((X6.out.alloc _)) g3,Ext.cell ((X6.out.alloc _)) g4,Ext.cell ((X6.out.alloc _)) e0,Ext.cell ((X6.out.alloc _)) e1,Ext.cell ((X6.out.alloc _)) e2,Ext.cell ((X6.out.alloc _)) e3,Ext.cell ((X6.out.alloc _)) e4,Ext.cell ((X6.out.alloc _)) e5,Ext.cell ((X6.out.alloc _)) e6⟩)
  clear hHeld;have hHeld:=hH (by decide);clear hKK KK hH;(try dsimp only at hHeld)
  (try simp only[Act.put,q1,q2,q3])
  refine wpAnyK_step (o:=_) (i:=6) rfl (by kernel_rfl) (fun KK hKK=>?_);refine step_append_lies _ (by rfl) _ _ 31 (by rfl) B 67 i0 _ 5 96 Tryz.underlying31 hi0 hz0 hz1 hz2 rfl (by decide) _ _ _ (by rfl) (At.own_ext OW.out XA.out) ⟨w6.heap.size,0,none⟩ 1 1 [.int .i64 sx.kind,.string sx.name,.slice r5 sx.refs.length rc5,.slice a5 sx.attrs.length ac5,.slice b5 sx.body.length bc5] (by rfl) (by rfl) (World.news_of_block (cs:=#[.int .i64 sx.kind,.string sx.name,.slice r5 sx.refs.length rc5,.slice a5 sx.attrs.length ac5,.slice b5 sx.body.length bc5]) (t:=67) (fr:=(0,0)) (heap_alloc_new w6 _)) (by intro u hu;simp at hu;rcases hu with rfl | rfl | rfl | rfl | rfl <;> rfl) (by omega) (by unfold maxLen;omega) (by omega) (by have:=HC.out.lo.2.2;have:=XA.out.size;omega) _ rfl ?_;intro g7 c7 w7 hown7 hgrow7 hor7 _
  have NX:=hid (treJ_next HC.out HLN.out OW.out OC.out XA.out (StmP.keep (fun g _ hlt=>((Ext.refl w6).alloc _).block g hlt) (fun g hk _=>by have:=XE.out.size;have hk:wE.heap.size<=g:=hk;omega) _ _ HST.out) rfl hgrow7 hown7 hor7);obtain⟨-,-,v2,vf⟩:=cells3t NX.out.2;obtain⟨h0,h1,h2,h3,h4⟩:=cells5g (cel_keep (At.heap_ext HBR.out XA.out) hgrow7 (row_ty (At.own_ext OW.out XA.out)) (nope (by decide)));obtain⟨p0,p1,p2,p3,p4,p5,p6⟩:=cells7w (cel_keep (At.heap_ext HEB.out (X6.out.alloc _)) hgrow7 (row_ty (At.own_ext OW.out XA.out)) (nope (by decide)));clear hown7 hgrow7 hor7;refine hKK.out _ _ (fun _=>?_) (fun hH=>?_)
  ·(exact⟨v2,h0,h1,h2,h3,h4,p0,p1,p2,p3,p4,p5,p6⟩)
  clear hHeld;have hHeld:=hH (by decide);clear hKK KK hH;(try dsimp only at hHeld)
  (try simp only[Act.put,q1,q2,q3])
  refine wpAnyK_step (o:=_) (i:=7) rfl (by kernel_rfl) (fun KK hKK=>?_);go_simp;refine hKK.out _ _ (fun _=>?_) (fun hH=>?_)
  ·(exact⟨v2,h0,h1,h2,h3,h4,p0,p1,p2,p3,p4,p5,p6⟩)
  clear hHeld;have hHeld:=hH (by decide);clear hKK KK hH;(try dsimp only at hHeld)
  (try simp only[Act.put,q1,q2,q3])
  refine wpAnyK_step (o:=_) (i:=8) rfl (by kernel_rfl) (fun KK hKK=>?_);go_simp;refine hKK.out _ _ (fun h=>absurd rfl h) (fun _=>?_);clear hKK KK
  (try simp only[Act.put,q1,q2,q3])
  refine wpAnyK_done (by kernel_rfl) ?_ _;go_wp2
  go_roundw
  case rel=>exact⟨i+1,_,by omega,by go_num,hid (by rw[HEX.out,<- List.append_assoc];exact NX.out.1)⟩
  case measure=>simp[RowKit.intOf];omega
 have d1:¬ (i:Int) < (el:Int):=by omega
 obtain⟨BN,hBN⟩:∃ L,L=bodyT g ⟨mo,ns,rs,mg,rd⟩:=⟨_,rfl⟩
 have hbody:OL++BL++(g.E.take i).map (edgeS g.N)=BN:=by
  rw[hBN];unfold bodyT;rw[<-HOL.out,<- HBD.out,List.take_of_length_le (by rw[HEL.out];omega)]
 rw[<-hBN] at hr;obtain⟨b,c,rfl,hst,hbl,hbc⟩:=treJ_out (w:=w4) HC.out (Nat.le_refl _);rw[hbody] at HC hst hbl;have hcb:cntL BN<=1099511627776:=by rw[hBN];exact Nat.le_trans (cnt_body HOK.out _) (by decide)
 have hbb:BigL BN:=by rw[hBN];exact body_big HOK.out HO.out
 have hnb:g.name.size<=9223372036854775807:=Nat.le_trans (name16c HOK.out.nm) (by decide);have hvl:=valid_cnt g.name g.dir b BN c wr.heap.size wr (Nat.le_refl _) (stmsV_at hst) hcb hbb hnb;obtain⟨V,hV⟩:∃ V,V=validE g.name BN:=⟨_,rfl⟩;rw[<-hV] at hvl hr;obtain⟨t0,t1,t2,-⟩:=cells3t HC.out.tx;have HXR4:=hid HC.out.X;have XRW:Hid (Ext w wr):=hid (X04.out.trans HC.out.X);have HST:=hid hst;have HBL:=hid (And.intro hbl hbc);have HVL:=hid hvl;have HTX:=hid HC.out.tx;obtain⟨BNL,hBNL⟩:∃ n,n=BN.length:=⟨_,rfl⟩;have HBNL:=hid hBNL;rw[<-hBNL] at HVL t2 HTX HBL;clear hbody hBN hV hst hbl hbc hvl hcb hbb hnb hBNL HC;by_cases hv0:V=0
 ·subst hv0;have hr2:Hid (R=.ok BN):=hid (by rw[hr.out,if_neg (by decide)]);go_wp2_with (go_at_call 30;refine Calls.mono (by exact HVL.out) ?_;rintro e w8 ⟨rfl,x8⟩;have X8:=hid x8;have HZ8:=hid (At.heap_ext HG4.out ((HXR4.out.trans x8)));obtain⟨z0,z1,z2,zf⟩:=cells3t HZ8.out;obtain⟨t0,t1,t2,-⟩:=cells3t (At.heap_ext HTX.out x8);clear x8)
  (try simp only[Exit.inBlock,Exit.then])
  refine bodyPost_ret (results_tr rfl _ _ (w.heap.size+1+1) _ (.int .i64 0) rfl rfl rfl (set3t HZ8.out _ _ _)) rfl ?_;rw[hr2.out];exact⟨⟨b,c,by rw[<-HBNL.out],StmsP.wide (stmsP_turn3 HST.out X8.out (Array.getElem?_eq_some_iff.1 HG4.out).1) (fun k hk=>Nat.le_trans X04.out.size hk),by rw[<-HBNL.out];exact HBL.out.1,HBL.out.2⟩,ext3t (XRW.out.trans X8.out) (by omega) _ _ _⟩
 obtain⟨f1,f2⟩:=nfacts hv0;have hr2:Hid (R=.error V):=hid (by rw[hr.out,if_pos hv0]);go_wp2_with (go_at_call 30;refine Calls.mono (by exact HVL.out) ?_;rintro e w8 ⟨rfl,x8⟩;have X8:=hid x8;have HZ8:=hid (At.heap_ext HG4.out ((HXR4.out.trans x8)));obtain⟨z0,z1,z2,zf⟩:=cells3t HZ8.out;clear x8)
 (try simp only[Exit.inBlock,Exit.then])
 refine bodyPost_ret (results_tr rfl _ _ (w.heap.size+1+1) _ (.int .i64 V) rfl rfl rfl (set3t HZ8.out _ _ _)) rfl ?_;rw[hr2.out];exact⟨rfl,ext3t (XRW.out.trans X8.out) (by omega) _ _ _⟩
end Go.Proofs.YtjaeedbjknejdaaGreatDoor.Ex
