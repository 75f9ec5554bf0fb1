/- Packed texts: ExpOpt -/
import Derived.Test.YtjaeedbjknejdaaGreatDoorPd31
import Derived.Test.YtjaeedbjknejdaaGreatDoorPd32
set_option linter.unusedVariables false
set_option linter.unusedSimpArgs false
set_option maxHeartbeats 16000000
set_option maxRecDepth 100000
namespace Go.Proofs.YtjaeedbjknejdaaGreatDoor.Ex
open Go.RowKit Go.Sort Go.Lib Go.Shelf Fx Lx Tr At Pa Go.Proofs.YtjaeedbjknejdaaGreatDoor.Nm
theorem OptK.ext {w2 wx w3:World}{gv:Nat}{L:List Stm}{v:Value}(h:OptK w2 gv L v wx)(x:Ext wx w3):OptK w2 gv L v w3:=by
 obtain⟨X,o,c⟩:=h.own.own;exact⟨⟨X,At.own_ext o x,StmsC.keep (fun g hk hlt=>x.block g hlt) (fun g hk _=>hk) _ X c⟩,h.b.ext x,At.heap_ext h.bx x,h.lo⟩
theorem opts_any (o:Op5)(hok:inR5 o=true)(w:World)(he:Env w):
  Calls Tryz.prog 27 #[opV o] w fun e w'=>(∃ u B,e=.returned u/\w.heap.size<=B/\B<=w'.heap.size/\BarAt B 0 (optsL o) u w')/\Ext w w':=by
 obtain⟨mo,ns,rs,mg,rd⟩:=o;have ho:=inR5_ok hok;dsimp only at ho;unfold opV;dsimp only;have hf1:=fun(w5:World) (y:Ext w w5)=>format_any ns w5 (by omega) (by omega) (he.ext y).1
 have hf2:=fun(w5:World) (y:Ext w w5)=>format_any rs w5 (by omega) (by omega) (he.ext y).1
 have hf3:=fun(w5:World) (y:Ext w w5)=>format_any mg w5 (by omega) (by omega) (he.ext y).1
 have hf4:=fun(w5:World) (y:Ext w w5)=>itoa_any rd (by omega) (by omega) w5 (he.ext y).1
 obtain⟨R,hR⟩:∃ R,R=optsL ⟨mo,ns,rs,mg,rd⟩:=⟨_,rfl⟩;rw[<-hR];unfold optsL at hR;dsimp only at hR;obtain⟨L1,hL1⟩:∃ M,M=(if mo=0 then [] else [setS kMode (modeT mo)]:List Stm):=⟨_,rfl⟩;obtain⟨L2,hL2⟩:∃ M,M=L1++(if ns=10000 then [] else [setS kNs (fmtB ns)]:List Stm):=⟨_,rfl⟩;obtain⟨L3,hL3⟩:∃ M,M=L2++(if rs=20000 then [] else [setS kRs (fmtB rs)]:List Stm):=⟨_,rfl⟩;obtain⟨L4,hL4⟩:∃ M,M=L3++(if mg=5000 then [] else [setS kMg (fmtB mg)]:List Stm):=⟨_,rfl⟩;rw[<-hL1,<- hL2,<- hL3,<- hL4] at hR;have c0:([]:List Stm).length<=10:=by simp
 have c1:L1.length<=1:=by rw[hL1];split <;> simp
 have c2:L2.length<=2:=by rw[hL2];split <;> simp <;> omega
 have c3:L3.length<=3:=by rw[hL3];split <;> simp <;> omega
 have c4:L4.length<=4:=by rw[hL4];split <;> simp <;> omega
 have C0:=hid c0;have C1:=hid (show L1.length<=10 by omega);have C2:=hid (show L2.length<=10 by omega);have C3:=hid (show L3.length<=10 by omega);have C4:=hid (show L4.length<=10 by omega);have HF1:=hid hf1;have HF2:=hid hf2;have HF3:=hid hf3;have HF4:=hid hf4;have HR:=hid hR;have H1:=hid hL1;have H2:=hid hL2;have H3:=hid hL3;have H4:=hid hL4;have HOK:=hid ho;clear hf1 hf2 hf3 hf4 hR hL1 hL2 hL3 hL4 ho hok he c0 c1 c2 c3 c4;go_enter Tryz.func27,Tryz.ntmps27
 go_upto_if 8 with(fail)
 obtain⟨w2,hw2⟩:∃ w2,w2=(w.alloc (.cells #[.int .i64 mo,.int .i64 ns,.int .i64 rs,.int .i64 mg,.int .i64 rd] 28)).alloc (.cells #[.slice none 0 0] 31):=⟨_,rfl⟩;obtain⟨gb,hgb⟩:∃ g,g=w.heap.size:=⟨_,rfl⟩;obtain⟨gv,hgv⟩:∃ g,g=w.heap.size+1:=⟨_,rfl⟩;have XB:Hid (Ext w w2):=hid (by rw[hw2];exact((Ext.refl _).alloc _).alloc _);have hs2:gv+1=w2.heap.size:=by rw[hw2,hgv];simp
 have HSZ:Hid (w.heap.size<=w2.heap.size):=hid XB.out.size;have HGV:Hid (w.heap.size<=gv/\gb ≠ gv/\gb < w2.heap.size):=hid (by omega);have GB:Hid (w2.heap[gb]? = some (.cells #[.int .i64 mo,.int .i64 ns,.int .i64 rs,.int .i64 mg,.int .i64 rd] 28 (0,0))):=hid (by rw[hw2,hgb];exact At.heap_ext (heap_alloc_new w _) ((Ext.refl _).alloc _));have HB:Hid (OptK w2 gv [] (.slice none 0 0) w2):=hid ⟨⟨[],World.ownsRow_nil _ _ _ _,rfl⟩,But.refl _ _,by rw[hw2];exact new2 w _ _ (by rw[hgv];simp),by omega⟩;rw[<-hw2,<- hgv,<- hgb];clear hw2 hgb hgv hs2;obtain⟨v0,hv0⟩:∃ v:Value,v=.slice none 0 0:=⟨_,rfl⟩;rw[<-hv0] at HB;clear hv0;obtain⟨wx,hwx⟩:∃ w':World,w'=w2:=⟨_,rfl⟩;have HW:=hid hwx;rw[<-hwx];have HB:Hid (OptK w2 gv [] v0 wx):=hid (by rw[hwx];exact HB.out);clear hwx HW
 have GX:Hid (wx.heap[gb]? = _):=hid ((HB.out.b.block gb HGV.out.2.2 HGV.out.2.1).trans GB.out);have XX:Hid (Ext w wx):=hid (But.fresh XB.out HB.out.b HGV.out.1);obtain⟨b0,b1,b2,b3,b4⟩:=cells5g GX.out
 go_cut [] from 5 to 48 (fun wx=>∃ v,Hid (OptK w2 gv L1 v wx))
 case first =>
  by_cases hc:mo=0
  ·have f1:(mo != 0)=false:=by rw[hc];rfl
   have hl1:L1=[]:=by rw[H1.out,if_pos hc]
   have HL:=hid hl1;clear hc hl1;go_wp2_with fail
   go_meet
   exact⟨_,hid (by rw[HL.out];exact HB.out)⟩
  have f1:(mo != 0)=true:=(nfacts hc).2;have hl1:L1=[setS kMode (modeT mo)]:=by rw[H1.out,if_neg hc]
  have HL:=hid hl1;have hm:mo=1\/mo=2\/mo=3\/mo=4:=by have:=HOK.out;omega
  clear hc hl1;rcases hm with rfl | rfl | rfl | rfl
  ·have b0':=fun ob=>((Ext.refl wx).alloc ob).cell b0
   have hcl:=clo_any ⟨#[109,111,100,101]⟩ ⟨#[111,114,116,104,111,103,111,110,97,108]⟩ w2 gv [] v0 _ (HB.out.ext ((Ext.refl wx).alloc (.cells #[.string ⟨#[108,97,121,101,114,101,100]⟩,.string ⟨#[111,114,116,104,111,103,111,110,97,108]⟩,.string ⟨#[115,116,114,97,105,103,104,116]⟩,.string ⟨#[116,105,100,121]⟩,.string ⟨#[114,97,100,105,97,108]⟩] 9))) C0.out;have HCL:=hid hcl;clear hcl;go_wp2_with (go_at_call 62;refine Calls.mono (by with_reducible exact HCL.out) ?_;rintro e w4 ⟨rfl,v4,hk4⟩;have HK4:=hid hk4;clear hk4);go_wp2_with fail
   go_meet
   exact⟨v4,hid (by rw[HL.out];exact HK4.out)⟩
  ·have b0':=fun ob=>((Ext.refl wx).alloc ob).cell b0
   have hcl:=clo_any ⟨#[109,111,100,101]⟩ ⟨#[115,116,114,97,105,103,104,116]⟩ w2 gv [] v0 _ (HB.out.ext ((Ext.refl wx).alloc (.cells #[.string ⟨#[108,97,121,101,114,101,100]⟩,.string ⟨#[111,114,116,104,111,103,111,110,97,108]⟩,.string ⟨#[115,116,114,97,105,103,104,116]⟩,.string ⟨#[116,105,100,121]⟩,.string ⟨#[114,97,100,105,97,108]⟩] 9))) C0.out;have HCL:=hid hcl;clear hcl;go_wp2_with (go_at_call 62;refine Calls.mono (by with_reducible exact HCL.out) ?_;rintro e w4 ⟨rfl,v4,hk4⟩;have HK4:=hid hk4;clear hk4);go_wp2_with fail
   go_meet
   exact⟨v4,hid (by rw[HL.out];exact HK4.out)⟩
  ·have b0':=fun ob=>((Ext.refl wx).alloc ob).cell b0
   have hcl:=clo_any ⟨#[109,111,100,101]⟩ ⟨#[116,105,100,121]⟩ w2 gv [] v0 _ (HB.out.ext ((Ext.refl wx).alloc (.cells #[.string ⟨#[108,97,121,101,114,101,100]⟩,.string ⟨#[111,114,116,104,111,103,111,110,97,108]⟩,.string ⟨#[115,116,114,97,105,103,104,116]⟩,.string ⟨#[116,105,100,121]⟩,.string ⟨#[114,97,100,105,97,108]⟩] 9))) C0.out;have HCL:=hid hcl;clear hcl;go_wp2_with (go_at_call 62;refine Calls.mono (by with_reducible exact HCL.out) ?_;rintro e w4 ⟨rfl,v4,hk4⟩;have HK4:=hid hk4;clear hk4);go_wp2_with fail
   go_meet
   exact⟨v4,hid (by rw[HL.out];exact HK4.out)⟩
  have b0':=fun ob=>((Ext.refl wx).alloc ob).cell b0
  have hcl:=clo_any ⟨#[109,111,100,101]⟩ ⟨#[114,97,100,105,97,108]⟩ w2 gv [] v0 _ (HB.out.ext ((Ext.refl wx).alloc (.cells #[.string ⟨#[108,97,121,101,114,101,100]⟩,.string ⟨#[111,114,116,104,111,103,111,110,97,108]⟩,.string ⟨#[115,116,114,97,105,103,104,116]⟩,.string ⟨#[116,105,100,121]⟩,.string ⟨#[114,97,100,105,97,108]⟩] 9))) C0.out;have HCL:=hid hcl;clear hcl;go_wp2_with (go_at_call 62;refine Calls.mono (by with_reducible exact HCL.out) ?_;rintro e w4 ⟨rfl,v4,hk4⟩;have HK4:=hid hk4;clear hk4);go_wp2_with fail
  go_meet
  exact⟨v4,hid (by rw[HL.out];exact HK4.out)⟩
 case rest =>
 clear HB GX XX b0 b1 b2 b3 b4;obtain⟨v0,HB⟩:=hcut;obtain⟨wx,hwx⟩:∃ w':World,w'=wc:=⟨_,rfl⟩;subst hwx;have GX:Hid (wx.heap[gb]? = _):=hid ((HB.out.b.block gb HGV.out.2.2 HGV.out.2.1).trans GB.out);have XX:Hid (Ext w wx):=hid (But.fresh XB.out HB.out.b HGV.out.1);obtain⟨b0,b1,b2,b3,b4⟩:=cells5g GX.out
 go_upto_if 18 with(fail)
 go_cut [] from 5 to 48 (fun wx=>∃ v,Hid (OptK w2 gv L2 v wx))
 case first =>
  by_cases hc:ns=10000
  ·have f1:(ns != 10000)=false:=by rw[hc];rfl
   have hl1:L2=L1:=by rw[H2.out,if_pos hc];simp
   have HL:=hid hl1;clear hc hl1;go_wp2_with fail
   go_meet
   exact⟨_,hid (by rw[HL.out];exact HB.out)⟩
  have f1:(ns != 10000)=true:=(nfacts hc).2;have hl1:L2=L1++[setS kNs (fmtB ns)]:=by rw[H2.out,if_neg hc]
  have HL:=hid hl1;clear hc hl1;have HCL:Hid (∀ w3,Ext wx w3->Calls Tryz.prog 62 #[.string ⟨#[110,111,100,101,115,101,112]⟩,.string ⟨(fmt ns).toArray⟩,.pointer (some ⟨gv,0,none⟩)] w3 fun e w'=>e=.returned (.tuple #[])/\∃ v',OptK w2 gv (L1++[setS ⟨#[110,111,100,101,115,101,112]⟩ ⟨(fmt ns).toArray⟩]) v' w'):=hid (fun w3 x=>clo_any ⟨#[110,111,100,101,115,101,112]⟩ ⟨(fmt ns).toArray⟩ w2 gv L1 v0 w3 (HB.out.ext x) C1.out)
  go_wp2_with (first
   | (go_at_call 63;refine Calls.mono (by with_reducible exact HF1.out _ XX.out) ?_;rintro e w3 ⟨rfl,x3⟩;have X3:=hid x3;clear x3)
   | (go_at_call 62;refine Calls.mono (by with_reducible exact HCL.out _ X3.out) ?_;rintro e w4 ⟨rfl,v4,hk4⟩;have HK4:=hid hk4;clear hk4))
  go_wp2_with fail
  go_meet
  exact⟨v4,hid (by rw[HL.out];exact HK4.out)⟩
 case rest =>
 clear HB GX XX b0 b1 b2 b3 b4;obtain⟨v0,HB⟩:=hcut;obtain⟨wx,hwx⟩:∃ w':World,w'=wc:=⟨_,rfl⟩;subst hwx;have GX:Hid (wx.heap[gb]? = _):=hid ((HB.out.b.block gb HGV.out.2.2 HGV.out.2.1).trans GB.out);have XX:Hid (Ext w wx):=hid (But.fresh XB.out HB.out.b HGV.out.1);obtain⟨b0,b1,b2,b3,b4⟩:=cells5g GX.out
 go_upto_if 26 with(fail)
 go_cut [] from 5 to 48 (fun wx=>∃ v,Hid (OptK w2 gv L3 v wx))
 case first =>
  by_cases hc:rs=20000
  ·have f1:(rs != 20000)=false:=by rw[hc];rfl
   have hl1:L3=L2:=by rw[H3.out,if_pos hc];simp
   have HL:=hid hl1;clear hc hl1;go_wp2_with fail
   go_meet
   exact⟨_,hid (by rw[HL.out];exact HB.out)⟩
  have f1:(rs != 20000)=true:=(nfacts hc).2;have hl1:L3=L2++[setS kRs (fmtB rs)]:=by rw[H3.out,if_neg hc]
  have HL:=hid hl1;clear hc hl1;have HCL:Hid (∀ w3,Ext wx w3->Calls Tryz.prog 62 #[.string ⟨#[114,97,110,107,115,101,112]⟩,.string ⟨(fmt rs).toArray⟩,.pointer (some ⟨gv,0,none⟩)] w3 fun e w'=>e=.returned (.tuple #[])/\∃ v',OptK w2 gv (L2++[setS ⟨#[114,97,110,107,115,101,112]⟩ ⟨(fmt rs).toArray⟩]) v' w'):=hid (fun w3 x=>clo_any ⟨#[114,97,110,107,115,101,112]⟩ ⟨(fmt rs).toArray⟩ w2 gv L2 v0 w3 (HB.out.ext x) C2.out)
  go_wp2_with (first
   | (go_at_call 63;refine Calls.mono (by with_reducible exact HF2.out _ XX.out) ?_;rintro e w3 ⟨rfl,x3⟩;have X3:=hid x3;clear x3)
   | (go_at_call 62;refine Calls.mono (by with_reducible exact HCL.out _ X3.out) ?_;rintro e w4 ⟨rfl,v4,hk4⟩;have HK4:=hid hk4;clear hk4))
  go_wp2_with fail
  go_meet
  exact⟨v4,hid (by rw[HL.out];exact HK4.out)⟩
 case rest =>
 clear HB GX XX b0 b1 b2 b3 b4;obtain⟨v0,HB⟩:=hcut;obtain⟨wx,hwx⟩:∃ w':World,w'=wc:=⟨_,rfl⟩;subst hwx;have GX:Hid (wx.heap[gb]? = _):=hid ((HB.out.b.block gb HGV.out.2.2 HGV.out.2.1).trans GB.out);have XX:Hid (Ext w wx):=hid (But.fresh XB.out HB.out.b HGV.out.1);obtain⟨b0,b1,b2,b3,b4⟩:=cells5g GX.out
 go_upto_if 34 with(fail)
 go_cut [] from 5 to 48 (fun wx=>∃ v,Hid (OptK w2 gv L4 v wx))
 case first =>
  by_cases hc:mg=5000
  ·have f1:(mg != 5000)=false:=by rw[hc];rfl
   have hl1:L4=L3:=by rw[H4.out,if_pos hc];simp
   have HL:=hid hl1;clear hc hl1;go_wp2_with fail
   go_meet
   exact⟨_,hid (by rw[HL.out];exact HB.out)⟩
  have f1:(mg != 5000)=true:=(nfacts hc).2;have hl1:L4=L3++[setS kMg (fmtB mg)]:=by rw[H4.out,if_neg hc]
  have HL:=hid hl1;clear hc hl1;have HCL:Hid (∀ w3,Ext wx w3->Calls Tryz.prog 62 #[.string ⟨#[109,97,114,103,105,110]⟩,.string ⟨(fmt mg).toArray⟩,.pointer (some ⟨gv,0,none⟩)] w3 fun e w'=>e=.returned (.tuple #[])/\∃ v',OptK w2 gv (L3++[setS ⟨#[109,97,114,103,105,110]⟩ ⟨(fmt mg).toArray⟩]) v' w'):=hid (fun w3 x=>clo_any ⟨#[109,97,114,103,105,110]⟩ ⟨(fmt mg).toArray⟩ w2 gv L3 v0 w3 (HB.out.ext x) C3.out)
  go_wp2_with (first
   | (go_at_call 63;refine Calls.mono (by with_reducible exact HF3.out _ XX.out) ?_;rintro e w3 ⟨rfl,x3⟩;have X3:=hid x3;clear x3)
   | (go_at_call 62;refine Calls.mono (by with_reducible exact HCL.out _ X3.out) ?_;rintro e w4 ⟨rfl,v4,hk4⟩;have HK4:=hid hk4;clear hk4))
  go_wp2_with fail
  go_meet
  exact⟨v4,hid (by rw[HL.out];exact HK4.out)⟩
 case rest =>
 clear HB GX XX b0 b1 b2 b3 b4;obtain⟨v0,HB⟩:=hcut;obtain⟨wx,hwx⟩:∃ w':World,w'=wc:=⟨_,rfl⟩;subst hwx;have GX:Hid (wx.heap[gb]? = _):=hid ((HB.out.b.block gb HGV.out.2.2 HGV.out.2.1).trans GB.out);have XX:Hid (Ext w wx):=hid (But.fresh XB.out HB.out.b HGV.out.1);obtain⟨b0,b1,b2,b3,b4⟩:=cells5g GX.out
 go_upto_if 42 with(fail)
 go_cut [] from 5 to 48 (fun wx=>∃ v,Hid (OptK w2 gv R v wx))
 case first =>
  by_cases hc:rd=8
  ·have f1:(rd != 8)=false:=by rw[hc];rfl
   have hl1:R=L4:=by rw[HR.out,if_pos hc];simp
   have HL:=hid hl1;clear hc hl1;go_wp2_with fail
   go_meet
   exact⟨_,hid (by rw[HL.out];exact HB.out)⟩
  have f1:(rd != 8)=true:=(nfacts hc).2;have hl1:R=L4++[setS kRd (fmtB (1000 * rd))]:=by rw[HR.out,if_neg hc]
  have HL:=hid hl1;clear hc hl1;have HCL:Hid (∀ w3,Ext wx w3->Calls Tryz.prog 62 #[.string ⟨#[114,111,117,110,100,115]⟩,.string (fmtB (1000 * rd)),.pointer (some ⟨gv,0,none⟩)] w3 fun e w'=>e=.returned (.tuple #[])/\∃ v',OptK w2 gv (L4++[setS ⟨#[114,111,117,110,100,115]⟩ (fmtB (1000 * rd))]) v' w'):=hid (fun w3 x=>clo_any ⟨#[114,111,117,110,100,115]⟩ (fmtB (1000 * rd)) w2 gv L4 v0 w3 (HB.out.ext x) C4.out)
  go_wp2_with (first
   | (go_at_call 64;refine Calls.mono (by with_reducible exact HF4.out _ XX.out) ?_;rintro e w3 ⟨rfl,x3⟩;have X3:=hid x3;clear x3)
   | (go_at_call 62;refine Calls.mono (by with_reducible exact HCL.out _ X3.out) ?_;rintro e w4 ⟨rfl,v4,hk4⟩;have HK4:=hid hk4;clear hk4))
  go_wp2_with fail
  go_meet
  exact⟨v4,hid (by rw[HL.out];exact HK4.out)⟩
 case rest =>
 clear HB GX XX b0 b1 b2 b3 b4;obtain⟨v0,HB⟩:=hcut;obtain⟨wx,hwx⟩:∃ w':World,w'=wc:=⟨_,rfl⟩;subst hwx;have GX:Hid (wx.heap[gb]? = _):=hid ((HB.out.b.block gb HGV.out.2.2 HGV.out.2.1).trans GB.out);have XX:Hid (Ext w wx):=hid (But.fresh XB.out HB.out.b HGV.out.1);obtain⟨b0,b1,b2,b3,b4⟩:=cells5g GX.out;have bv:wx.cell? ⟨gv,0,none⟩=some v0:=by rw[Lib.cell_of_heap HB.out.bx];rfl
 go_wp2;go_ret;exact⟨⟨_,_,rfl,HSZ.out,HB.out.b.size,HB.out.own⟩,XX.out⟩
end Go.Proofs.YtjaeedbjknejdaaGreatDoor.Ex
