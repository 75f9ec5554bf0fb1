/- Packed texts: ExpOptR -/
import Derived.Test.YtjaeedbjknejdaaGreatDoorPu27
set_option linter.unusedVariables false
set_option linter.unusedSimpArgs false
set_option maxHeartbeats 16000000
set_option maxRecDepth 100000
namespace Go.Proofs.YtjaeedbjknejdaaGreatDoor.Ex
open Go.RowKit Go.Sort Go.Lib Go.Shelf Fx Lx Tr At Pa Go.Proofs.YtjaeedbjknejdaaGreatDoor.Nm
theorem setR_any (k v:ByteArray)(w:World):
    Calls Tryz.prog 76 #[.string k,.string v] w fun e w'=>e=.returned (.agg #[.int .i64 4,.string k,.slice none 0 0,.slice (some ⟨w.heap.size+1,0,none⟩) 1 1,.slice none 0 0])/\w'.heap[w.heap.size+1]? = some (.cells #[.string ⟨#[]⟩,.string v] 69 (0,0))/\Ext w w':=by
  go_enter Tryz.func76,Tryz.ntmps76;go_wp2
  (try simp only[Exit.inBlock,Exit.then])
  refine bodyPost_ret (results_cell_row rfl _ _ w.heap.size 67 #[.int .i64 4,.string k,.slice none 0 0,.slice (some ⟨w.heap.size+1,0,none⟩) 1 1,.slice none 0 0] (0,0) _ rfl (At.heap_ext (heap_alloc_new w _) ((Ext.refl _).alloc _)) Tryz.underlying67 rfl size_stm) rfl ?_;exact⟨rfl,new2 _ _ _ (by simp),((Ext.refl _).alloc _).alloc _⟩
theorem optsR_any (o:Op5)(hok:inR5 o=true)(w:World):
    Calls Tryz.prog 33 #[opV o] w fun e w'=>(∃ u B,e=.returned u/\w.heap.size<=B/\B<=w'.heap.size/\BarAt B 0 (optsL o) u w')/\Ext w w':=by
  obtain⟨mo,ns,rs,mg,rd⟩:=o;have ho:=inR5_ok hok;dsimp only at ho;unfold opV;dsimp only;have hf1:=fun(w5:World)=>formatR_any ns w5 (by omega) (by omega)
  have hf2:=fun(w5:World)=>formatR_any rs w5 (by omega) (by omega)
  have hf3:=fun(w5:World)=>formatR_any mg w5 (by omega) (by omega)
  have hf4:=fun(w5:World)=>formatR_any (1000 * rd) w5 (by omega) (by omega)
  have mp1:=wrap_sm (x:=1000 * rd) (by omega) (by omega);obtain⟨R,hR⟩:∃ R,R=optsL ⟨mo,ns,rs,mg,rd⟩:=⟨_,rfl⟩;rw[<-hR];unfold optsL at hR;dsimp only at hR;obtain⟨L1,hL1⟩:∃ M,M=(if mo=0 then [] else [setS kMode (modeT mo)]:List Stm):=⟨_,rfl⟩;obtain⟨L2,hL2⟩:∃ M,M=L1++(if ns=10000 then [] else [setS kNs (fmtB ns)]:List Stm):=⟨_,rfl⟩;obtain⟨L3,hL3⟩:∃ M,M=L2++(if rs=20000 then [] else [setS kRs (fmtB rs)]:List Stm):=⟨_,rfl⟩;obtain⟨L4,hL4⟩:∃ M,M=L3++(if mg=5000 then [] else [setS kMg (fmtB mg)]:List Stm):=⟨_,rfl⟩;rw[<-hL1,<- hL2,<- hL3,<- hL4] at hR;have c0:([]:List Stm).length=0:=rfl;have c1:L1.length<=1:=by rw[hL1];split <;> simp
  have c2:L2.length<=2:=by rw[hL2];split <;> simp <;> omega
  have c3:L3.length<=3:=by rw[hL3];split <;> simp <;> omega
  have c4:L4.length<=4:=by rw[hL4];split <;> simp <;> omega
  have HF1:=Lib.hid hf1;have HF2:=Lib.hid hf2;have HF3:=Lib.hid hf3;have HF4:=Lib.hid hf4;have HR:=Lib.hid hR;have H1:=Lib.hid hL1;have H2:=Lib.hid hL2;have H3:=Lib.hid hL3;have H4:=Lib.hid hL4;have HOK:=Lib.hid ho;obtain⟨i0,hi0,hz0,hz1,hz2⟩:=info_parts info_stm;clear hf1 hf2 hf3 hf4 hR hL1 hL2 hL3 hL4 ho hok;go_enter Tryz.func33,Tryz.ntmps33
  go_upto_if 9 with(fail)
  obtain⟨w2,hw2⟩:∃ w2,w2=(w.alloc (.cells #[.int .i64 mo,.int .i64 ns,.int .i64 rs,.int .i64 mg,.int .i64 rd] 28)).alloc (.cells #[.string ⟨#[108,97,121,101,114,101,100]⟩,.string ⟨#[111,114,116,104,111,103,111,110,97,108]⟩,.string ⟨#[115,116,114,97,105,103,104,116]⟩,.string ⟨#[116,105,100,121]⟩,.string ⟨#[114,97,100,105,97,108]⟩] 9):=⟨_,rfl⟩;obtain⟨gb,hgb⟩:∃ g,g=w.heap.size:=⟨_,rfl⟩;obtain⟨gm,hgm⟩:∃ g,g=w.heap.size+1:=⟨_,rfl⟩;have XB:Hid (Ext w w2):=Lib.hid (by rw[hw2];exact((Ext.refl _).alloc _).alloc _);have hs2:w.heap.size+1+1=w2.heap.size:=by rw[hw2];simp
  have HSZ:Hid (w.heap.size<=w2.heap.size):=Lib.hid XB.out.size;have GB:Hid (w2.heap[gb]? = some (.cells #[.int .i64 mo,.int .i64 ns,.int .i64 rs,.int .i64 mg,.int .i64 rd] 28 (0,0))):=Lib.hid (by rw[hw2,hgb];exact At.heap_ext (heap_alloc_new w _) ((Ext.refl _).alloc _));have GM:Hid (w2.heap[gm]? = some (.cells #[.string ⟨#[108,97,121,101,114,101,100]⟩,.string ⟨#[111,114,116,104,111,103,111,110,97,108]⟩,.string ⟨#[115,116,114,97,105,103,104,116]⟩,.string ⟨#[116,105,100,121]⟩,.string ⟨#[114,97,100,105,97,108]⟩] 9 (0,0))):=Lib.hid (by rw[hw2,hgm];exact new2 _ _ _ (by simp));obtain⟨v0,hv0⟩:∃ v:Value,v=.slice (some ⟨w2.heap.size,0,none⟩) 0 0:=⟨_,rfl⟩;rw[<-hw2,hs2,<- hgm,<- hgb,<- hv0];obtain⟨wx,hwx⟩:∃ w',w'=w2.alloc (.cells #[] 67):=⟨_,rfl⟩
  have HB:Hid (OptA w2 [] v0 wx):=Lib.hid ⟨⟨[],⟨rfl,.inr ⟨w2.heap.size,0,#[],hv0,Nat.le_refl _,by rw[hwx];exact heap_alloc_new _ _,Nat.le_refl _,Nat.zero_le _,rfl,rfl⟩⟩,rfl⟩,by rw[hwx];exact(Ext.refl _).alloc _⟩;rw[<-hwx];clear hwx hw2 hgb hgm hs2 hv0;obtain⟨b0,b1,b2,b3,b4⟩:=cells5g (At.heap_ext GB.out HB.out.X);obtain⟨m0,m1,m2,m3,m4⟩:=cells5g (At.heap_ext GM.out HB.out.X)
  go_cut [4] from 5 to 60 (fun s4 wx=>∃ v,v=s4/\Hid (OptA w2 L1 v wx))
  case first =>
    by_cases hc:mo=0
    · have f1:(mo != 0)=false:=by rw[hc];rfl
      have hl1:L1=[]:=by rw[H1.out,if_pos hc]
      have HL:=Lib.hid hl1;clear hc hl1;go_wp2_with fail
      go_meet
      exact⟨_,rfl,Lib.hid (by rw[HL.out];exact HB.out)⟩
    have f1:(mo != 0)=true:=(nfacts hc).2;have hl1:L1=[setS kMode (modeT mo)]:=by rw[H1.out,if_neg hc]
    have HL:=Lib.hid hl1;have hm:mo=1\/mo=2\/mo=3\/mo=4:=by have:=HOK.out;omega
    clear hc hl1;rcases hm with rfl | rfl | rfl | rfl
    · obtain⟨XX,hown,hrow⟩:=HB.out.own.own;obtain⟨LN,hLN⟩:∃ n,n=([]:List Stm).length:=⟨_,rfl⟩;have OW:Hid (wx.ownsRow w2.heap.size 67 5 v0 LN XX):=Lib.hid (by rw[hLN];exact hown);have OR:=Lib.hid hrow;have HLN:=Lib.hid hLN;clear hown hrow hLN
      go_wp2_with (first
        | (go_at_call 76;refine Calls.mono (by with_reducible exact setR_any _ _ _) ?_;rintro e w3 ⟨rfl,hb3,x3⟩;have B3:=Lib.hid hb3;have X3:Hid (Ext wx w3):=Lib.hid (by first | exact x3 | exact(Ext.refl wx).trans x3);clear x3 hb3)
        | (at_builtin;refine wpList_append_lies _ rfl _ _ 31 rfl w2.heap.size 67 i0 _ 5 96 Tryz.underlying31 hi0 hz0 hz1 hz2 rfl (by decide) _ _ _ rfl (At.own_ext OW.out (X3.out.alloc _)) ⟨w3.heap.size,0,none⟩ 1 1 [.int .i64 4,.string kMode,.slice none 0 0,.slice (some ⟨wx.heap.size+1,0,none⟩) 1 1,.slice none 0 0] rfl rfl ?c1 ?c2 (by decide) ?c3 ?c4 ?c5 _ rfl ?_))
      case c1=>exact World.news_of_block (cs:=#[.int .i64 4,.string kMode,.slice none 0 0,.slice (some ⟨wx.heap.size+1,0,none⟩) 1 1,.slice none 0 0]) (t:=67) (fr:=(0,0)) (heap_alloc_new w3 _)
      case c2=>intro u hu;simp at hu;rcases hu with rfl | rfl | rfl | rfl | rfl <;> rfl
      case c3=>have:=HLN.out;unfold maxLen;omega
      case c4=>have:=HLN.out;omega
      case c5=>have:=HB.out.X.size;have:=X3.out.size;simp;omega
      intro g7 c7 w7 hown7 hgrow7 hor7 _;have hst:StmP (fun g=>g < 0\/wx.heap.size<=g) (w3.alloc (.cells #[.int .i64 4,.string kMode,.slice none 0 0,.slice (some ⟨wx.heap.size+1,0,none⟩) 1 1,.slice none 0 0] 67)) (setS kMode ⟨#[111,114,116,104,111,103,111,110,97,108]⟩) [.int .i64 4,.string kMode,.slice none 0 0,.slice (some ⟨wx.heap.size+1,0,none⟩) 1 1,.slice none 0 0]:=stm_made (twoP_nil _ _) (TwoP.wide (one_two (At.heap_ext B3.out ((Ext.refl w3).alloc _)) (Nat.le_refl _)) (fun g hg=>.inr (by omega))) (Nat.le_refl _) (Nat.le_refl _) (Nat.zero_le _) (by unfold maxLen;omega);have HO7:=Lib.hid (OptA.next HB.out HLN.out OW.out OR.out (X3.out.alloc _) hst rfl hgrow7 hown7 (hor7.imp id fun h=>by rw[World.size_alloc];exact h));clear hown7 hgrow7 hor7 hst;go_wp2
      go_meet
      exact⟨_,rfl,Lib.hid (by rw[HL.out];exact HO7.out)⟩
    · obtain⟨XX,hown,hrow⟩:=HB.out.own.own;obtain⟨LN,hLN⟩:∃ n,n=([]:List Stm).length:=⟨_,rfl⟩;have OW:Hid (wx.ownsRow w2.heap.size 67 5 v0 LN XX):=Lib.hid (by rw[hLN];exact hown);have OR:=Lib.hid hrow;have HLN:=Lib.hid hLN;clear hown hrow hLN
      go_wp2_with (first
        | (go_at_call 76;refine Calls.mono (by with_reducible exact setR_any _ _ _) ?_;rintro e w3 ⟨rfl,hb3,x3⟩;have B3:=Lib.hid hb3;have X3:Hid (Ext wx w3):=Lib.hid (by first | exact x3 | exact(Ext.refl wx).trans x3);clear x3 hb3)
        | (at_builtin;refine wpList_append_lies _ rfl _ _ 31 rfl w2.heap.size 67 i0 _ 5 96 Tryz.underlying31 hi0 hz0 hz1 hz2 rfl (by decide) _ _ _ rfl (At.own_ext OW.out (X3.out.alloc _)) ⟨w3.heap.size,0,none⟩ 1 1 [.int .i64 4,.string kMode,.slice none 0 0,.slice (some ⟨wx.heap.size+1,0,none⟩) 1 1,.slice none 0 0] rfl rfl ?c1 ?c2 (by decide) ?c3 ?c4 ?c5 _ rfl ?_))
      case c1=>exact World.news_of_block (cs:=#[.int .i64 4,.string kMode,.slice none 0 0,.slice (some ⟨wx.heap.size+1,0,none⟩) 1 1,.slice none 0 0]) (t:=67) (fr:=(0,0)) (heap_alloc_new w3 _)
      case c2=>intro u hu;simp at hu;rcases hu with rfl | rfl | rfl | rfl | rfl <;> rfl
      case c3=>have:=HLN.out;unfold maxLen;omega
      case c4=>have:=HLN.out;omega
      case c5=>have:=HB.out.X.size;have:=X3.out.size;simp;omega
      intro g7 c7 w7 hown7 hgrow7 hor7 _;have hst:StmP (fun g=>g < 0\/wx.heap.size<=g) (w3.alloc (.cells #[.int .i64 4,.string kMode,.slice none 0 0,.slice (some ⟨wx.heap.size+1,0,none⟩) 1 1,.slice none 0 0] 67)) (setS kMode ⟨#[115,116,114,97,105,103,104,116]⟩) [.int .i64 4,.string kMode,.slice none 0 0,.slice (some ⟨wx.heap.size+1,0,none⟩) 1 1,.slice none 0 0]:=stm_made (twoP_nil _ _) (TwoP.wide (one_two (At.heap_ext B3.out ((Ext.refl w3).alloc _)) (Nat.le_refl _)) (fun g hg=>.inr (by omega))) (Nat.le_refl _) (Nat.le_refl _) (Nat.zero_le _) (by unfold maxLen;omega);have HO7:=Lib.hid (OptA.next HB.out HLN.out OW.out OR.out (X3.out.alloc _) hst rfl hgrow7 hown7 (hor7.imp id fun h=>by rw[World.size_alloc];exact h));clear hown7 hgrow7 hor7 hst;go_wp2
      go_meet
      exact⟨_,rfl,Lib.hid (by rw[HL.out];exact HO7.out)⟩
    · obtain⟨XX,hown,hrow⟩:=HB.out.own.own;obtain⟨LN,hLN⟩:∃ n,n=([]:List Stm).length:=⟨_,rfl⟩;have OW:Hid (wx.ownsRow w2.heap.size 67 5 v0 LN XX):=Lib.hid (by rw[hLN];exact hown);have OR:=Lib.hid hrow;have HLN:=Lib.hid hLN;clear hown hrow hLN
      go_wp2_with (first
        | (go_at_call 76;refine Calls.mono (by with_reducible exact setR_any _ _ _) ?_;rintro e w3 ⟨rfl,hb3,x3⟩;have B3:=Lib.hid hb3;have X3:Hid (Ext wx w3):=Lib.hid (by first | exact x3 | exact(Ext.refl wx).trans x3);clear x3 hb3)
        | (at_builtin;refine wpList_append_lies _ rfl _ _ 31 rfl w2.heap.size 67 i0 _ 5 96 Tryz.underlying31 hi0 hz0 hz1 hz2 rfl (by decide) _ _ _ rfl (At.own_ext OW.out (X3.out.alloc _)) ⟨w3.heap.size,0,none⟩ 1 1 [.int .i64 4,.string kMode,.slice none 0 0,.slice (some ⟨wx.heap.size+1,0,none⟩) 1 1,.slice none 0 0] rfl rfl ?c1 ?c2 (by decide) ?c3 ?c4 ?c5 _ rfl ?_))
      case c1=>exact World.news_of_block (cs:=#[.int .i64 4,.string kMode,.slice none 0 0,.slice (some ⟨wx.heap.size+1,0,none⟩) 1 1,.slice none 0 0]) (t:=67) (fr:=(0,0)) (heap_alloc_new w3 _)
      case c2=>intro u hu;simp at hu;rcases hu with rfl | rfl | rfl | rfl | rfl <;> rfl
      case c3=>have:=HLN.out;unfold maxLen;omega
      case c4=>have:=HLN.out;omega
      case c5=>have:=HB.out.X.size;have:=X3.out.size;simp;omega
      intro g7 c7 w7 hown7 hgrow7 hor7 _;have hst:StmP (fun g=>g < 0\/wx.heap.size<=g) (w3.alloc (.cells #[.int .i64 4,.string kMode,.slice none 0 0,.slice (some ⟨wx.heap.size+1,0,none⟩) 1 1,.slice none 0 0] 67)) (setS kMode ⟨#[116,105,100,121]⟩) [.int .i64 4,.string kMode,.slice none 0 0,.slice (some ⟨wx.heap.size+1,0,none⟩) 1 1,.slice none 0 0]:=stm_made (twoP_nil _ _) (TwoP.wide (one_two (At.heap_ext B3.out ((Ext.refl w3).alloc _)) (Nat.le_refl _)) (fun g hg=>.inr (by omega))) (Nat.le_refl _) (Nat.le_refl _) (Nat.zero_le _) (by unfold maxLen;omega);have HO7:=Lib.hid (OptA.next HB.out HLN.out OW.out OR.out (X3.out.alloc _) hst rfl hgrow7 hown7 (hor7.imp id fun h=>by rw[World.size_alloc];exact h));clear hown7 hgrow7 hor7 hst;go_wp2
      go_meet
      exact⟨_,rfl,Lib.hid (by rw[HL.out];exact HO7.out)⟩
    obtain⟨XX,hown,hrow⟩:=HB.out.own.own;obtain⟨LN,hLN⟩:∃ n,n=([]:List Stm).length:=⟨_,rfl⟩;have OW:Hid (wx.ownsRow w2.heap.size 67 5 v0 LN XX):=Lib.hid (by rw[hLN];exact hown);have OR:=Lib.hid hrow;have HLN:=Lib.hid hLN;clear hown hrow hLN
    go_wp2_with (first
      | (go_at_call 76;refine Calls.mono (by with_reducible exact setR_any _ _ _) ?_;rintro e w3 ⟨rfl,hb3,x3⟩;have B3:=Lib.hid hb3;have X3:Hid (Ext wx w3):=Lib.hid (by first | exact x3 | exact(Ext.refl wx).trans x3);clear x3 hb3)
      | (at_builtin;refine wpList_append_lies _ rfl _ _ 31 rfl w2.heap.size 67 i0 _ 5 96 Tryz.underlying31 hi0 hz0 hz1 hz2 rfl (by decide) _ _ _ rfl (At.own_ext OW.out (X3.out.alloc _)) ⟨w3.heap.size,0,none⟩ 1 1 [.int .i64 4,.string kMode,.slice none 0 0,.slice (some ⟨wx.heap.size+1,0,none⟩) 1 1,.slice none 0 0] rfl rfl ?c1 ?c2 (by decide) ?c3 ?c4 ?c5 _ rfl ?_))
    case c1=>exact World.news_of_block (cs:=#[.int .i64 4,.string kMode,.slice none 0 0,.slice (some ⟨wx.heap.size+1,0,none⟩) 1 1,.slice none 0 0]) (t:=67) (fr:=(0,0)) (heap_alloc_new w3 _)
    case c2=>intro u hu;simp at hu;rcases hu with rfl | rfl | rfl | rfl | rfl <;> rfl
    case c3=>have:=HLN.out;unfold maxLen;omega
    case c4=>have:=HLN.out;omega
    case c5=>have:=HB.out.X.size;have:=X3.out.size;simp;omega
    intro g7 c7 w7 hown7 hgrow7 hor7 _;have hst:StmP (fun g=>g < 0\/wx.heap.size<=g) (w3.alloc (.cells #[.int .i64 4,.string kMode,.slice none 0 0,.slice (some ⟨wx.heap.size+1,0,none⟩) 1 1,.slice none 0 0] 67)) (setS kMode ⟨#[114,97,100,105,97,108]⟩) [.int .i64 4,.string kMode,.slice none 0 0,.slice (some ⟨wx.heap.size+1,0,none⟩) 1 1,.slice none 0 0]:=stm_made (twoP_nil _ _) (TwoP.wide (one_two (At.heap_ext B3.out ((Ext.refl w3).alloc _)) (Nat.le_refl _)) (fun g hg=>.inr (by omega))) (Nat.le_refl _) (Nat.le_refl _) (Nat.zero_le _) (by unfold maxLen;omega);have HO7:=Lib.hid (OptA.next HB.out HLN.out OW.out OR.out (X3.out.alloc _) hst rfl hgrow7 hown7 (hor7.imp id fun h=>by rw[World.size_alloc];exact h));clear hown7 hgrow7 hor7 hst;go_wp2
    go_meet
    exact⟨_,rfl,Lib.hid (by rw[HL.out];exact HO7.out)⟩
  case rest =>
  clear HB b0 b1 b2 b3 b4 m0 m1 m2 m3 m4;obtain⟨v0,rfl,HB⟩:=hcut;obtain⟨wx,hwx⟩:∃ w':World,w'=wc:=⟨_,rfl⟩;subst hwx;obtain⟨b0,b1,b2,b3,b4⟩:=cells5g (At.heap_ext GB.out HB.out.X);obtain⟨m0,m1,m2,m3,m4⟩:=cells5g (At.heap_ext GM.out HB.out.X)
  go_upto_if 21 with(fail)
  go_cut [4] from 5 to 60 (fun s4 wx=>∃ v,v=s4/\Hid (OptA w2 L2 v wx))
  case first =>
    by_cases hc:ns=10000
    · have f1:(ns != 10000)=false:=by rw[hc];rfl
      have hl1:L2=L1:=by rw[H2.out,if_pos hc];simp
      have HL:=Lib.hid hl1;clear hc hl1;go_wp2_with fail
      go_meet
      exact⟨_,rfl,Lib.hid (by rw[HL.out];exact HB.out)⟩
    have f1:(ns != 10000)=true:=(nfacts hc).2;have hl1:L2=L1++[setS kNs (fmtB ns)]:=by rw[H2.out,if_neg hc]
    have HL:=Lib.hid hl1;clear hc hl1;obtain⟨XX,hown,hrow⟩:=HB.out.own.own;obtain⟨LN,hLN⟩:∃ n,n=L1.length:=⟨_,rfl⟩;have OW:Hid (wx.ownsRow w2.heap.size 67 5 v0 LN XX):=Lib.hid (by rw[hLN];exact hown);have OR:=Lib.hid hrow;have HLN:=Lib.hid hLN;clear hown hrow hLN
    go_wp2_with (first
      | (go_at_call 77;refine Calls.mono (by with_reducible exact HF1.out _) ?_;rintro e w4 ⟨rfl,rfl⟩)
      | (go_at_call 76;refine Calls.mono (by with_reducible exact setR_any _ _ _) ?_;rintro e w3 ⟨rfl,hb3,x3⟩;have B3:=Lib.hid hb3;have X3:Hid (Ext wx w3):=Lib.hid (by first | exact x3 | exact(Ext.refl wx).trans x3);clear x3 hb3)
      | (at_builtin;refine wpList_append_lies _ rfl _ _ 31 rfl w2.heap.size 67 i0 _ 5 96 Tryz.underlying31 hi0 hz0 hz1 hz2 rfl (by decide) _ _ _ rfl (At.own_ext OW.out (X3.out.alloc _)) ⟨w3.heap.size,0,none⟩ 1 1 [.int .i64 4,.string kNs,.slice none 0 0,.slice (some ⟨wx.heap.size+1,0,none⟩) 1 1,.slice none 0 0] rfl rfl ?c1 ?c2 (by decide) ?c3 ?c4 ?c5 _ rfl ?_))
    case c1=>exact World.news_of_block (cs:=#[.int .i64 4,.string kNs,.slice none 0 0,.slice (some ⟨wx.heap.size+1,0,none⟩) 1 1,.slice none 0 0]) (t:=67) (fr:=(0,0)) (heap_alloc_new w3 _)
    case c2=>intro u hu;simp at hu;rcases hu with rfl | rfl | rfl | rfl | rfl <;> rfl
    case c3=>have:=HLN.out;unfold maxLen;omega
    case c4=>have:=HLN.out;omega
    case c5=>have:=HB.out.X.size;have:=X3.out.size;simp;omega
    intro g7 c7 w7 hown7 hgrow7 hor7 _;have hst:StmP (fun g=>g < 0\/wx.heap.size<=g) (w3.alloc (.cells #[.int .i64 4,.string kNs,.slice none 0 0,.slice (some ⟨wx.heap.size+1,0,none⟩) 1 1,.slice none 0 0] 67)) (setS kNs (fmtB ns)) [.int .i64 4,.string kNs,.slice none 0 0,.slice (some ⟨wx.heap.size+1,0,none⟩) 1 1,.slice none 0 0]:=stm_made (twoP_nil _ _) (TwoP.wide (one_two (At.heap_ext B3.out ((Ext.refl w3).alloc _)) (Nat.le_refl _)) (fun g hg=>.inr (by omega))) (Nat.le_refl _) (Nat.le_refl _) (Nat.zero_le _) (by unfold maxLen;omega);have HO7:=Lib.hid (OptA.next HB.out HLN.out OW.out OR.out (X3.out.alloc _) hst rfl hgrow7 hown7 (hor7.imp id fun h=>by rw[World.size_alloc];exact h));clear hown7 hgrow7 hor7 hst;go_wp2
    go_meet
    exact⟨_,rfl,Lib.hid (by rw[HL.out];exact HO7.out)⟩
  case rest =>
  clear HB b0 b1 b2 b3 b4 m0 m1 m2 m3 m4;obtain⟨v0,rfl,HB⟩:=hcut;obtain⟨wx,hwx⟩:∃ w':World,w'=wc:=⟨_,rfl⟩;subst hwx;obtain⟨b0,b1,b2,b3,b4⟩:=cells5g (At.heap_ext GB.out HB.out.X);obtain⟨m0,m1,m2,m3,m4⟩:=cells5g (At.heap_ext GM.out HB.out.X)
  go_upto_if 31 with(fail)
  go_cut [4] from 5 to 60 (fun s4 wx=>∃ v,v=s4/\Hid (OptA w2 L3 v wx))
  case first =>
    by_cases hc:rs=20000
    · have f1:(rs != 20000)=false:=by rw[hc];rfl
      have hl1:L3=L2:=by rw[H3.out,if_pos hc];simp
      have HL:=Lib.hid hl1;clear hc hl1;go_wp2_with fail
      go_meet
      exact⟨_,rfl,Lib.hid (by rw[HL.out];exact HB.out)⟩
    have f1:(rs != 20000)=true:=(nfacts hc).2;have hl1:L3=L2++[setS kRs (fmtB rs)]:=by rw[H3.out,if_neg hc]
    have HL:=Lib.hid hl1;clear hc hl1;obtain⟨XX,hown,hrow⟩:=HB.out.own.own;obtain⟨LN,hLN⟩:∃ n,n=L2.length:=⟨_,rfl⟩;have OW:Hid (wx.ownsRow w2.heap.size 67 5 v0 LN XX):=Lib.hid (by rw[hLN];exact hown);have OR:=Lib.hid hrow;have HLN:=Lib.hid hLN;clear hown hrow hLN
    go_wp2_with (first
      | (go_at_call 77;refine Calls.mono (by with_reducible exact HF2.out _) ?_;rintro e w4 ⟨rfl,rfl⟩)
      | (go_at_call 76;refine Calls.mono (by with_reducible exact setR_any _ _ _) ?_;rintro e w3 ⟨rfl,hb3,x3⟩;have B3:=Lib.hid hb3;have X3:Hid (Ext wx w3):=Lib.hid (by first | exact x3 | exact(Ext.refl wx).trans x3);clear x3 hb3)
      | (at_builtin;refine wpList_append_lies _ rfl _ _ 31 rfl w2.heap.size 67 i0 _ 5 96 Tryz.underlying31 hi0 hz0 hz1 hz2 rfl (by decide) _ _ _ rfl (At.own_ext OW.out (X3.out.alloc _)) ⟨w3.heap.size,0,none⟩ 1 1 [.int .i64 4,.string kRs,.slice none 0 0,.slice (some ⟨wx.heap.size+1,0,none⟩) 1 1,.slice none 0 0] rfl rfl ?c1 ?c2 (by decide) ?c3 ?c4 ?c5 _ rfl ?_))
    case c1=>exact World.news_of_block (cs:=#[.int .i64 4,.string kRs,.slice none 0 0,.slice (some ⟨wx.heap.size+1,0,none⟩) 1 1,.slice none 0 0]) (t:=67) (fr:=(0,0)) (heap_alloc_new w3 _)
    case c2=>intro u hu;simp at hu;rcases hu with rfl | rfl | rfl | rfl | rfl <;> rfl
    case c3=>have:=HLN.out;unfold maxLen;omega
    case c4=>have:=HLN.out;omega
    case c5=>have:=HB.out.X.size;have:=X3.out.size;simp;omega
    intro g7 c7 w7 hown7 hgrow7 hor7 _;have hst:StmP (fun g=>g < 0\/wx.heap.size<=g) (w3.alloc (.cells #[.int .i64 4,.string kRs,.slice none 0 0,.slice (some ⟨wx.heap.size+1,0,none⟩) 1 1,.slice none 0 0] 67)) (setS kRs (fmtB rs)) [.int .i64 4,.string kRs,.slice none 0 0,.slice (some ⟨wx.heap.size+1,0,none⟩) 1 1,.slice none 0 0]:=stm_made (twoP_nil _ _) (TwoP.wide (one_two (At.heap_ext B3.out ((Ext.refl w3).alloc _)) (Nat.le_refl _)) (fun g hg=>.inr (by omega))) (Nat.le_refl _) (Nat.le_refl _) (Nat.zero_le _) (by unfold maxLen;omega);have HO7:=Lib.hid (OptA.next HB.out HLN.out OW.out OR.out (X3.out.alloc _) hst rfl hgrow7 hown7 (hor7.imp id fun h=>by rw[World.size_alloc];exact h));clear hown7 hgrow7 hor7 hst;go_wp2
    go_meet
    exact⟨_,rfl,Lib.hid (by rw[HL.out];exact HO7.out)⟩
  case rest =>
  clear HB b0 b1 b2 b3 b4 m0 m1 m2 m3 m4;obtain⟨v0,rfl,HB⟩:=hcut;obtain⟨wx,hwx⟩:∃ w':World,w'=wc:=⟨_,rfl⟩;subst hwx;obtain⟨b0,b1,b2,b3,b4⟩:=cells5g (At.heap_ext GB.out HB.out.X);obtain⟨m0,m1,m2,m3,m4⟩:=cells5g (At.heap_ext GM.out HB.out.X)
  go_upto_if 41 with(fail)
  go_cut [4] from 5 to 60 (fun s4 wx=>∃ v,v=s4/\Hid (OptA w2 L4 v wx))
  case first =>
    by_cases hc:mg=5000
    · have f1:(mg != 5000)=false:=by rw[hc];rfl
      have hl1:L4=L3:=by rw[H4.out,if_pos hc];simp
      have HL:=Lib.hid hl1;clear hc hl1;go_wp2_with fail
      go_meet
      exact⟨_,rfl,Lib.hid (by rw[HL.out];exact HB.out)⟩
    have f1:(mg != 5000)=true:=(nfacts hc).2;have hl1:L4=L3++[setS kMg (fmtB mg)]:=by rw[H4.out,if_neg hc]
    have HL:=Lib.hid hl1;clear hc hl1;obtain⟨XX,hown,hrow⟩:=HB.out.own.own;obtain⟨LN,hLN⟩:∃ n,n=L3.length:=⟨_,rfl⟩;have OW:Hid (wx.ownsRow w2.heap.size 67 5 v0 LN XX):=Lib.hid (by rw[hLN];exact hown);have OR:=Lib.hid hrow;have HLN:=Lib.hid hLN;clear hown hrow hLN
    go_wp2_with (first
      | (go_at_call 77;refine Calls.mono (by with_reducible exact HF3.out _) ?_;rintro e w4 ⟨rfl,rfl⟩)
      | (go_at_call 76;refine Calls.mono (by with_reducible exact setR_any _ _ _) ?_;rintro e w3 ⟨rfl,hb3,x3⟩;have B3:=Lib.hid hb3;have X3:Hid (Ext wx w3):=Lib.hid (by first | exact x3 | exact(Ext.refl wx).trans x3);clear x3 hb3)
      | (at_builtin;refine wpList_append_lies _ rfl _ _ 31 rfl w2.heap.size 67 i0 _ 5 96 Tryz.underlying31 hi0 hz0 hz1 hz2 rfl (by decide) _ _ _ rfl (At.own_ext OW.out (X3.out.alloc _)) ⟨w3.heap.size,0,none⟩ 1 1 [.int .i64 4,.string kMg,.slice none 0 0,.slice (some ⟨wx.heap.size+1,0,none⟩) 1 1,.slice none 0 0] rfl rfl ?c1 ?c2 (by decide) ?c3 ?c4 ?c5 _ rfl ?_))
    case c1=>exact World.news_of_block (cs:=#[.int .i64 4,.string kMg,.slice none 0 0,.slice (some ⟨wx.heap.size+1,0,none⟩) 1 1,.slice none 0 0]) (t:=67) (fr:=(0,0)) (heap_alloc_new w3 _)
    case c2=>intro u hu;simp at hu;rcases hu with rfl | rfl | rfl | rfl | rfl <;> rfl
    case c3=>have:=HLN.out;unfold maxLen;omega
    case c4=>have:=HLN.out;omega
    case c5=>have:=HB.out.X.size;have:=X3.out.size;simp;omega
    intro g7 c7 w7 hown7 hgrow7 hor7 _;have hst:StmP (fun g=>g < 0\/wx.heap.size<=g) (w3.alloc (.cells #[.int .i64 4,.string kMg,.slice none 0 0,.slice (some ⟨wx.heap.size+1,0,none⟩) 1 1,.slice none 0 0] 67)) (setS kMg (fmtB mg)) [.int .i64 4,.string kMg,.slice none 0 0,.slice (some ⟨wx.heap.size+1,0,none⟩) 1 1,.slice none 0 0]:=stm_made (twoP_nil _ _) (TwoP.wide (one_two (At.heap_ext B3.out ((Ext.refl w3).alloc _)) (Nat.le_refl _)) (fun g hg=>.inr (by omega))) (Nat.le_refl _) (Nat.le_refl _) (Nat.zero_le _) (by unfold maxLen;omega);have HO7:=Lib.hid (OptA.next HB.out HLN.out OW.out OR.out (X3.out.alloc _) hst rfl hgrow7 hown7 (hor7.imp id fun h=>by rw[World.size_alloc];exact h));clear hown7 hgrow7 hor7 hst;go_wp2
    go_meet
    exact⟨_,rfl,Lib.hid (by rw[HL.out];exact HO7.out)⟩
  case rest =>
  clear HB b0 b1 b2 b3 b4 m0 m1 m2 m3 m4;obtain⟨v0,rfl,HB⟩:=hcut;obtain⟨wx,hwx⟩:∃ w':World,w'=wc:=⟨_,rfl⟩;subst hwx;obtain⟨b0,b1,b2,b3,b4⟩:=cells5g (At.heap_ext GB.out HB.out.X);obtain⟨m0,m1,m2,m3,m4⟩:=cells5g (At.heap_ext GM.out HB.out.X)
  go_upto_if 51 with(fail)
  go_cut [4] from 5 to 60 (fun s4 wx=>∃ v,v=s4/\Hid (OptA w2 R v wx))
  case first =>
    by_cases hc:rd=8
    · have f1:(rd != 8)=false:=by rw[hc];rfl
      have hl1:R=L4:=by rw[HR.out,if_pos hc];simp
      have HL:=Lib.hid hl1;clear hc hl1;go_wp2_with fail
      go_meet
      exact⟨_,rfl,Lib.hid (by rw[HL.out];exact HB.out)⟩
    have f1:(rd != 8)=true:=(nfacts hc).2;have hl1:R=L4++[setS kRd (fmtB (1000 * rd))]:=by rw[HR.out,if_neg hc]
    have HL:=Lib.hid hl1;clear hc hl1;obtain⟨XX,hown,hrow⟩:=HB.out.own.own;obtain⟨LN,hLN⟩:∃ n,n=L4.length:=⟨_,rfl⟩;have OW:Hid (wx.ownsRow w2.heap.size 67 5 v0 LN XX):=Lib.hid (by rw[hLN];exact hown);have OR:=Lib.hid hrow;have HLN:=Lib.hid hLN;clear hown hrow hLN
    go_wp2_with (first
      | (go_at_call 77;refine Calls.mono (by with_reducible exact HF4.out _) ?_;rintro e w4 ⟨rfl,rfl⟩)
      | (go_at_call 76;refine Calls.mono (by with_reducible exact setR_any _ _ _) ?_;rintro e w3 ⟨rfl,hb3,x3⟩;have B3:=Lib.hid hb3;have X3:Hid (Ext wx w3):=Lib.hid (by first | exact x3 | exact(Ext.refl wx).trans x3);clear x3 hb3)
      | (at_builtin;refine wpList_append_lies _ rfl _ _ 31 rfl w2.heap.size 67 i0 _ 5 96 Tryz.underlying31 hi0 hz0 hz1 hz2 rfl (by decide) _ _ _ rfl (At.own_ext OW.out (X3.out.alloc _)) ⟨w3.heap.size,0,none⟩ 1 1 [.int .i64 4,.string kRd,.slice none 0 0,.slice (some ⟨wx.heap.size+1,0,none⟩) 1 1,.slice none 0 0] rfl rfl ?c1 ?c2 (by decide) ?c3 ?c4 ?c5 _ rfl ?_))
    case c1=>exact World.news_of_block (cs:=#[.int .i64 4,.string kRd,.slice none 0 0,.slice (some ⟨wx.heap.size+1,0,none⟩) 1 1,.slice none 0 0]) (t:=67) (fr:=(0,0)) (heap_alloc_new w3 _)
    case c2=>intro u hu;simp at hu;rcases hu with rfl | rfl | rfl | rfl | rfl <;> rfl
    case c3=>have:=HLN.out;unfold maxLen;omega
    case c4=>have:=HLN.out;omega
    case c5=>have:=HB.out.X.size;have:=X3.out.size;simp;omega
    intro g7 c7 w7 hown7 hgrow7 hor7 _;have hst:StmP (fun g=>g < 0\/wx.heap.size<=g) (w3.alloc (.cells #[.int .i64 4,.string kRd,.slice none 0 0,.slice (some ⟨wx.heap.size+1,0,none⟩) 1 1,.slice none 0 0] 67)) (setS kRd (fmtB (1000 * rd))) [.int .i64 4,.string kRd,.slice none 0 0,.slice (some ⟨wx.heap.size+1,0,none⟩) 1 1,.slice none 0 0]:=stm_made (twoP_nil _ _) (TwoP.wide (one_two (At.heap_ext B3.out ((Ext.refl w3).alloc _)) (Nat.le_refl _)) (fun g hg=>.inr (by omega))) (Nat.le_refl _) (Nat.le_refl _) (Nat.zero_le _) (by unfold maxLen;omega);have HO7:=Lib.hid (OptA.next HB.out HLN.out OW.out OR.out (X3.out.alloc _) hst rfl hgrow7 hown7 (hor7.imp id fun h=>by rw[World.size_alloc];exact h));clear hown7 hgrow7 hor7 hst;go_wp2
    go_meet
    exact⟨_,rfl,Lib.hid (by rw[HL.out];exact HO7.out)⟩
  case rest =>
  clear HB b0 b1 b2 b3 b4 m0 m1 m2 m3 m4;obtain⟨v0,rfl,HB⟩:=hcut;obtain⟨wx,hwx⟩:∃ w':World,w'=wc:=⟨_,rfl⟩;subst hwx;obtain⟨b0,b1,b2,b3,b4⟩:=cells5g (At.heap_ext GB.out HB.out.X);obtain⟨m0,m1,m2,m3,m4⟩:=cells5g (At.heap_ext GM.out HB.out.X);go_wp2;go_ret;exact⟨⟨_,_,rfl,HSZ.out,HB.out.X.size,HB.out.own⟩,XB.out.trans HB.out.X⟩
end Go.Proofs.YtjaeedbjknejdaaGreatDoor.Ex
